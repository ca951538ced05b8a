/- Sealed numbers are read back; a sector of which one byte was turned is none: plain law. -/
import Derived.Test.YtlcpfhjbhogdiaaMake
set_option linter.unusedVariables false
set_option linter.unusedSimpArgs false
set_option maxRecDepth 100000
namespace Go.Proofs.Ytlcpfhjbhogdiaa
open Go Go.Eng Go.RowKit

theorem leTo_congr_lt {f g : Nat → Nat} : ∀ {k : Nat}, (∀ j, j < k → f j = g j) → leTo f k = leTo g k
  | 0, _ => rfl
  | k + 1, h => by rw [leTo, leTo, leTo_congr_lt (fun j hj => h j (by omega)), h k (by omega)]

theorem leTo_digits (q : Nat) : ∀ k, leTo (fun j => q / pw j % 256) k = q % pw k
  | 0 => by simp [leTo, pw, Nat.mod_one]
  | k + 1 => by
    rw [leTo, leTo_digits q k, pw_succ, Nat.mod_mul, Nat.mul_comm (pw k)]

theorem strOf_append (a b : List UInt8) : strOf (a ++ b) = strOf a ++ strOf b := by
  apply str_ext
  simp [strOf]

theorem fits_nat {n k : Int} (h : fitsB n k = true) : ∃ q m : Nat, n = q ∧ k = m ∧ 1 ≤ m ∧ m ≤ 6 ∧ q < pw m ∧ q ≤ 1099511627776 := by
  simp only [fitsB, widthB, Bool.and_eq_true, decide_eq_true_eq] at h
  obtain ⟨⟨⟨h1, h2⟩, h3⟩, h4⟩ := h
  refine ⟨n.toNat, k.toNat, by omega, by omega, by omega, by omega, ?_, ?_⟩
  · have := pw_pos k.toNat
    unfold mostN at h4
    unfold pw
    unfold pw at this
    omega
  · unfold mostN at h4; omega

/-- A number that fits is read back. -/
theorem getSpec_pack {n k : Int} (h : fitsB n k = true) (R : List UInt8) : getSpec (strOf (leB k n ++ R)) 0 k = (n, 0) := by
  have hw : widthB k = true := by
    simp only [fitsB, Bool.and_eq_true] at h; exact h.1.1
  obtain ⟨q, m, rfl, rfl, h1, h2, h3, h4⟩ := fits_nat h
  have hd : leTo (digit (strOf (leB m q ++ R)) (0 : Int).toNat) (m : Int).toNat = q := by
    rw [Int.toNat_natCast, leTo_congr_lt (g := fun j => q / pw j % 256) (fun j hj => ?_), leTo_digits, Nat.mod_eq_of_lt h3]
    rw [digit, byteAt_list, strOf_list]
    have hlen : j < (leB (m : Int) (q : Int)).length := by rw [leB, leTake_len]; exact hj
    rw [List.getD, List.getElem?_append_left (by simpa using hlen)]
    simp only [leB, leTake, Int.toNat_natCast, Int.toNat_zero, Nat.zero_add, List.getElem?_map, List.getElem?_range hj, Option.map_some, Option.getD_some]
    exact ofNat_mod _
  rw [getSpec, if_neg (by simp [hw]), hd, if_neg (by rw [strOf_size, List.length_append, leB, leTake_len]; omega), if_neg (by omega)]

theorem restOf_pack (n k : Int) (R : List UInt8) : restOf (strOf (leB k n ++ R)) k.toNat = strOf R := by
  apply str_ext
  rw [restOf_list, strOf_list, strOf_list, List.drop_left']
  rw [leB, leTake_len]

theorem fldA_pack : ∀ (ks ns acc : List Int) (R : List UInt8), ks.length = ns.length → (∀ (i : Nat) (k n : Int), ks[i]? = some k → ns[i]? = some n → fitsB n k = true) → fldA acc (strOf (packL ks ns ++ R)) ks = some (acc ++ ns, strOf R)
  | [], [], acc, R, _, _ => by simp [fldA, packL]
  | k :: ks, n :: ns, acc, R, hl, h => by
    have h0 := h 0 k n rfl rfl
    rw [packL, List.append_assoc, fldA, getSpec_pack h0, if_neg (by simp), restOf_pack, fldA_pack ks ns (acc ++ [n]) R (by simpa using hl) (fun i k n hk hn => h (i + 1) k n (by simpa using hk) (by simpa using hn))]
    simp
  | [], _ :: _, _, _, hl, _ => by simp at hl
  | _ :: _, [], _, _, hl, _ => by simp at hl

theorem seal_shape (k : UInt8) (load : List UInt8) : ∃ b1 b2 T, sealL k load = k :: b1 :: b2 :: (load ++ T) ∧ T.length = 4 := by
  refine ⟨UInt8.ofNat (load.length / pw 0 % 256), UInt8.ofNat (load.length / pw 1 % 256), leTake (crcOf (body k load)) 4, ?_, leTake_len _ _⟩
  obtain ⟨c, hc⟩ : ∃ c, leTake (crcOf (body k load)) 4 = c := ⟨_, rfl⟩
  rw [sealL, hc, body_eq]
  rfl

theorem loadOf_seal (k : UInt8) (load : List UInt8) : loadOf (strOf (sealL k load)) = strOf load := by
  obtain ⟨b1, b2, T, h1, h2⟩ := seal_shape k load
  have hsz : (strOf (sealL k load)).size = 7 + load.length := by rw [strOf_size, sealL_len]
  apply str_ext
  rw [loadOf, ByteArray.data_extract, Array.toList_extract, List.extract_eq_take_drop, hsz, strOf_list, strOf_list, h1, show 7 + load.length - 4 - 3 = load.length by omega]
  simp

theorem byteAt_seal (k : UInt8) (load : List UInt8) : byteAt (strOf (sealL k load)) 0 = k := by
  obtain ⟨b1, b2, T, h1, _⟩ := seal_shape k load
  rw [byteAt_list, strOf_list, h1]
  rfl

theorem openB_seal {k : UInt8} {load : List UInt8} (h1 : 1 ≤ k.toNat) (h2 : k.toNat ≤ 127) (h3 : load.length ≤ 505) : openB (strOf (sealL k load)) = true := by
  have hsz : (strOf (sealL k load)).size = 7 + load.length := by rw [strOf_size, sealL_len]
  simp only [openB, Bool.and_eq_true, decide_eq_true_eq]
  rw [byteAt_seal, loadOf_seal, strOf_list, strOf_list, hsz]
  exact ⟨⟨⟨⟨by omega, by omega⟩, h1⟩, h2⟩, rfl⟩

theorem leTake_inj {a b : Nat} (ha : a < 4294967296) (hb : b < 4294967296) (h : leTake a 4 = leTake b 4) : a = b := by
  have hl := leTake_len b 4
  match hq : leTake b 4, hl with
  | [c0, c1, c2, c3], _ =>
    have h1 := (four_eq ha c0 c1 c2 c3).1 (h.trans hq)
    have h2 := (four_eq hb c0 c1 c2 c3).1 hq
    omega

theorem open_cut {s : ByteArray} (h : openB s = true) : s.data.toList.drop (s.size - 4) = leTake (crcOf (s.data.toList.take (s.size - 4))) 4 := by
  simp only [openB, Bool.and_eq_true, decide_eq_true_eq] at h
  obtain ⟨⟨⟨⟨h1, h2⟩, h3⟩, h4⟩, h5⟩ := h
  have hl := body_len (byteAt s 0) (loadOf s).data.toList
  have hls : (loadOf s).data.toList.length = s.size - 7 := by rw [size_list, loadOf, ByteArray.size_extract]; omega
  rw [← h5, sealL, List.take_left' (by omega), List.drop_left' (by omega)]

/-- One byte turned: no sector any more. -/
theorem open_flip {s s' : ByteArray} (h : openB s = true) {A R : List UInt8} {b c : UInt8} (hs : s.data.toList = A ++ b :: R) (hs' : s'.data.toList = A ++ c :: R) (hne : b ≠ c) : openB s' = false := by
  rw [Bool.eq_false_iff]
  intro h'
  have hz : s'.size = s.size := by rw [← size_list, ← size_list, hs, hs']; simp
  have e1 := open_cut h
  have e2 := open_cut h'
  rw [hz] at e2
  obtain ⟨n, hn⟩ : ∃ n, s.size - 4 = n := ⟨_, rfl⟩
  rw [hn] at e1 e2
  rw [hs] at e1
  rw [hs'] at e2
  by_cases hA : A.length < n
  · obtain ⟨j, hj⟩ : ∃ j, n = A.length + (j + 1) := ⟨n - A.length - 1, by omega⟩
    have ht : ∀ d : UInt8, (A ++ d :: R).take n = A ++ d :: R.take j := fun d => by rw [hj, List.take_append, List.take_of_length_le (by omega), Nat.add_sub_cancel_left, List.take_succ_cons]
    have hd : ∀ d : UInt8, (A ++ d :: R).drop n = R.drop j := fun d => by rw [hj, List.drop_append, List.drop_of_length_le (by omega), Nat.add_sub_cancel_left, List.drop_succ_cons, List.nil_append]
    rw [ht, hd] at e1 e2
    exact crcOf_ne A (R.take j) hne (leTake_inj (crcOf_lt _) (crcOf_lt _) (e1.symm.trans e2))
  · have ht : ∀ d : UInt8, (A ++ d :: R).take n = A.take n := fun d => List.take_append_of_le_length (by omega)
    rw [ht] at e1 e2
    have h3 : (A ++ b :: R) = (A ++ c :: R) := by
      rw [← List.take_append_drop n (A ++ b :: R), ← List.take_append_drop n (A ++ c :: R), ht, ht, e1, e2]
    simp only [List.append_cancel_left_eq, List.cons.injEq, and_true] at h3
    exact hne h3

theorem kind6 : kindOf8 6 = 6 := by decide

/-- A record's sector is read as it. -/
theorem fields_rec {r : Record} (ok : RecOk r) : fieldsR 6 (recBytes r) rWidths = some (rNums r, r.text) := by
  have h17 := rec_pack17 r
  have ht := ok.text
  have hl : (packL rWidths (rNums r) ++ r.text.data.toList).length ≤ 505 := by rw [List.length_append, size_list]; omega
  have ho : openB (recBytes r) = true := openB_seal (by decide) (by decide) hl
  have hof : ofB 6 (recBytes r) = true := by
    rw [ofB, ho, recBytes, byteAt_seal]; rfl
  rw [fieldsR, if_pos hof, recBytes, loadOf_seal, fldA_pack rWidths (rNums r) [] r.text.data.toList rfl (rec_fits ok), strOf_data]
  rfl

theorem read_rec {r : Record} (h : recB r = true) : readB (recBytes r) = true ∧ readV (recBytes r) = r ∧ readE (recBytes r) = 0 := by
  have hf := fields_rec (recOk h)
  have h1 : readB (recBytes r) = true := by
    rw [readB, hf]; exact h
  refine ⟨h1, ?_, by rw [readE, if_pos h1]⟩
  rw [readV, if_pos h1, hf]
  rfl

theorem read_flip {r : Record} (h : recB r = true) {s' : ByteArray} {A R : List UInt8} {b c : UInt8} (hs : (recBytes r).data.toList = A ++ b :: R) (hs' : s'.data.toList = A ++ c :: R) (hne : b ≠ c) : readE s' = 50 := by
  have ok := recOk h
  have h17 := rec_pack17 r
  have ht := ok.text
  have hl : (packL rWidths (rNums r) ++ r.text.data.toList).length ≤ 505 := by rw [List.length_append, size_list]; omega
  have ho : openB (recBytes r) = true := openB_seal (by decide) (by decide) hl
  have hno := open_flip ho hs hs' hne
  have hf : fieldsR 6 s' rWidths = none := by rw [fieldsR, if_neg (by simp [ofB, hno])]
  rw [readE, if_neg (by simp [readB, hf])]

/-- A byte of which one bit is turned is another byte. -/
theorem byte_turn (x : UInt8) (j : Nat) (hj : j < 8) : ∃ c : UInt8, c ≠ x ∧ bits .xor .u8 ((x.toNat : Nat) : Int) (IntKind.u8.wrap (1 * 2 ^ j)) = ((c.toNat : Nat) : Int) := by
  have hp : (2 : Nat) ^ j < 256 := Nat.lt_of_lt_of_le (Nat.pow_lt_pow_right (by omega) hj) (by decide)
  have hx := UInt8.toNat_lt x
  have e : IntKind.u8.wrap (1 * 2 ^ j) = ((2 ^ j : Nat) : Int) := by
    rw [Int.one_mul, show (2 : Int) ^ j = ((2 ^ j : Nat) : Int) by norm_cast, wrapU8 hp]
  have hlt : x.toNat ^^^ 2 ^ j < 256 := Nat.xor_lt_two_pow (n := 8) hx hp
  refine ⟨UInt8.ofNat (x.toNat ^^^ 2 ^ j), fun h => ?_, ?_⟩
  · have h1 := congrArg UInt8.toNat h
    rw [UInt8.toNat_ofNat', Nat.mod_eq_of_lt (by omega)] at h1
    have h2 : (x.toNat ^^^ 2 ^ j) = x.toNat ^^^ 0 := by rw [h1, Nat.xor_zero]
    have h3 := xor_cancel_l h2
    have := Nat.pow_pos (n := j) (show 0 < 2 by omega)
    omega
  · rw [e, u8_xor_nat _ _ hx hp, UInt8.toNat_ofNat', Nat.mod_eq_of_lt (by omega)]

theorem list_split {L : List UInt8} {i : Nat} {b : UInt8} (h : L[i]? = some b) : L = L.take i ++ b :: L.drop (i + 1) ∧ ∀ c, L.set i c = L.take i ++ c :: L.drop (i + 1) := by
  have hlt := (List.getElem?_eq_some_iff.1 h).1
  have hb := (List.getElem?_eq_some_iff.1 h).2
  constructor
  · conv => lhs; rw [← List.take_append_drop i L, List.drop_eq_getElem_cons hlt, hb]
  · intro c
    rw [List.set_eq_take_append_cons_drop, if_pos hlt]
end Go.Proofs.Ytlcpfhjbhogdiaa
