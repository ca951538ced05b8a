/- The law RecordBack from what comes in. -/
import Derived.Test.YtlcpfhjbhogdiaaBackL
set_option linter.unusedVariables false
set_option linter.unusedSimpArgs false
set_option maxRecDepth 100000
namespace Go.Proofs.Ytlcpfhjbhogdiaa
open Go Go.Eng Go.RowKit

theorem is_rec {r : Record} (h : recB r = true) (key lsn : Int) : isB (recBytes r) key lsn = (decide (r.key = key) && decide (r.lsn = lsn)) := by
  obtain ⟨h1, h2, _⟩ := read_rec h
  rw [isB, h1, h2, Bool.true_and]

theorem recBytes_size {r : Record} (ok : RecOk r) : (recBytes r).size = 24 + r.text.size := by
  rw [recBytes, strOf_size, sealL_len, List.length_append, rec_pack17, size_list]; omega

theorem recordBack_law (w : World) {v0 v1 : Value} (R0 : ∃ r : Record, v0 = r.val ∧ r.Ok) (R1 : ∃ n : Int, v1 = I n ∧ R64 n) :
    Calls Try.prog 10 #[v0, v1] w fun e w' => e = .returned (.bool true) ∧ Below w.heap.size w w' := by
  obtain ⟨r, rfl, _⟩ := R0
  obtain ⟨bit, rfl, hbit⟩ := R1
  refine enter (E := E0) (O := []) (nl := 0) (V := vw w) [.a (.v r.val), .a (.v (I bit))] Try.func10 rfl rfl (mem0 E0 0 w) rfl rfl ?_
  refine c_seq ?_
  refine c_region ?_
  refine o_new tok rfl rfl rfl rfl ?_
  refine o_yield rfl rfl rfl (y_val tok rfl) ?_
  refine o_end [1, 2] rfl ?_
  refine x_then ?_
  refine c_seq ?_
  refine c_seq ?_
  refine c_region ?_
  refine o_yield rfl rfl rfl (y_val tok rfl) ?_
  refine o_yield rfl rfl rfl (y_val tok rfl) ?_
  refine o_yield rfl rfl rfl (y_val tok rfl) ?_
  refine o_yield rfl rfl rfl (y_val tok rfl) ?_
  refine o_end [1, 2, 20] rfl ?_
  refine x_then ?_
  refine c_cond rfl (fun h => ?_) (fun h => ?_)
  ·
    simp only [Bool.and_eq_true, Bool.or_eq_true, Bool.not_eq_true', Bool.or_eq_false_iff, Bool.and_eq_false_iff, decide_eq_true_eq, decide_eq_false_iff_not, beq_iff_eq, bne_iff_ne, Bool.not_eq_false', beq_eq_false_iff_ne, bne_eq_false_iff_eq, ne_eq, Decidable.not_not, Int.not_lt, Int.not_le] at h
    refine c_seq ?_
    refine c_region ?_
    refine o_call (.a (.v _)) rfl rfl fnok16 rfl rfl rfl (fun hg E w1 hm => by exact wakes16_c _) ?_
    refine o_yield rfl rfl rfl (y_val tok rfl) ?_
    refine o_end [4] rfl ?_
    refine x_then ?_
    refine c_ret ?_
    refine x_then_ret ?_
    refine b_ret tok rfl ?_
    intro E w' hm _
    refine ⟨?_, hm.below (Vw.le.refl _)⟩
    rfl
  ·
    simp only [Bool.and_eq_true, Bool.or_eq_true, Bool.not_eq_true', Bool.or_eq_false_iff, Bool.and_eq_false_iff, decide_eq_true_eq, decide_eq_false_iff_not, beq_iff_eq, bne_iff_ne, Bool.not_eq_false', beq_eq_false_iff_ne, bne_eq_false_iff_eq, ne_eq, Decidable.not_not, Int.not_lt, Int.not_le] at h
    refine c_skip ?_
    refine x_then ?_
    refine c_seq ?_
    refine c_region ?_
    refine o_yield rfl rfl rfl (y_val tok rfl) ?_
    cases hr : recB r with
    | false =>
      have hE : bytesE r = 2 := by rw [bytesE, if_neg (by simp [hr])]
      refine o_call (.a (.v _)) rfl rfl fnok40 rfl rfl rfl (fun hg E w1 hm => by exact recBytes_c r _) ?_
      refine o_yield rfl rfl rfl (y_val tok rfl) ?_
      refine o_yield rfl rfl rfl (y_val tok rfl) ?_
      refine o_yield rfl rfl rfl (y_val tok rfl) ?_
      refine o_yield rfl rfl rfl (y_val tok rfl) ?_
      refine o_yield rfl rfl rfl (y_val tok rfl) ?_
      refine o_end [1, 2, 5, 6] rfl ?_
      refine x_then ?_
      refine c_seq ?_
      refine c_seq ?_
      refine c_region ?_
      refine o_yield rfl rfl rfl (y_val tok rfl) ?_
      refine o_yield rfl rfl rfl (y_val tok rfl) ?_
      refine o_end [1, 2, 5, 28] rfl ?_
      refine x_then ?_
      refine c_cond rfl (fun h => ?_) (fun h => ?_)
      ·
        refine c_seq ?_
        refine c_region ?_
        refine o_yield rfl rfl rfl (y_val tok rfl) ?_
        refine o_yield rfl rfl rfl (y_val tok rfl) ?_
        refine o_yield rfl rfl rfl (y_val tok rfl) ?_
        refine o_yield rfl rfl rfl (y_val tok rfl) ?_
        refine o_call (.a (.v _)) rfl rfl fnok41 rfl rfl rfl (fun hg E w1 hm => by exact recMay_c r _) ?_
        refine o_yield rfl rfl rfl (y_val tok rfl) ?_
        refine o_yield rfl rfl rfl (y_val tok rfl) ?_
        refine o_yield rfl rfl rfl (y_val tok rfl) ?_
        refine o_call (.a (.v _)) rfl rfl fnok16 rfl rfl rfl (fun hg E w1 hm => by exact wakes16_c _) ?_
        refine o_yield rfl rfl rfl (y_val tok rfl) ?_
        refine o_yield rfl rfl rfl (y_val tok rfl) ?_
        refine o_end [4] rfl ?_
        refine x_then ?_
        refine c_ret ?_
        refine x_then_ret ?_
        refine b_ret tok rfl ?_
        intro E w' hm _
        refine ⟨?_, hm.below (Vw.le.refl _)⟩
        rw [hr, show bytesV r = ByteArray.empty by rw [bytesV, if_neg (by simp [hr])]]
        show Ending.returned (.bool (((ByteArray.empty.toList == ByteArray.empty.toList) && !false) && true)) = _
        rw [empty_beq]
        rfl
      · rw [hE] at h
        exact absurd h (by decide)
    | true =>
      have ok := recOk hr
      have hsz := recBytes_size ok
      have ht := ok.text
      have hl1 := ok.lsn
      obtain ⟨h1, h2, h3⟩ := read_rec hr
      have i1 := is_rec hr r.key r.lsn
      have i2 := is_rec hr r.key (r.lsn + 1)
      have i3 := is_rec hr (r.key + 16) r.lsn
      rw [decide_eq_true rfl, decide_eq_true rfl] at i1
      rw [decide_eq_false (show ¬ r.lsn = r.lsn + 1 by omega), Bool.and_false] at i2
      rw [decide_eq_false (show ¬ r.key = r.key + 16 by omega), Bool.false_and] at i3
      have hE : bytesE r = 0 := by rw [bytesE, if_pos hr]
      have hbv : bytesV r = recBytes r := by rw [bytesV, if_pos hr]
      obtain ⟨s, hs⟩ : ∃ s, recBytes r = s := ⟨_, rfl⟩
      have hflip : ∀ {s' : ByteArray} {A R : List UInt8} {b c : UInt8}, s.data.toList = A ++ b :: R → s'.data.toList = A ++ c :: R → b ≠ c → readE s' = 50 := fun hq => read_flip hr (by rw [hs]; exact hq)
      have hkey := ok.key
      rw [hs] at hsz h1 h2 h3 i1 i2 i3 hbv
      clear hs
      refine o_call (.a (.v _)) rfl rfl fnok40 rfl rfl rfl (fun hg E w1 hm => by exact recBytes_c r _) ?_
      refine o_yield rfl rfl rfl (y_val tok rfl) ?_
      refine o_yield rfl rfl rfl (y_val tok rfl) ?_
      refine o_yield rfl rfl rfl (y_val tok rfl) ?_
      refine o_yield rfl rfl rfl (y_val tok rfl) ?_
      refine o_yield rfl rfl rfl (y_val tok rfl) ?_
      refine o_end [1, 2, 5, 6] rfl ?_
      refine x_then ?_
      refine c_seq ?_
      refine c_seq ?_
      refine c_region ?_
      refine o_yield rfl rfl rfl (y_val tok rfl) ?_
      refine o_yield rfl rfl rfl (y_val tok rfl) ?_
      refine o_end [1, 2, 5, 28] rfl ?_
      refine x_then ?_
      refine c_cond rfl (fun h => ?_) (fun h => ?_)
      · rw [hE] at h
        exact absurd h (by decide)
      ·
        rw [hbv]
        refine c_skip ?_
        refine x_then ?_
        refine c_seq ?_
        refine c_region ?_
        refine o_yield rfl rfl rfl (y_val tok rfl) ?_
        have hmx : s.size ≤ maxLen := by simp only [maxLen]; omega
        refine o_call (.a (.v _)) rfl rfl fnok21 rfl rfl rfl (fun hg E w1 hm => by exact recRead_c s hmx _) ?_
        refine o_yield rfl rfl rfl (y_val tok rfl) ?_
        refine o_yield rfl rfl rfl (y_val tok rfl) ?_
        refine o_yield rfl rfl rfl (y_val tok rfl) ?_
        refine o_new tok rfl rfl rfl rfl ?_
        refine o_store tok rfl rfl rfl (by first | exact ⟨trivial, trivial⟩ | simp [onesP, oneP, lk, Value.oneCell']) ?_
        refine o_yield rfl rfl rfl (y_val tok rfl) ?_
        refine o_end [1, 2, 5, 7, 8] rfl ?_
        refine x_then ?_
        refine c_seq ?_
        refine c_region ?_
        refine o_yield rfl rfl rfl (y_val tok rfl) ?_
        refine o_yield rfl rfl rfl (y_val tok rfl) ?_
        refine o_yield rfl rfl rfl (y_val tok rfl) ?_
        refine o_yield rfl rfl rfl (y_val tok rfl) ?_
        refine o_yield rfl rfl rfl (y_val tok rfl) ?_
        refine o_call (.a (.v _)) rfl rfl fnok23 rfl rfl rfl (fun hg E w1 hm => by exact recIs_c s _ _ hmx _) ?_
        refine o_yield rfl rfl rfl (y_val tok rfl) ?_
        refine o_yield rfl rfl rfl (y_val tok rfl) ?_
        refine o_yield rfl rfl rfl (y_val tok rfl) ?_
        refine o_new tok rfl rfl rfl rfl ?_
        refine o_store tok rfl rfl rfl (by first | exact ⟨trivial, trivial⟩ | simp [onesP, oneP, lk, Value.oneCell']) ?_
        refine o_yield rfl rfl rfl (y_val tok rfl) ?_
        refine o_end [1, 2, 5, 7, 8, 10] rfl ?_
        refine x_then ?_
        refine c_seq ?_
        refine c_region ?_
        refine o_yield rfl rfl rfl (y_val tok rfl) ?_
        refine o_yield rfl rfl rfl (y_val tok rfl) ?_
        refine o_yield rfl rfl rfl (y_val tok rfl) ?_
        refine o_yield rfl rfl rfl (y_val tok rfl) ?_
        refine o_yield rfl rfl rfl (y_val tok rfl) ?_
        refine o_yield rfl rfl rfl (y_val tok rfl) ?_
        rw [wrapI (n := r.lsn + 1) (by omega) (by omega)]
        refine o_call (.a (.v _)) rfl rfl fnok23 rfl rfl rfl (fun hg E w1 hm => by exact recIs_c s _ _ hmx _) ?_
        refine o_yield rfl rfl rfl (y_val tok rfl) ?_
        refine o_yield rfl rfl rfl (y_val tok rfl) ?_
        refine o_yield rfl rfl rfl (y_val tok rfl) ?_
        refine o_new tok rfl rfl rfl rfl ?_
        refine o_store tok rfl rfl rfl (by first | exact ⟨trivial, trivial⟩ | simp [onesP, oneP, lk, Value.oneCell']) ?_
        refine o_yield rfl rfl rfl (y_val tok rfl) ?_
        refine o_end [1, 2, 5, 7, 8, 10, 12] rfl ?_
        refine x_then ?_
        refine c_seq ?_
        refine c_region ?_
        refine o_yield rfl rfl rfl (y_val tok rfl) ?_
        refine o_yield rfl rfl rfl (y_val tok rfl) ?_
        refine o_yield rfl rfl rfl (y_val tok rfl) ?_
        refine o_yield rfl rfl rfl (y_val tok rfl) ?_
        refine o_yield rfl rfl rfl (y_val tok rfl) ?_
        refine o_yield rfl rfl rfl (y_val tok rfl) ?_
        rw [wrapI (n := r.key + 16) (by omega) (by omega)]
        refine o_call (.a (.v _)) rfl rfl fnok23 rfl rfl rfl (fun hg E w1 hm => by exact recIs_c s _ _ hmx _) ?_
        refine o_yield rfl rfl rfl (y_val tok rfl) ?_
        refine o_yield rfl rfl rfl (y_val tok rfl) ?_
        refine o_yield rfl rfl rfl (y_val tok rfl) ?_
        refine o_new tok rfl rfl rfl rfl ?_
        refine o_store tok rfl rfl rfl (by first | exact ⟨trivial, trivial⟩ | simp [onesP, oneP, lk, Value.oneCell']) ?_
        refine o_yield rfl rfl rfl (y_val tok rfl) ?_
        refine o_end [1, 2, 5, 7, 8, 10, 12, 14] rfl ?_
        refine x_then ?_
        refine c_seq ?_
        refine c_seq ?_
        refine c_region ?_
        refine o_yield rfl rfl rfl (y_val tok rfl) ?_
        refine o_yield rfl rfl rfl (y_val tok rfl) ?_
        refine o_yield rfl rfl rfl (y_val tok rfl) ?_
        refine o_yield rfl rfl rfl (y_val tok rfl) ?_
        refine o_yield rfl rfl rfl (y_val tok rfl) ?_
        rw [h3, h2, i1, i2, i3]
        refine o_yield rfl rfl rfl (y_seq (.bool (!(r.eqB r))) rfl (fun E w => recEq r r w (.inr rfl))) ?_
        refine o_yield rfl rfl rfl (y_val tok rfl) ?_
        refine o_yield rfl rfl rfl (y_val tok rfl) ?_
        refine o_yield rfl rfl rfl (y_val tok rfl) ?_
        refine o_yield rfl rfl rfl (y_val tok rfl) ?_
        refine o_yield rfl rfl rfl (y_val tok rfl) ?_
        refine o_yield rfl rfl rfl (y_val tok rfl) ?_
        refine o_yield rfl rfl rfl (y_val tok rfl) ?_
        refine o_yield rfl rfl rfl (y_val tok rfl) ?_
        refine o_yield rfl rfl rfl (y_val tok rfl) ?_
        refine o_yield rfl rfl rfl (y_val tok rfl) ?_
        refine o_yield rfl rfl rfl (y_val tok rfl) ?_
        refine o_yield rfl rfl rfl (y_val tok rfl) ?_
        refine o_yield rfl rfl rfl (y_val tok rfl) ?_
        refine o_yield rfl rfl rfl (y_val tok rfl) ?_
        refine o_yield rfl rfl rfl (y_val tok rfl) ?_
        refine o_yield rfl rfl rfl (y_val tok rfl) ?_
        refine o_yield rfl rfl rfl (y_val tok rfl) ?_
        refine o_yield rfl rfl rfl (y_val tok rfl) ?_
        refine o_yield rfl rfl rfl (y_val tok rfl) ?_
        refine o_yield rfl rfl rfl (y_val tok rfl) ?_
        refine o_yield rfl rfl rfl (y_val tok rfl) ?_
        refine o_end [1, 5, 99] rfl ?_
        refine x_then ?_
        refine c_cond rfl (fun h => ?_) (fun h => ?_)
        · rw [eqB_refl] at h
          simp only [bne_self_eq_false, Bool.not_true, Bool.and_self, Bool.false_or, Bool.or_false, Bool.or_eq_true, beq_iff_eq, decide_eq_true_eq] at h
          omega
        ·
          refine c_skip ?_
          refine x_then ?_
          refine c_seq ?_
          refine c_region ?_
          refine o_yield rfl rfl rfl (y_val tok rfl) ?_
          clear h
          refine o_step rfl rfl rfl rfl rfl (s_s2bX tok rfl) (fun x hx => ?_)
          obtain ⟨hxl, hx2⟩ := hx
          have hsl := hx2.sl
          obtain ⟨v, V2⟩ := x
          dsimp only at hxl hx2 hsl
          obtain ⟨b, cap, cs, el, fz, rfl, g1, g2, g3, g4, g5, g6⟩ := hx2
          have hlen := size_list s
          obtain ⟨n, hn⟩ : ∃ n : Nat, 8 * s.size = n := ⟨_, rfl⟩
          have hw8 : IntKind.i64.wrap (8 * (s.data.toList.length : Int)) = (n : Int) := by rw [wrapI (by omega) (by omega)]; omega
          refine o_yield rfl rfl rfl (y_val tok rfl) ?_
          refine o_end [1, 15] rfl ?_
          refine x_then ?_
          refine c_seq ?_
          refine c_region ?_
          refine o_yield rfl rfl rfl (y_val tok rfl) ?_
          refine o_yield rfl rfl rfl (y_val tok rfl) ?_
          refine o_yield rfl rfl rfl (y_len tok rfl (fun hg => hsl.sl)) ?_
          refine o_yield rfl rfl rfl (y_val tok rfl) ?_
          rw [hw8]
          refine o_yield rfl rfl rfl (y_rem rfl (fun hg => by omega)) ?_
          refine o_yield rfl rfl rfl (y_val tok rfl) ?_
          refine o_yield rfl rfl rfl (y_len tok rfl (fun hg => hsl.sl)) ?_
          refine o_yield rfl rfl rfl (y_val tok rfl) ?_
          refine o_yield rfl rfl rfl (y_val tok rfl) ?_
          refine o_yield rfl rfl rfl (y_val tok rfl) ?_
          rw [hw8]
          have hb1 : -(n : Int) < bit.tmod n ∧ bit.tmod n < n := by
            have := Int.tmod_lt_of_pos bit (show (0 : Int) < n by omega)
            have := Int.lt_tmod_of_pos bit (show (0 : Int) < n by omega)
            omega
          rw [wrapI (n := bit.tmod n + n) (by omega) (by omega)]
          refine o_yield rfl rfl rfl (y_len tok rfl (fun hg => hsl.sl)) ?_
          refine o_yield rfl rfl rfl (y_val tok rfl) ?_
          rw [hw8]
          refine o_yield rfl rfl rfl (y_rem rfl (fun hg => by omega)) ?_
          refine o_yield rfl rfl rfl (y_val tok rfl) ?_
          refine o_end [15, 16] rfl ?_
          refine x_then ?_
          refine c_seq ?_
          refine c_region ?_
          refine o_yield rfl rfl rfl (y_val tok rfl) ?_
          refine o_yield rfl rfl rfl (y_val tok rfl) ?_
          obtain ⟨j, hj, hjl⟩ : ∃ j : Nat, (bit.tmod n + n).tmod n = (j : Int) ∧ j < n := by
            have h1 := Int.tmod_nonneg (n : Int) (show 0 ≤ bit.tmod n + n by omega)
            have h2 := Int.tmod_lt_of_pos (bit.tmod n + n) (show (0 : Int) < n by omega)
            exact ⟨((bit.tmod n + n).tmod n).toNat, by omega, by omega⟩
          rw [hj]
          have hq8 : IntKind.i64.wrap ((j : Int).tdiv 8) = ((j / 8 : Nat) : Int) := by
            rw [Int.tdiv_eq_ediv_of_nonneg (by omega), wrapI (by omega) (by omega)]; omega
          refine o_yield rfl rfl rfl (y_quo rfl (fun hg => by decide)) ?_
          refine o_yield rfl rfl rfl (y_val tok rfl) ?_
          refine o_yield rfl rfl rfl (y_val tok rfl) ?_
          rw [hq8]
          refine o_yield rfl rfl rfl (y_quo rfl (fun hg => by decide)) ?_
          rw [hq8]
          obtain ⟨c0, h_c0⟩ := hsl.at (k := j / 8) (by omega)
          have hlt_c0 := lt_of_at h_c0
          refine o_yield rfl rfl rfl (y_idx tok rfl (fun hg => hsl.sl) (fun hg => ⟨by omega, by omega⟩)) ?_
          refine o_yield rfl rfl rfl (y_lel tok (j / 8) 0 (c0) rfl (fun hg => hsl) (fun hg => h_c0) rfl rfl) ?_
          refine o_yield rfl rfl rfl (y_val tok rfl) ?_
          refine o_yield rfl rfl rfl (y_rem rfl (fun hg => by decide)) ?_
          refine o_yield rfl rfl rfl (y_val tok rfl) ?_
          rw [Int.tmod_eq_emod_of_nonneg (by omega), show IntKind.u64.wrap ((j : Int) % 8) = ((j % 8 : Nat) : Int) by rw [IntKind.wrap_u64]; omega]
          refine o_yield rfl rfl rfl (y_shl rfl (fun hg => ⟨by omega, by show ((j % 8 : Nat) : Int) ≤ 8; omega⟩)) ?_
          refine o_yield rfl rfl rfl (y_val tok rfl) ?_
          obtain ⟨c1, hc1, hbits⟩ := byte_turn c0 (j % 8) (by omega)
          rw [Int.toNat_natCast, hbits]
          refine o_yield rfl rfl rfl (y_idxK tok (j / 8) rfl (by simp; omega) (fun hg => hsl.sl) (fun hg => by omega)) ?_
          refine o_stepN rfl rfl rfl rfl (s_vst tok rfl g2 (by omega) (.inr (by omega)) rfl) (fun _ _ => ?_)
          refine o_end [15] rfl ?_
          refine x_then ?_
          refine c_seq ?_
          refine c_region ?_
          refine o_yield rfl rfl rfl (y_val tok rfl) ?_
          have hset := s2b_set (V' := V2) (b := b) (e := el) (fz := fz) (c := c1) (show j / 8 < s.size by omega) g1 g3 g4
          have hsp := list_split h_c0
          have hsl2 := (hsp.2 c1)
          refine o_yield rfl rfl rfl (y_b2s tok (s.data.toList.set (j / 8) c1) rfl (fun hg => hset.sl)) ?_
          refine o_call (.a (.v _)) rfl rfl fnok21 rfl rfl rfl (fun hg E w1 hm => by exact recRead_c (strOf (s.data.toList.set (j / 8) c1)) (by rw [strOf_size, List.length_set]; simp only [maxLen]; omega) _) ?_
          refine o_yield rfl rfl rfl (y_val tok rfl) ?_
          refine o_yield rfl rfl rfl (y_val tok rfl) ?_
          refine o_yield rfl rfl rfl (y_val tok rfl) ?_
          refine o_yield rfl rfl rfl (y_val tok rfl) ?_
          refine o_end [8] rfl ?_
          refine x_then ?_
          refine c_seq ?_
          refine c_region ?_
          refine o_yield rfl rfl rfl (y_val tok rfl) ?_
          refine o_yield rfl rfl rfl (y_val tok rfl) ?_
          refine o_yield rfl rfl rfl (y_val tok rfl) ?_
          rw [hflip hsp.1 (s' := strOf (s.data.toList.set (j / 8) c1)) (by rw [strOf_list]; exact hsl2) (Ne.symm hc1)]
          refine o_call (.a (.v _)) rfl rfl fnok16 rfl rfl rfl (fun hg E w1 hm => by exact wakes16_c _) ?_
          refine o_yield rfl rfl rfl (y_val tok rfl) ?_
          refine o_yield rfl rfl rfl (y_val tok rfl) ?_
          refine o_end [4] rfl ?_
          refine x_then ?_
          refine c_ret ?_
          refine b_ret tok rfl ?_
          have hle : (vw w).le (V2.put b (.cells (cs.setIfInBounds (0 + j / 8) (.int .u8 c1.toNat)) el fz)) := by
            refine ⟨fun k ob hk => ?_, hxl.os, hxl.tape, hxl.output⟩
            show (if _ then _ else _) = _
            rw [if_neg (fun hkb => by rw [hkb, g6] at hk; cases hk)]
            exact hxl.get k ob hk
          intro E w' hm _
          refine ⟨?_, hm.below (hle)⟩
          rfl
end Go.Proofs.Ytlcpfhjbhogdiaa
