/- Spans: the laws SpanBlocks, SpanCovers, SpanTells from what comes in. -/
import Derived.Test.YtjddnkjeilmejaaSpRd
set_option linter.unusedVariables false
set_option linter.unusedSimpArgs false
set_option maxRecDepth 100000
namespace Go.Proofs.Ytjddnkjeilmejaa
open Go Go.Eng Go.RowKit

theorem spanBlocks_law (W : World) {v0 v1 : Value} (R0 : ∃ a : Hold, v0 = a.val) (R1 : ∃ a : Hold, v1 = a.val) : Calls Try.prog 3 #[v0, v1] W fun e w' => e = .returned (.bool true) ∧ Below W.heap.size W w' := by
  obtain ⟨a, rfl⟩ := R0
  obtain ⟨b, rfl⟩ := R1
  exact spanBlocks_c a b W

/-! SpanCovers -/

def hitB (key block : Int) (h : Hold) : Bool := !(((h.key != key) || decide (block < h.lo)) || decide (h.hi < block))
def ownTo (key block : Int) (l : List Hold) : Bool := l.any fun h => hitB key block h && (h.mode == 2)
def someOf (key block : Int) (l : List Hold) : Bool := l.any fun h => hitB key block h && ((h.mode == 2) || (h.mode == 1))
def onTo (key block : Int) (l : List Hold) : Bool := l.any (hitB key block)

theorem hit_eq (key block : Int) (h : Hold) : hitB key block h = ((h.key == key) && hasB h.lo h.hi block) := by
  unfold hitB hasB bne
  rw [Bool.eq_iff_iff]
  simp
  omega

theorem covers_own (l : List Hold) (key block : Int) : covers l key block 2 = ownTo key block l := by
  unfold covers ownTo
  congr 1
  funext h
  rw [hit_eq, coversAt]
  cases (h.mode == 2) <;> rfl

theorem covers_some (l : List Hold) (key block : Int) : covers l key block 1 = someOf key block l := by
  unfold covers someOf
  congr 1
  funext h
  rw [hit_eq, coversAt, Bool.or_comm (h.mode == 2)]

theorem touches_on (l : List Hold) (key block : Int) : touches l key block block = onTo key block l := by
  unfold touches onTo
  congr 1
  funext h
  rw [hit_eq, touchesAt]
  congr 1
  unfold meets hasB
  rw [Bool.eq_iff_iff]
  simp
  omega

theorem spanCovers_law (w : World) {v0 v1 v2 : Value} (R0 : ∃ l : List Hold, SlOf (vw w) Hold.cells 4 v0 l ∧ l.length ≤ maxLen) (R1 : ∃ n : Int, v1 = I n ∧ -9223372036854775808 ≤ n ∧ n ≤ 9223372036854775807)
    (R2 : ∃ n : Int, v2 = I n ∧ -9223372036854775808 ≤ n ∧ n ≤ 9223372036854775807) : Calls Try.prog 4 #[v0, v1, v2] w fun e w' => e = .returned (.bool true) ∧ Below w.heap.size w w' := by
  obtain ⟨l, hs, _⟩ := R0
  obtain ⟨key, rfl, _⟩ := R1
  obtain ⟨block, rfl, _⟩ := R2
  refine enter (E := E0) (O := []) (nl := 0) (V := vw w) [.a (.v v0), .a (.v (I key)), .a (.v (I block))] Try.func4 rfl rfl (mem0 E0 0 w) rfl rfl ?_
  refine c_seq ?_
  refine c_region ?_
  refine o_yield rfl rfl rfl (y_val tok rfl) ?_
  refine o_end [0, 1, 2] rfl ?_
  refine x_then ?_
  refine c_seq ?_
  refine c_seq ?_
  refine c_region ?_
  refine o_yield rfl rfl rfl (y_val tok rfl) ?_
  refine o_yield rfl rfl rfl (y_len tok rfl (fun hg => hs.sl)) ?_
  refine o_yield rfl rfl rfl (y_val tok rfl) ?_
  refine o_end [0, 1, 2, 14] rfl ?_
  refine x_then ?_
  refine c_cond rfl (fun h => ?_) (fun h => ?_)
  ·
    refine c_seq ?_
    refine c_region ?_
    refine o_call (.a (.v _)) rfl rfl fnok8 rfl rfl rfl (fun hg E w1 hm => by exact wakes_c _) ?_
    refine o_yield rfl rfl rfl (y_val tok rfl) ?_
    refine o_end [6] rfl ?_
    refine x_then ?_
    refine c_ret ?_
    refine x_then_ret ?_
    refine b_ret tok rfl ?_
    intro E w' hm _
    exact ⟨rfl, hm.below (Vw.le.refl _)⟩
  ·
    refine c_skip ?_
    refine x_then ?_
    refine c_seq ?_
    refine c_region ?_
    refine o_yield rfl rfl rfl (y_val tok rfl) ?_
    refine o_yield rfl rfl rfl (y_val tok rfl) ?_
    refine o_yield rfl rfl rfl (y_val tok rfl) ?_
    refine o_end [0, 1, 2, 7, 8, 9] rfl ?_
    refine x_then ?_
    refine c_seq ?_
    refine c_seq ?_
    refine c_region ?_
    refine o_yield rfl rfl rfl (y_val tok rfl) ?_
    refine o_end [0, 1, 2, 7, 8, 9, 10] rfl ?_
    refine x_then ?_
    refine c_block ?_
    have hlen : l.length ≤ 100 := by simp at h; omega
    have hlim : l.length ≤ lim := by unfold lim; omega
    refine c_loop (σ := Nat) (fun k => [(0, .a (.v v0)), (1, .a (.v (I key))), (2, .a (.v (I block))), (7, .a (.v (.bool (ownTo key block (l.take k))))), (8, .a (.v (.bool (someOf key block (l.take k))))), (9, .a (.v (.bool (onTo key block (l.take k))))), (10, .a (.v (I k)))])
      (fun _ => []) 0 (fun _ => vw w) (fun k => k ≤ l.length) (fun k => l.length - k) 0 (by omega) ⟨rfl, rfl, rfl, rfl, rfl, rfl, rfl, trivial⟩ trivial rfl (Vw.le.refl _) ?_
    rintro k hk
    refine c_seq ?_
    refine c_seq ?_
    refine c_region ?_
    refine o_yield rfl rfl rfl (y_val tok rfl) ?_
    refine o_yield rfl rfl rfl (y_val tok rfl) ?_
    refine o_yield rfl rfl rfl (y_len tok rfl (fun hg => hs.sl)) ?_
    refine o_yield rfl rfl rfl (y_val tok rfl) ?_
    refine o_end [0, 1, 2, 7, 8, 9, 10, 19] rfl ?_
    refine x_then ?_
    refine c_cond rfl (fun h => ?_) (fun h => ?_)
    ·
      refine c_skip ?_
      refine x_then ?_
      refine c_seq ?_
      refine c_block ?_
      refine c_seq ?_
      refine c_region ?_
      refine o_yield rfl rfl rfl (y_val tok rfl) ?_
      refine o_yield rfl rfl rfl (y_val tok rfl) ?_
      have hlt : k < l.length := by simp at h; exact h
      have hx : l[k]? = some l[k] := by simp [hlt]
      have hsu := take_succ_at hx
      refine o_yield rfl rfl rfl (y_idx tok rfl (fun hg => hs.sl) (fun hg => ⟨by omega, by omega⟩)) ?_
      refine o_yield rfl rfl rfl (y_lel tok (k) 0 (l[k]) rfl (fun hg => hs) (fun hg => hx) rfl rfl) ?_
      refine o_new tok rfl rfl rfl rfl ?_
      refine o_store tok rfl rfl rfl (by simp [onesP, oneP, lk, Value.oneCell']) ?_
      refine o_end [0, 1, 2, 7, 8, 9, 10, 11] rfl ?_
      refine x_then ?_
      refine c_seq ?_
      refine c_seq ?_
      refine c_region ?_
      refine o_yield rfl rfl rfl (y_val tok rfl) ?_
      refine o_yield rfl rfl rfl (y_val tok rfl) ?_
      refine o_yield rfl rfl rfl (y_val tok rfl) ?_
      refine o_yield rfl rfl rfl (y_val tok rfl) ?_
      refine o_yield rfl rfl rfl (y_val tok rfl) ?_
      refine o_yield rfl rfl rfl (y_val tok rfl) ?_
      refine o_yield rfl rfl rfl (y_val tok rfl) ?_
      refine o_yield rfl rfl rfl (y_val tok rfl) ?_
      refine o_yield rfl rfl rfl (y_val tok rfl) ?_
      refine o_yield rfl rfl rfl (y_val tok rfl) ?_
      refine o_yield rfl rfl rfl (y_val tok rfl) ?_
      refine o_yield rfl rfl rfl (y_val tok rfl) ?_
      refine o_yield rfl rfl rfl (y_val tok rfl) ?_
      refine o_yield rfl rfl rfl (y_val tok rfl) ?_
      refine o_yield rfl rfl rfl (y_val tok rfl) ?_
      refine o_yield rfl rfl rfl (y_val tok rfl) ?_
      refine o_yield rfl rfl rfl (y_val tok rfl) ?_
      refine o_yield rfl rfl rfl (y_val tok rfl) ?_
      refine o_end [0, 1, 2, 7, 8, 9, 10, 11, 43] rfl ?_
      refine x_then ?_
      refine c_cond rfl (fun h => ?_) (fun h => ?_)
      ·
        refine c_exit ?_
        refine x_then_exit ?_
        refine x_block_hit ?_
        refine x_then ?_
        refine c_region ?_
        refine o_yield rfl rfl rfl (y_val tok rfl) ?_
        refine o_yield rfl rfl rfl (y_val tok rfl) ?_
        refine o_yield rfl rfl rfl (y_val tok rfl) ?_
        refine o_end [0, 1, 2, 7, 8, 9, 10] rfl ?_
        refine x_then ?_
        rw [wrapI (by omega) (by omega)]
        have hh : hitB key block l[k] = false := by unfold hitB; rw [h]; rfl
        refine x_round (k + 1) (by omega) (by omega) ⟨rfl, rfl, rfl, ?_, ?_, ?_, rfl, trivial⟩ trivial rfl (Vw.le.refl _)
        · rw [hsu]; simp only [ownTo, List.any_append, List.any_cons, List.any_nil, hh, Bool.false_and, Bool.or_false]; rfl
        · rw [hsu]; simp only [someOf, List.any_append, List.any_cons, List.any_nil, hh, Bool.false_and, Bool.or_false]; rfl
        · rw [hsu]; simp only [onTo, List.any_append, List.any_cons, List.any_nil, hh, Bool.or_false]; rfl
      ·
        refine c_skip ?_
        refine x_then ?_
        refine c_seq ?_
        refine c_region ?_
        refine o_yield rfl rfl rfl (y_val tok rfl) ?_
        refine o_end [0, 1, 2, 7, 8, 9, 10, 11] rfl ?_
        refine x_then ?_
        refine c_seq ?_
        refine c_region ?_
        refine o_yield rfl rfl rfl (y_val tok rfl) ?_
        refine o_yield rfl rfl rfl (y_val tok rfl) ?_
        refine o_yield rfl rfl rfl (y_val tok rfl) ?_
        refine o_yield rfl rfl rfl (y_val tok rfl) ?_
        refine o_yield rfl rfl rfl (y_val tok rfl) ?_
        refine o_yield rfl rfl rfl (y_val tok rfl) ?_
        refine o_yield rfl rfl rfl (y_val tok rfl) ?_
        refine o_end [0, 1, 2, 7, 8, 9, 10, 11] rfl ?_
        refine x_then ?_
        refine c_region ?_
        refine o_yield rfl rfl rfl (y_val tok rfl) ?_
        refine o_yield rfl rfl rfl (y_val tok rfl) ?_
        refine o_yield rfl rfl rfl (y_val tok rfl) ?_
        refine o_yield rfl rfl rfl (y_val tok rfl) ?_
        refine o_yield rfl rfl rfl (y_val tok rfl) ?_
        refine o_yield rfl rfl rfl (y_val tok rfl) ?_
        refine o_yield rfl rfl rfl (y_val tok rfl) ?_
        refine o_yield rfl rfl rfl (y_val tok rfl) ?_
        refine o_yield rfl rfl rfl (y_val tok rfl) ?_
        refine o_yield rfl rfl rfl (y_val tok rfl) ?_
        refine o_yield rfl rfl rfl (y_val tok rfl) ?_
        refine o_yield rfl rfl rfl (y_val tok rfl) ?_
        refine o_end [0, 1, 2, 7, 8, 9, 10] rfl ?_
        refine x_block ?_
        refine x_then ?_
        refine c_region ?_
        refine o_yield rfl rfl rfl (y_val tok rfl) ?_
        refine o_yield rfl rfl rfl (y_val tok rfl) ?_
        refine o_yield rfl rfl rfl (y_val tok rfl) ?_
        refine o_end [0, 1, 2, 7, 8, 9, 10] rfl ?_
        refine x_then ?_
        rw [wrapI (by omega) (by omega)]
        have hh : hitB key block l[k] = true := by unfold hitB; rw [h]; rfl
        refine x_round (k + 1) (by omega) (by omega) ⟨rfl, rfl, rfl, ?_, ?_, ?_, rfl, trivial⟩ trivial rfl (Vw.le.refl _)
        · rw [hsu]; simp only [ownTo, List.any_append, List.any_cons, List.any_nil, hh, Bool.true_and, Bool.or_false]; rfl
        · rw [hsu]; simp only [someOf, List.any_append, List.any_cons, List.any_nil, hh, Bool.true_and, Bool.or_false, ← Bool.or_assoc]; rfl
        · rw [hsu]; simp only [onTo, List.any_append, List.any_cons, List.any_nil, hh, Bool.or_true, Bool.true_or]; rfl
    ·
      refine c_exit ?_
      refine x_then_exit ?_
      refine x_then_exit ?_
      refine x_block_hit ?_
      refine x_then ?_
      refine c_seq ?_
      refine c_region ?_
      refine o_yield rfl rfl rfl (y_val tok rfl) ?_
      refine o_yield rfl rfl rfl (y_val tok rfl) ?_
      refine o_yield rfl rfl rfl (y_val tok rfl) ?_
      have hge : k = l.length := by simp at h; omega
      subst hge
      rw [List.take_length]
      refine o_call (.a (.v _)) rfl rfl fnok11 rfl rfl rfl (fun hg E w1 hm => by exact covers_c (vw w) _ l _ _ _ _ hm.leV hs hlim) ?_
      refine o_yield rfl rfl rfl (y_val tok rfl) ?_
      refine o_yield rfl rfl rfl (y_val tok rfl) ?_
      refine o_yield rfl rfl rfl (y_val tok rfl) ?_
      refine o_yield rfl rfl rfl (y_val tok rfl) ?_
      refine o_yield rfl rfl rfl (y_val tok rfl) ?_
      refine o_yield rfl rfl rfl (y_val tok rfl) ?_
      refine o_call (.a (.v _)) rfl rfl fnok11 rfl rfl rfl (fun hg E w1 hm => by exact covers_c (vw w) _ l _ _ _ _ hm.leV hs hlim) ?_
      refine o_yield rfl rfl rfl (y_val tok rfl) ?_
      refine o_yield rfl rfl rfl (y_val tok rfl) ?_
      refine o_yield rfl rfl rfl (y_val tok rfl) ?_
      refine o_yield rfl rfl rfl (y_val tok rfl) ?_
      refine o_yield rfl rfl rfl (y_val tok rfl) ?_
      refine o_yield rfl rfl rfl (y_val tok rfl) ?_
      refine o_yield rfl rfl rfl (y_val tok rfl) ?_
      refine o_yield rfl rfl rfl (y_val tok rfl) ?_
      refine o_yield rfl rfl rfl (y_val tok rfl) ?_
      refine o_call (.a (.v _)) rfl rfl fnok12 rfl rfl rfl (fun hg E w1 hm => by exact touches_c (vw w) _ l _ _ _ _ hm.leV hs hlim) ?_
      refine o_yield rfl rfl rfl (y_val tok rfl) ?_
      refine o_yield rfl rfl rfl (y_val tok rfl) ?_
      refine o_yield rfl rfl rfl (y_val tok rfl) ?_
      refine o_yield rfl rfl rfl (y_val tok rfl) ?_
      refine o_call (.a (.v _)) rfl rfl fnok8 rfl rfl rfl (fun hg E w1 hm => by exact wakes_c _) ?_
      refine o_yield rfl rfl rfl (y_val tok rfl) ?_
      refine o_yield rfl rfl rfl (y_val tok rfl) ?_
      refine o_end [6] rfl ?_
      refine x_then ?_
      refine c_ret ?_
      refine b_ret tok rfl ?_
      intro E w' hm _
      refine ⟨?_, hm.below (Vw.le.refl _)⟩
      show Ending.returned (.bool ((((covers l key block 2 == ownTo key block l) && (covers l key block 1 == someOf key block l)) && (touches l key block block == onTo key block l)) && true)) = _
      rw [covers_own, covers_some, touches_on]
      simp

/-! SpanTells -/

theorem spanTells_law (w : World) {v0 v1 v2 v3 v4 : Value} (R0 : ∃ g : Geo, v0 = g.val) (R1 : ∃ a : Hold, v1 = a.val) (R2 : ∃ a : Hold, v2 = a.val) (R3 : ∃ l : List Hold, SlOf (vw w) Hold.cells 4 v3 l ∧ l.length ≤ maxLen)
    (R4 : ∃ n : Int, v4 = I n ∧ -9223372036854775808 ≤ n ∧ n ≤ 9223372036854775807) : Calls Try.prog 7 #[v0, v1, v2, v3, v4] w fun e w' => e = .returned (.bool true) ∧ Below w.heap.size w w' := by
  obtain ⟨g, rfl⟩ := R0
  obtain ⟨a, rfl⟩ := R1
  obtain ⟨b, rfl⟩ := R2
  obtain ⟨l, hs, _⟩ := R3
  obtain ⟨block, rfl, _⟩ := R4
  refine enter (E := E0) (O := []) (nl := 0) (V := vw w) [.a (.v g.val), .a (.v a.val), .a (.v b.val), .a (.v v3), .a (.v (I block))] Try.func7 rfl rfl (mem0 E0 0 w) rfl rfl ?_
  refine c_seq ?_
  refine c_region ?_
  refine o_new tok rfl rfl rfl rfl ?_
  refine o_new tok rfl rfl rfl rfl ?_
  refine o_new tok rfl rfl rfl rfl ?_
  refine o_yield rfl rfl rfl (y_val tok rfl) ?_
  refine o_end [3, 4, 5, 6, 7] rfl ?_
  refine x_then ?_
  refine c_seq ?_
  refine c_seq ?_
  refine c_region ?_
  refine o_yield rfl rfl rfl (y_val tok rfl) ?_
  refine o_yield rfl rfl rfl (y_len tok rfl (fun hg => hs.sl)) ?_
  refine o_yield rfl rfl rfl (y_val tok rfl) ?_
  refine o_end [3, 4, 5, 6, 7, 13] rfl ?_
  refine x_then ?_
  refine c_cond rfl (fun h => ?_) (fun h => ?_)
  ·
    refine c_seq ?_
    refine c_region ?_
    refine o_call (.a (.v _)) rfl rfl fnok8 rfl rfl rfl (fun hg E w1 hm => by exact wakes_c _) ?_
    refine o_yield rfl rfl rfl (y_val tok rfl) ?_
    refine o_end [10] rfl ?_
    refine x_then ?_
    refine c_ret ?_
    refine x_then_ret ?_
    refine b_ret tok rfl ?_
    intro E w' hm _
    exact ⟨rfl, hm.below (Vw.le.refl _)⟩
  ·
    refine c_skip ?_
    refine x_then ?_
    refine c_seq ?_
    refine c_seq ?_
    refine c_draw mixed (by kernel_rfl) ?_
    refine d_yield rfl rfl rfl (y_val tok rfl) rfl ?_
    refine d_yield rfl rfl rfl (y_val tok rfl) rfl ?_
    refine d_yield rfl rfl rfl (y_val tok rfl) rfl ?_
    have hlen : l.length ≤ 200 := by simp at h; omega
    have hlim : l.length ≤ lim := by unfold lim; omega
    refine d_call (.a (.v _)) rfl rfl fnok16 rfl rfl rfl (fun hg E w1 hm => by exact may_c g _ _ _) ?_
    refine d_yield rfl rfl rfl (y_val tok rfl) rfl ?_
    refine d_yield rfl rfl rfl (y_val tok rfl) rfl ?_
    refine d_yield rfl rfl rfl (y_val tok rfl) rfl ?_
    refine d_call (.a (.v _)) rfl rfl fnok17 rfl rfl rfl (fun hg E w1 hm => by exact rmay_c g _ _ _) ?_
    refine d_yield rfl rfl rfl (y_val tok rfl) rfl ?_
    refine d_yield rfl rfl rfl (y_val tok rfl) rfl ?_
    refine d_yield rfl rfl rfl (y_val tok rfl) rfl ?_
    refine d_yield rfl rfl rfl (y_val tok rfl) rfl ?_
    refine d_call (.a (.v _)) rfl rfl fnok18 rfl rfl rfl (fun hg E w1 hm => by exact hold_c g a _) ?_
    refine d_yield rfl rfl rfl (y_val tok rfl) rfl ?_
    refine d_yield rfl rfl rfl (y_val tok rfl) rfl ?_
    refine d_call (.a (.v _)) rfl rfl fnok14 rfl rfl rfl (fun hg E w1 hm => by exact rhold_c g a _) ?_
    refine d_yield rfl rfl rfl (y_val tok rfl) rfl ?_
    refine d_yield rfl rfl rfl (y_val tok rfl) rfl ?_
    refine d_yield rfl rfl rfl (y_val tok rfl) rfl ?_
    refine d_yield rfl rfl rfl (y_val tok rfl) rfl ?_
    refine d_yield rfl rfl rfl (y_val tok rfl) rfl ?_
    refine d_yield rfl rfl rfl (y_val tok rfl) rfl ?_
    refine d_yield rfl rfl rfl (y_val tok rfl) rfl ?_
    refine d_call (.a (.v _)) rfl rfl fnok9 rfl rfl rfl (fun hg E w1 hm => by exact overlap_c _ _ _ _ _) ?_
    refine d_yield rfl rfl rfl (y_val tok rfl) rfl ?_
    refine d_yield rfl rfl rfl (y_val tok rfl) rfl ?_
    refine d_yield rfl rfl rfl (y_val tok rfl) rfl ?_
    refine d_yield rfl rfl rfl (y_val tok rfl) rfl ?_
    refine d_call (.a (.v _)) rfl rfl fnok19 rfl rfl rfl (fun hg E w1 hm => by exact roverlap_c _ _ _ _ _) ?_
    refine d_yield rfl rfl rfl (y_val tok rfl) rfl ?_
    refine d_yield rfl rfl rfl (y_val tok rfl) rfl ?_
    refine d_yield rfl rfl rfl (y_val tok rfl) rfl ?_
    refine d_yield rfl rfl rfl (y_val tok rfl) rfl ?_
    refine d_yield rfl rfl rfl (y_val tok rfl) rfl ?_
    refine d_call (.a (.v _)) rfl rfl fnok10 rfl rfl rfl (fun hg E w1 hm => by exact together_c a b _) ?_
    refine d_yield rfl rfl rfl (y_val tok rfl) rfl ?_
    refine d_yield rfl rfl rfl (y_val tok rfl) rfl ?_
    refine d_call (.a (.v _)) rfl rfl fnok20 rfl rfl rfl (fun hg E w1 hm => by exact rtogether_c a b _) ?_
    refine d_yield rfl rfl rfl (y_val tok rfl) rfl ?_
    refine d_yield rfl rfl rfl (y_val tok rfl) rfl ?_
    refine d_end [3, 4, 6, 7, 54] rfl ?_
    refine x_then ?_
    refine c_cond rfl (fun h => ?_) (fun h => ?_)
    ·
      refine c_seq ?_
      refine c_region ?_
      refine o_yield rfl rfl rfl (y_val tok rfl) ?_
      refine o_end [10] rfl ?_
      refine x_then ?_
      refine c_ret ?_
      refine x_then_ret ?_
      refine b_ret tok rfl ?_
      exfalso
      revert h
      simp
    ·
      refine c_skip ?_
      refine x_then ?_
      refine c_seq ?_
      refine c_draw mixed (by kernel_rfl) ?_
      refine d_yield rfl rfl rfl (y_val tok rfl) rfl ?_
      refine d_yield rfl rfl rfl (y_val tok rfl) rfl ?_
      refine d_call (.a (.v _)) rfl rfl fnok13 rfl rfl rfl (fun hg E w1 hm => by exact fits_c (vw w) a _ l _ hm.leV hs hlim) ?_
      refine d_yield rfl rfl rfl (y_val tok rfl) rfl ?_
      refine d_yield rfl rfl rfl (y_val tok rfl) rfl ?_
      refine d_call (.a (.v _)) rfl rfl fnok21 rfl rfl rfl (fun hg E w1 hm => by exact rfits_c (vw w) a _ l _ hm.leV hs hlim) ?_
      refine d_yield rfl rfl rfl (y_val tok rfl) rfl ?_
      refine d_yield rfl rfl rfl (y_val tok rfl) rfl ?_
      refine d_yield rfl rfl rfl (y_val tok rfl) rfl ?_
      refine d_yield rfl rfl rfl (y_val tok rfl) rfl ?_
      refine d_yield rfl rfl rfl (y_val tok rfl) rfl ?_
      refine d_yield rfl rfl rfl (y_val tok rfl) rfl ?_
      refine d_yield rfl rfl rfl (y_val tok rfl) rfl ?_
      refine d_yield rfl rfl rfl (y_val tok rfl) rfl ?_
      refine d_call (.a (.v _)) rfl rfl fnok11 rfl rfl rfl (fun hg E w1 hm => by exact covers_c (vw w) _ l _ _ _ _ hm.leV hs hlim) ?_
      refine d_yield rfl rfl rfl (y_val tok rfl) rfl ?_
      refine d_yield rfl rfl rfl (y_val tok rfl) rfl ?_
      refine d_yield rfl rfl rfl (y_val tok rfl) rfl ?_
      refine d_yield rfl rfl rfl (y_val tok rfl) rfl ?_
      refine d_yield rfl rfl rfl (y_val tok rfl) rfl ?_
      refine d_yield rfl rfl rfl (y_val tok rfl) rfl ?_
      refine d_call (.a (.v _)) rfl rfl fnok22 rfl rfl rfl (fun hg E w1 hm => by exact rcovers_c (vw w) _ l _ _ _ _ hm.leV hs hlim) ?_
      refine d_yield rfl rfl rfl (y_val tok rfl) rfl ?_
      refine d_yield rfl rfl rfl (y_val tok rfl) rfl ?_
      refine d_yield rfl rfl rfl (y_val tok rfl) rfl ?_
      refine d_yield rfl rfl rfl (y_val tok rfl) rfl ?_
      refine d_yield rfl rfl rfl (y_val tok rfl) rfl ?_
      refine d_yield rfl rfl rfl (y_val tok rfl) rfl ?_
      refine d_yield rfl rfl rfl (y_val tok rfl) rfl ?_
      refine d_yield rfl rfl rfl (y_val tok rfl) rfl ?_
      refine d_call (.a (.v _)) rfl rfl fnok12 rfl rfl rfl (fun hg E w1 hm => by exact touches_c (vw w) _ l _ _ _ _ hm.leV hs hlim) ?_
      refine d_yield rfl rfl rfl (y_val tok rfl) rfl ?_
      refine d_yield rfl rfl rfl (y_val tok rfl) rfl ?_
      refine d_yield rfl rfl rfl (y_val tok rfl) rfl ?_
      refine d_yield rfl rfl rfl (y_val tok rfl) rfl ?_
      refine d_yield rfl rfl rfl (y_val tok rfl) rfl ?_
      refine d_call (.a (.v _)) rfl rfl fnok23 rfl rfl rfl (fun hg E w1 hm => by exact rtouches_c (vw w) _ l _ _ _ _ hm.leV hs hlim) ?_
      refine d_yield rfl rfl rfl (y_val tok rfl) rfl ?_
      refine d_yield rfl rfl rfl (y_val tok rfl) rfl ?_
      refine d_yield rfl rfl rfl (y_val tok rfl) rfl ?_
      refine d_yield rfl rfl rfl (y_val tok rfl) rfl ?_
      refine d_call (.a (.v _)) rfl rfl fnok15 rfl rfl rfl (fun hg E w1 hm => by exact all_c (vw w) _ l _ hm.leV hs hlim) ?_
      refine d_yield rfl rfl rfl (y_val tok rfl) rfl ?_
      refine d_call (.a (.v _)) rfl rfl fnok24 rfl rfl rfl (fun hg E w1 hm => by exact rall_c (vw w) _ l _ hm.leV hs hlim) ?_
      refine d_yield rfl rfl rfl (y_val tok rfl) rfl ?_
      refine d_yield rfl rfl rfl (y_val tok rfl) rfl ?_
      refine d_yield rfl rfl rfl (y_val tok rfl) rfl ?_
      refine d_call (.a (.v _)) rfl rfl fnok8 rfl rfl rfl (fun hg E w1 hm => by exact wakes_c _) ?_
      refine d_yield rfl rfl rfl (y_val tok rfl) rfl ?_
      refine d_yield rfl rfl rfl (y_val tok rfl) rfl ?_
      refine d_end [10] rfl ?_
      refine x_then ?_
      refine c_ret ?_
      refine b_ret tok rfl ?_
      intro E w' hm _
      refine ⟨?_, hm.below (Vw.le.refl _)⟩
      simp [retV, SV.den, A.den]
end Go.Proofs.Ytjddnkjeilmejaa
