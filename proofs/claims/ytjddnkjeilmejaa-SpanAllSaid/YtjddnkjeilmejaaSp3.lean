/- Spans: the laws' walks. -/
import Derived.Test.YtjddnkjeilmejaaSp2
set_option linter.unusedVariables false
set_option linter.unusedSimpArgs false
set_option maxRecDepth 100000
namespace Go.Proofs.Ytjddnkjeilmejaa
open Go Go.Eng Go.RowKit

structure Span where
  lo : Int
  hi : Int

abbrev Span.cells (s : Span) : List Value := [I s.lo, I s.hi]

def spanOk (s : Span) : Prop := 0 ≤ s.lo ∧ s.lo ≤ s.hi ∧ s.hi < 64

def bothAt (a b : Hold) (n : Nat) : Bool := ((decide (a.lo ≤ (n : Int)) && decide ((n : Int) ≤ a.hi)) && decide (b.lo ≤ (n : Int))) && decide ((n : Int) ≤ b.hi)

def someTo (a b : Hold) (n : Nat) : Bool := (List.range n).any (bothAt a b)

theorem someTo_succ (a b : Hold) (n : Nat) : someTo a b (n + 1) = (someTo a b n || bothAt a b n) := by
  simp [someTo, List.range_succ]

theorem meets_some (a b : Hold) (ha : spanOk ⟨a.lo, a.hi⟩) (hb : spanOk ⟨b.lo, b.hi⟩) : meets a.lo a.hi b.lo b.hi = someTo a b 64 := by
  simp only [spanOk] at ha hb
  rw [Bool.eq_iff_iff]
  simp only [meets, hasB, someTo, List.any_eq_true, List.mem_range, bothAt, Bool.and_eq_true, Bool.or_eq_true, decide_eq_true_eq, Bool.not_eq_true', decide_eq_false_iff_not]
  constructor
  · rintro ⟨_, h⟩
    by_cases hl : a.lo ≤ b.lo
    · exact ⟨b.lo.toNat, by omega, by omega⟩
    · exact ⟨a.lo.toNat, by omega, by omega⟩
  · rintro ⟨n, _, h⟩
    omega

theorem meets_comm (lo hi lo' hi' : Int) : meets lo hi lo' hi' = meets lo' hi' lo hi := by
  simp only [meets]
  rw [Bool.and_comm (!decide (hi < lo)), Bool.or_comm]

theorem together_comm (a b : Hold) : together a b = together b a := by
  simp only [together]
  rw [meets_comm, show (a.key == b.key) = (b.key == a.key) by rw [Bool.eq_iff_iff]; simp; exact eq_comm, Bool.and_comm (a.mode == 1)]

theorem spanBlocks_c (a b : Hold) (w : World) : Calls Try.prog 3 #[a.val, b.val] w fun e w' => e = .returned (.bool true) ∧ Below w.heap.size w w' := by
  refine enter (E := E0) (O := []) (nl := 0) (V := vw w) [.a (.v a.val), .a (.v b.val)] Try.func3 rfl rfl (mem0 E0 0 w) rfl rfl ?_
  refine c_seq ?_
  refine c_region ?_
  refine o_new tok rfl rfl rfl rfl ?_
  refine o_new tok rfl rfl rfl rfl ?_
  refine o_yield rfl rfl rfl (y_val tok rfl) ?_
  refine o_end [2, 3] rfl ?_
  refine x_then ?_
  refine c_seq ?_
  refine c_seq ?_
  refine c_region ?_
  refine o_yield rfl rfl rfl (y_val tok rfl) ?_
  refine o_yield rfl rfl rfl (y_val tok rfl) ?_
  refine o_yield rfl rfl rfl (y_val tok rfl) ?_
  refine o_yield rfl rfl rfl (y_val tok rfl) ?_
  refine o_bs tok rfl rfl rfl rfl (fun bk V' hle hb => ?_)
  have hsl := SlOf.ofBlock (enc := Span.cells) (l := [(⟨a.lo, a.hi⟩ : Span), ⟨b.lo, b.hi⟩]) (sz := 2) (c := 2) (hb rfl) rfl (fun _ => rfl) (Nat.le_refl _)
  refine o_yield rfl rfl rfl (y_len tok rfl (fun hg => hsl.sl)) ?_
  refine o_yield rfl rfl rfl (y_val tok rfl) ?_
  refine o_end [2, 3, 14, 15, 16] rfl ?_
  refine x_then ?_
  refine c_block ?_
  refine c_loop (σ := Nat) (fun k => [(2, .a (.ptr 0 0)), (3, .a (.ptr 1 0)), (14, .a (.v (.slice (some ⟨bk, 0, none⟩) 2 2))), (15, .a (.v (I 2))), (16, .a (.v (I k)))])
    (fun _ => [(0, .lit [.v (I a.key), .v (I a.lo), .v (I a.hi), .v (I8 a.mode)] 26), (1, .lit [.v (I b.key), .v (I b.lo), .v (I b.hi), .v (I8 b.mode)] 26)]) 2 (fun _ => V')
    (fun k => k ≤ 2 ∧ ∀ j y, j < k → [(⟨a.lo, a.hi⟩ : Span), ⟨b.lo, b.hi⟩][j]? = some y → spanOk y) (fun k => 2 - k) 0 ⟨by omega, by simp⟩ ⟨rfl, rfl, rfl, rfl, rfl, trivial⟩ ⟨rfl, rfl, trivial⟩ rfl (Vw.le.refl _) ?_
  rintro k ⟨hk, hall⟩
  refine c_seq ?_
  refine c_region ?_
  refine o_yield rfl rfl rfl (y_val tok rfl) ?_
  refine o_end [2, 3, 14, 15, 16, 17] rfl ?_
  refine x_then ?_
  refine c_seq ?_
  refine c_cond rfl (fun h => ?_) (fun h => ?_)
  ·
    refine c_skip ?_
    refine x_then ?_
    refine c_seq ?_
    refine c_block ?_
    refine c_seq ?_
    refine c_region ?_
    have hlt : k < 2 := by simp at h; omega
    have hx : [(⟨a.lo, a.hi⟩ : Span), ⟨b.lo, b.hi⟩][k]? = some ([(⟨a.lo, a.hi⟩ : Span), ⟨b.lo, b.hi⟩][k]) := List.getElem?_eq_getElem hlt
    generalize [(⟨a.lo, a.hi⟩ : Span), ⟨b.lo, b.hi⟩][k] = y at hx
    refine o_yield rfl rfl rfl (y_idx tok rfl (fun hg => hsl.sl) (fun hg => ⟨by omega, by simp; omega⟩)) ?_
    refine o_yield rfl rfl rfl (y_lel tok (k) 0 (y) rfl (fun hg => hsl) (fun hg => hx) rfl rfl) ?_
    refine o_new tok rfl rfl rfl rfl ?_
    refine o_store tok rfl rfl rfl (by simp [onesP, oneP, lk, Value.oneCell']) ?_
    refine o_end [2, 3, 6, 14, 15, 16] rfl ?_
    refine x_then ?_
    refine c_seq ?_
    refine c_region ?_
    refine o_yield rfl rfl rfl (y_val tok rfl) ?_
    refine o_yield rfl rfl rfl (y_val tok rfl) ?_
    refine o_yield rfl rfl rfl (y_val tok rfl) ?_
    refine o_yield rfl rfl rfl (y_val tok rfl) ?_
    refine o_yield rfl rfl rfl (y_val tok rfl) ?_
    refine o_yield rfl rfl rfl (y_val tok rfl) ?_
    refine o_yield rfl rfl rfl (y_val tok rfl) ?_
    refine o_yield rfl rfl rfl (y_val tok rfl) ?_
    refine o_yield rfl rfl rfl (y_val tok rfl) ?_
    refine o_yield rfl rfl rfl (y_val tok rfl) ?_
    refine o_yield rfl rfl rfl (y_val tok rfl) ?_
    refine o_yield rfl rfl rfl (y_val tok rfl) ?_
    refine o_yield rfl rfl rfl (y_val tok rfl) ?_
    refine o_yield rfl rfl rfl (y_val tok rfl) ?_
    refine o_yield rfl rfl rfl (y_val tok rfl) ?_
    refine o_end [2, 3, 14, 15, 16, 34] rfl ?_
    refine x_then ?_
    refine c_cond rfl (fun h => ?_) (fun h => ?_)
    ·
      refine c_seq ?_
      refine c_region ?_
      refine o_call (.a (.v _)) rfl rfl fnok8 rfl rfl rfl (fun hg E w1 hm => by exact wakes_c _) ?_
      refine o_yield rfl rfl rfl (y_val tok rfl) ?_
      refine o_end [4] rfl ?_
      refine x_then ?_
      refine c_ret ?_
      refine x_block_ret ?_
      refine x_then_ret ?_
      refine x_then_ret ?_
      refine x_block_ret ?_
      refine x_then_ret ?_
      refine b_ret tok rfl ?_
      intro E w' hm _
      exact ⟨rfl, hm.below hle⟩
    ·
      refine c_skip ?_
      refine x_block ?_
      refine x_then ?_
      refine c_region ?_
      refine o_yield rfl rfl rfl (y_val tok rfl) ?_
      refine o_yield rfl rfl rfl (y_val tok rfl) ?_
      refine o_end [2, 3, 14, 15, 16] rfl ?_
      refine x_then ?_
      have hy : spanOk y := by
        simp only [Bool.or_eq_false_iff, decide_eq_false_iff_not] at h
        simp only [spanOk]; omega
      rw [wrapI (by omega) (by omega)]
      exact x_round (k + 1) ⟨by omega, ahead_succ hx hall hy⟩ (by omega) ⟨rfl, rfl, rfl, rfl, rfl, trivial⟩ ⟨rfl, rfl, trivial⟩ rfl (Vw.le.refl _)
  ·
    refine c_exit ?_
    refine x_then_exit ?_
    refine x_then_exit ?_
    refine x_block_hit ?_
    refine x_then ?_
    refine c_seq ?_
    refine c_region ?_
    refine o_yield rfl rfl rfl (y_val tok rfl) ?_
    refine o_end [2, 3, 7] rfl ?_
    refine x_then ?_
    refine c_seq ?_
    refine c_seq ?_
    refine c_region ?_
    refine o_yield rfl rfl rfl (y_val tok rfl) ?_
    refine o_end [2, 3, 7, 8] rfl ?_
    refine x_then ?_
    refine c_block ?_
    have hge : k = 2 := by simp at h; omega
    subst hge
    have ha := hall 0 _ (by omega) rfl
    have hbk := hall 1 _ (by omega) rfl
    refine c_loop (σ := Nat) (fun m => [(2, .a (.ptr 0 0)), (3, .a (.ptr 1 0)), (7, .a (.v (.bool (someTo a b m)))), (8, .a (.v (I m)))])
      (fun _ => [(0, .lit [.v (I a.key), .v (I a.lo), .v (I a.hi), .v (I8 a.mode)] 26), (1, .lit [.v (I b.key), .v (I b.lo), .v (I b.hi), .v (I8 b.mode)] 26)]) 2 (fun _ => V')
      (fun m => m ≤ 64) (fun m => 64 - m) 0 (by omega) ⟨rfl, rfl, rfl, rfl, trivial⟩ ⟨rfl, rfl, trivial⟩ rfl (Vw.le.refl _) ?_
    rintro m hm64
    refine c_seq ?_
    refine c_seq ?_
    refine c_region ?_
    refine o_yield rfl rfl rfl (y_val tok rfl) ?_
    refine o_yield rfl rfl rfl (y_val tok rfl) ?_
    refine o_end [2, 3, 7, 8, 38] rfl ?_
    refine x_then ?_
    refine c_cond rfl (fun h => ?_) (fun h => ?_)
    ·
      refine c_skip ?_
      refine x_then ?_
      refine c_seq ?_
      refine c_block ?_
      refine c_region ?_
      refine o_yield rfl rfl rfl (y_val tok rfl) ?_
      refine o_yield rfl rfl rfl (y_val tok rfl) ?_
      refine o_yield rfl rfl rfl (y_val tok rfl) ?_
      refine o_yield rfl rfl rfl (y_val tok rfl) ?_
      refine o_yield rfl rfl rfl (y_val tok rfl) ?_
      refine o_yield rfl rfl rfl (y_val tok rfl) ?_
      refine o_yield rfl rfl rfl (y_val tok rfl) ?_
      refine o_yield rfl rfl rfl (y_val tok rfl) ?_
      refine o_yield rfl rfl rfl (y_val tok rfl) ?_
      refine o_yield rfl rfl rfl (y_val tok rfl) ?_
      refine o_yield rfl rfl rfl (y_val tok rfl) ?_
      refine o_yield rfl rfl rfl (y_val tok rfl) ?_
      refine o_yield rfl rfl rfl (y_val tok rfl) ?_
      refine o_yield rfl rfl rfl (y_val tok rfl) ?_
      refine o_yield rfl rfl rfl (y_val tok rfl) ?_
      refine o_yield rfl rfl rfl (y_val tok rfl) ?_
      refine o_yield rfl rfl rfl (y_val tok rfl) ?_
      refine o_yield rfl rfl rfl (y_val tok rfl) ?_
      refine o_yield rfl rfl rfl (y_val tok rfl) ?_
      refine o_yield rfl rfl rfl (y_val tok rfl) ?_
      refine o_yield rfl rfl rfl (y_val tok rfl) ?_
      refine o_yield rfl rfl rfl (y_val tok rfl) ?_
      refine o_yield rfl rfl rfl (y_val tok rfl) ?_
      refine o_yield rfl rfl rfl (y_val tok rfl) ?_
      refine o_yield rfl rfl rfl (y_val tok rfl) ?_
      refine o_yield rfl rfl rfl (y_val tok rfl) ?_
      refine o_yield rfl rfl rfl (y_val tok rfl) ?_
      refine o_yield rfl rfl rfl (y_val tok rfl) ?_
      refine o_yield rfl rfl rfl (y_val tok rfl) ?_
      refine o_yield rfl rfl rfl (y_val tok rfl) ?_
      refine o_end [2, 3, 7, 8] rfl ?_
      refine x_block ?_
      refine x_then ?_
      refine c_region ?_
      refine o_yield rfl rfl rfl (y_val tok rfl) ?_
      refine o_yield rfl rfl rfl (y_val tok rfl) ?_
      refine o_yield rfl rfl rfl (y_val tok rfl) ?_
      refine o_end [2, 3, 7, 8] rfl ?_
      refine x_then ?_
      have hlt : m < 64 := by simp at h; omega
      rw [wrapI (by omega) (by omega)]
      refine x_round (m + 1) (by omega) (by omega) ⟨rfl, rfl, ?_, rfl, trivial⟩ ⟨rfl, rfl, trivial⟩ rfl (Vw.le.refl _)
      rw [someTo_succ]
      simp only [bothAt, Bool.and_assoc]
      rfl
    ·
      refine c_exit ?_
      refine x_then_exit ?_
      refine x_then_exit ?_
      refine x_block_hit ?_
      refine x_then ?_
      refine c_seq ?_
      refine c_region ?_
      refine o_yield rfl rfl rfl (y_val tok rfl) ?_
      refine o_yield rfl rfl rfl (y_val tok rfl) ?_
      refine o_yield rfl rfl rfl (y_val tok rfl) ?_
      refine o_yield rfl rfl rfl (y_val tok rfl) ?_
      refine o_yield rfl rfl rfl (y_val tok rfl) ?_
      refine o_yield rfl rfl rfl (y_val tok rfl) ?_
      refine o_yield rfl rfl rfl (y_val tok rfl) ?_
      refine o_yield rfl rfl rfl (y_val tok rfl) ?_
      refine o_yield rfl rfl rfl (y_val tok rfl) ?_
      refine o_yield rfl rfl rfl (y_val tok rfl) ?_
      refine o_yield rfl rfl rfl (y_val tok rfl) ?_
      refine o_yield rfl rfl rfl (y_val tok rfl) ?_
      refine o_yield rfl rfl rfl (y_val tok rfl) ?_
      refine o_yield rfl rfl rfl (y_val tok rfl) ?_
      refine o_yield rfl rfl rfl (y_val tok rfl) ?_
      refine o_yield rfl rfl rfl (y_val tok rfl) ?_
      refine o_yield rfl rfl rfl (y_val tok rfl) ?_
      refine o_yield rfl rfl rfl (y_val tok rfl) ?_
      refine o_yield rfl rfl rfl (y_val tok rfl) ?_
      refine o_yield rfl rfl rfl (y_val tok rfl) ?_
      refine o_end [2, 3, 7, 9] rfl ?_
      refine x_then ?_
      refine c_seq ?_
      refine c_region ?_
      refine o_yield rfl rfl rfl (y_val tok rfl) ?_
      refine o_yield rfl rfl rfl (y_val tok rfl) ?_
      refine o_yield rfl rfl rfl (y_val tok rfl) ?_
      refine o_yield rfl rfl rfl (y_val tok rfl) ?_
      have hge : m = 64 := by simp at h; omega
      subst hge
      refine o_call (.a (.v _)) rfl rfl fnok9 rfl rfl rfl (fun hg E w1 hm => by exact overlap_c _ _ _ _ _) ?_
      refine o_yield rfl rfl rfl (y_val tok rfl) ?_
      refine o_yield rfl rfl rfl (y_val tok rfl) ?_
      refine o_yield rfl rfl rfl (y_val tok rfl) ?_
      refine o_yield rfl rfl rfl (y_val tok rfl) ?_
      refine o_yield rfl rfl rfl (y_val tok rfl) ?_
      refine o_yield rfl rfl rfl (y_val tok rfl) ?_
      refine o_yield rfl rfl rfl (y_val tok rfl) ?_
      refine o_call (.a (.v _)) rfl rfl fnok9 rfl rfl rfl (fun hg E w1 hm => by exact overlap_c _ _ _ _ _) ?_
      refine o_yield rfl rfl rfl (y_val tok rfl) ?_
      refine o_yield rfl rfl rfl (y_val tok rfl) ?_
      refine o_yield rfl rfl rfl (y_val tok rfl) ?_
      refine o_yield rfl rfl rfl (y_val tok rfl) ?_
      refine o_yield rfl rfl rfl (y_val tok rfl) ?_
      refine o_yield rfl rfl rfl (y_val tok rfl) ?_
      refine o_call (.a (.v _)) rfl rfl fnok10 rfl rfl rfl (fun hg E w1 hm => by exact together_c a b _) ?_
      refine o_yield rfl rfl rfl (y_val tok rfl) ?_
      refine o_yield rfl rfl rfl (y_val tok rfl) ?_
      refine o_yield rfl rfl rfl (y_val tok rfl) ?_
      refine o_yield rfl rfl rfl (y_val tok rfl) ?_
      refine o_yield rfl rfl rfl (y_val tok rfl) ?_
      refine o_yield rfl rfl rfl (y_val tok rfl) ?_
      refine o_call (.a (.v _)) rfl rfl fnok10 rfl rfl rfl (fun hg E w1 hm => by exact together_c b a _) ?_
      refine o_yield rfl rfl rfl (y_val tok rfl) ?_
      refine o_yield rfl rfl rfl (y_val tok rfl) ?_
      refine o_yield rfl rfl rfl (y_val tok rfl) ?_
      refine o_yield rfl rfl rfl (y_val tok rfl) ?_
      refine o_call (.a (.v _)) rfl rfl fnok8 rfl rfl rfl (fun hg E w1 hm => by exact wakes_c _) ?_
      refine o_yield rfl rfl rfl (y_val tok rfl) ?_
      refine o_yield rfl rfl rfl (y_val tok rfl) ?_
      refine o_end [4] rfl ?_
      refine x_then ?_
      refine c_ret ?_
      refine b_ret tok rfl ?_
      intro E w' hm _
      refine ⟨?_, hm.below hle⟩
      show Ending.returned (.bool (((((meets a.lo a.hi b.lo b.hi == someTo a b 64) && (meets b.lo b.hi a.lo a.hi == someTo a b 64)) && (together a b == (((a.key == b.key) || !someTo a b 64) || ((a.mode == 1) && (b.mode == 1))))) &&
        (together b a == (((a.key == b.key) || !someTo a b 64) || ((a.mode == 1) && (b.mode == 1))))) && true)) = _
      rw [← meets_some a b ha hbk, together_comm b a, meets_comm b.lo]
      simp [together]
end Go.Proofs.Ytjddnkjeilmejaa
