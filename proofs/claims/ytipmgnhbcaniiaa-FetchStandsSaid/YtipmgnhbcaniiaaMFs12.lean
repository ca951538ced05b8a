import Derived.Test.YtipmgnhbcaniiaaMFs9
/- The acts that settle, by the document. -/
set_option linter.unusedVariables false
set_option linter.unusedSimpArgs false
set_option maxRecDepth 100000
namespace Go.Proofs.Ytipmgnhbcaniiaa
open Go Go.Eng Go.RowKit

def seI (m k : Nat) : Int := ((min k m : Nat) : Int)
def seL (m k : Nat) : Int := if k < m then 0 else if k < 2 * m then ((2 * m - k : Nat) : Int) else 0
def seA (m k : Nat) : Int := if m = 0 then 3 else if k < m then 0 else if k < 2 * m then 1 else if k = 2 * m then 2 else 3

theorem se_succ {m k : Nat} (hm : 0 < m) (hk : k ≤ 2 * m) : tkI (seI m k) (seA m k) = seI m (k + 1) ∧ tkL m (seI m k) (seL m k) (seA m k) = seL m (k + 1) ∧ tkAt m (seI m k) (seL m k) (seA m k) = seA m (k + 1) := by
  have h0 : ¬ m = 0 := by omega
  have q1 : ¬ (1 : Int) = 0 := by decide
  have q2 : ¬ (2 : Int) = 0 := by decide
  have q3 : ¬ (2 : Int) = 1 := by decide
  have i1 : seI m (k + 1) = ((min (k + 1) m : Nat) : Int) := rfl
  have i0 : seI m k = ((min k m : Nat) : Int) := rfl
  by_cases h1 : k < m
  · have e1 : seA m k = 0 := by rw [seA, if_neg h0, if_pos h1]
    have e3 : seL m k = 0 := by rw [seL, if_pos h1]
    simp only [e1, e3, tkI, tkL, tkAt, eq_self, if_true]
    by_cases h2 : k + 1 < m
    · have f1 : seA m (k + 1) = 0 := by rw [seA, if_neg h0, if_pos h2]
      have f3 : seL m (k + 1) = 0 := by rw [seL, if_pos h2]
      rw [if_neg (by omega), if_neg (by omega), f1, f3]
      exact ⟨by omega, rfl, rfl⟩
    · have f1 : seA m (k + 1) = 1 := by rw [seA, if_neg h0, if_neg h2, if_pos (by omega)]
      have f3 : seL m (k + 1) = ((2 * m - (k + 1) : Nat) : Int) := by rw [seL, if_neg h2, if_pos (by omega)]
      rw [if_pos (by omega), if_pos (by omega), f1, f3]
      exact ⟨by omega, by omega, rfl⟩
  · by_cases h2 : k < 2 * m
    · have e1 : seA m k = 1 := by rw [seA, if_neg h0, if_neg h1, if_pos h2]
      have e3 : seL m k = ((2 * m - k : Nat) : Int) := by rw [seL, if_neg h1, if_pos h2]
      simp only [e1, e3, tkI, tkL, tkAt, q1, if_false, eq_self, if_true]
      by_cases h3 : k + 1 < 2 * m
      · have f1 : seA m (k + 1) = 1 := by rw [seA, if_neg h0, if_neg (by omega), if_pos h3]
        have f3 : seL m (k + 1) = ((2 * m - (k + 1) : Nat) : Int) := by rw [seL, if_neg (by omega), if_pos h3]
        have hq : ¬ ((2 * m - k : Nat) : Int) - 1 ≤ 0 := by omega
        rw [if_neg hq, if_neg hq, f1, f3]
        exact ⟨by omega, by omega, rfl⟩
      · have f1 : seA m (k + 1) = 2 := by rw [seA, if_neg h0, if_neg (by omega), if_neg h3, if_pos (by omega)]
        have f3 : seL m (k + 1) = 0 := by rw [seL, if_neg (by omega), if_neg h3]
        have hq : ((2 * m - k : Nat) : Int) - 1 ≤ 0 := by omega
        rw [if_pos hq, if_pos hq, f1, f3]
        exact ⟨by omega, rfl, rfl⟩
    · have e1 : seA m k = 2 := by rw [seA, if_neg h0, if_neg h1, if_neg h2, if_pos (by omega)]
      have e3 : seL m k = 0 := by rw [seL, if_neg h1, if_neg h2]
      have f1 : seA m (k + 1) = 3 := by rw [seA, if_neg h0, if_neg (by omega), if_neg (by omega), if_neg (by omega)]
      have f3 : seL m (k + 1) = 0 := by rw [seL, if_neg (by omega), if_neg (by omega)]
      simp only [e1, e3, tkI, tkL, tkAt, q2, q3, if_false, eq_self, if_true]
      rw [f1, f3]
      exact ⟨by omega, rfl, rfl⟩

theorem se_le (m k : Nat) (hm : m ≤ 900) : (0 ≤ seI m k ∧ seI m k ≤ 1000) ∧ (k ≤ 2 * m + 1 → 0 ≤ seL m k ∧ seL m k ≤ 1000) := by
  refine ⟨by rw [seI]; omega, fun hk => ?_⟩
  rw [seL]
  split
  · omega
  · split <;> omega

def actAt (cs : List Cell) (hs : Int) (hd : ByteArray) (k : Nat) : ActV :=
  if k < cs.length then ⟨3, (cs.getD k ⟨0, ByteArray.empty⟩).sector, (cs.getD k ⟨0, ByteArray.empty⟩).b, 0⟩ else if k < 2 * cs.length then ⟨4, 0, ByteArray.empty, 0⟩ else ⟨2, hs, hd, 0⟩

def actsTo (cs : List Cell) (hs : Int) (hd : ByteArray) (k : Nat) : List ActV := (List.range k).map (actAt cs hs hd)
theorem actsTo_len (cs : List Cell) (hs : Int) (hd : ByteArray) (k : Nat) : (actsTo cs hs hd k).length = k := by simp [actsTo]
theorem actsTo_succ (cs : List Cell) (hs : Int) (hd : ByteArray) (k : Nat) : actsTo cs hs hd (k + 1) = actsTo cs hs hd k ++ [actAt cs hs hd k] := by simp [actsTo, List.range_succ]
theorem actsTo_at {cs : List Cell} {hs : Int} {hd : ByteArray} {n k : Nat} (h : k < n) : (actsTo cs hs hd n)[k]? = some (actAt cs hs hd k) := by simp [actsTo, List.getElem?_range h]

def actN (m : Nat) : Nat := if m = 0 then 0 else 2 * m + 1

theorem act_ones (l : List ActV) : ∀ u ∈ l.flatMap ActV.cells, u.oneCell' = true := by
  intro u hu
  obtain ⟨x, _, hx⟩ := List.mem_flatMap.1 hu
  simp only [ActV.cells, List.mem_cons, List.not_mem_nil, or_false] at hx
  rcases hx with rfl | rfl | rfl | rfl <;> rfl

theorem rwantK_c (V : Vw) (g : Geo) (ok : g.Ok) (a : Option Addr) (n c : Nat) (L : List Cell) (k : Nat) (slot head : Int) (w : World) (hV : V.le (vw w)) (hs0 : SlOf V Cell.cells 2 (.slice a n c) L) (hm : 0 < L.length) (hk2 : k ≤ 2 * L.length) (hL : L.length ≤ 1000) (hh : (headS head).2 = 0) (hk : 0 ≤ headV g slot) :
    Calls Try.prog 29 #[g.val, stV a n c (seI L.length k) (seL L.length k) (seA L.length k), I slot, I head] w fun e w' => e = .returned (actAt L (headV g slot) (headS head).1 k).val ∧ Below w.heap.size w w' := by
  have h0 : ¬ L.length = 0 := by omega
  by_cases h1 : k < L.length
  · have e1 : seA L.length k = 0 := by rw [seA, if_neg h0, if_pos h1]
    have e2 : seI L.length k = k := by rw [seI]; omega
    have e3 : seL L.length k = 0 := by rw [seL, if_pos h1]
    obtain ⟨x, hx⟩ : ∃ x, L[k]? = some x := ⟨_, List.getElem?_eq_getElem h1⟩
    have e4 : actAt L (headV g slot) (headS head).1 k = ⟨3, x.sector, x.b, 0⟩ := by rw [actAt, if_pos h1, List.getD, hx]; rfl
    rw [e1, e2, e3, e4]
    exact rwant0_c V g ok a n c L k x slot head w hV hs0 hx hL hh hk
  · by_cases h2 : k < 2 * L.length
    · have e1 : seA L.length k = 1 := by rw [seA, if_neg h0, if_neg h1, if_pos h2]
      have e4 : actAt L (headV g slot) (headS head).1 k = ⟨4, 0, ByteArray.empty, 0⟩ := by rw [actAt, if_neg h1, if_pos h2]
      rw [e1, e4]
      exact rwant1_c g ok a n c _ _ slot head w hh hk
    · have e1 : seA L.length k = 2 := by rw [seA, if_neg h0, if_neg h1, if_neg h2, if_pos (by omega)]
      have e4 : actAt L (headV g slot) (headS head).1 k = ⟨2, headV g slot, (headS head).1, 0⟩ := by rw [actAt, if_neg h1, if_neg h2]
      rw [e1, e4]
      exact rwant2_c g ok a n c _ _ slot head w hh hk

set_option maxHeartbeats 2000000 in
theorem racts_c (V : Vw) (g : Geo) (ok : g.Ok) (sa : Option Addr) (sm sc : Nat) (l : List Block) (slot head : Int) (w : World) (hV : V.le (vw w)) (hs0 : SlOf V Block.cells 2 (.slice sa sm sc) l) (hn : l.length ≤ maxLen) (hml : mayL g l = true) (hcl : (allCells g l).length ≤ 900) (hh : (headS head).2 = 0) (hk : 0 ≤ headV g slot) :
    Calls Try.prog 9 #[g.val, I slot, I head, .slice sa sm sc] w fun e w' =>
      (∃ v, e = .returned (.tuple #[v, I 0]) ∧ w'.ownsRow w.heap.size 45 4 v (actsTo (allCells g l) (headV g slot) (headS head).1 (actN (allCells g l).length)).length ((actsTo (allCells g l) (headV g slot) (headS head).1 (actN (allCells g l).length)).flatMap ActV.cells)) ∧ Below w.heap.size w w' := by
  have hs := hs0.mono hV
  have hhd := refHeadS_c head
  rw [hh] at hhd
  refine enter (E := E0) (O := []) (nl := 0) (V := vw w) [.a (.v g.val), .a (.v (I slot)), .a (.v (I head)), .a (.v (.slice sa sm sc))] Try.func9 rfl rfl (mem0 E0 0 w) rfl rfl ?_
  refine c_seq ?_
  refine c_region ?_
  refine o_new tok rfl rfl rfl rfl ?_
  refine o_yield rfl rfl rfl (y_val tok rfl) ?_
  refine o_yield rfl rfl rfl (y_val tok rfl) ?_
  refine o_end [1, 2, 3, 4] rfl ?_
  refine x_then ?_
  refine c_seq ?_
  refine c_region ?_
  refine o_yield rfl rfl rfl (y_val tok rfl) ?_
  refine o_yield rfl rfl rfl (y_val tok rfl) ?_
  refine o_callV (fun x V' => ∃ a n c, x = .tuple #[stV a n c 0 0 (if (allCells g l).length = 0 then 3 else 0), I 0] ∧ SlOf V' Cell.cells 2 (.slice a n c) (allCells g l)) rfl rfl fnok27 rfl rfl (fun hg E w1 hm => by exact rbegin20_c (vw w) g ok sa sm sc l _ hm.leV hs hn hml) ?_
  rintro y W hle hy
  obtain ⟨a, n, c, rfl, hc⟩ := hy rfl
  obtain ⟨L, hL⟩ : ∃ L, allCells g l = L := ⟨_, rfl⟩
  rw [hL] at hc hcl ⊢
  refine o_yield rfl rfl rfl (y_val tok rfl) ?_
  refine o_yield rfl rfl rfl (y_val tok rfl) ?_
  refine o_yield rfl rfl rfl (y_val tok rfl) ?_
  refine o_new tok rfl rfl rfl rfl ?_
  refine o_store tok rfl rfl rfl (by first | exact ⟨trivial, trivial⟩ | (repeat' first | exact trivial | exact rfl | apply And.intro); done | simp [onesP, oneP, lk, Value.oneCell']) ?_
  refine o_yield rfl rfl rfl (y_val tok rfl) ?_
  refine o_end [1, 2, 4, 10, 11] rfl ?_
  refine x_then ?_
  refine c_seq ?_
  refine c_region ?_
  refine o_yield rfl rfl rfl (y_val tok rfl) ?_
  refine o_call (.a (.v _)) rfl rfl fnok23 rfl rfl rfl (fun hg E w1 hm => by exact hhd _) ?_
  refine o_yield rfl rfl rfl (y_val tok rfl) ?_
  refine o_yield rfl rfl rfl (y_val tok rfl) ?_
  refine o_yield rfl rfl rfl (y_val tok rfl) ?_
  refine o_yield rfl rfl rfl (y_val tok rfl) ?_
  refine o_yield rfl rfl rfl (y_val tok rfl) ?_
  refine o_end [1, 2, 4, 10, 11, 13] rfl ?_
  refine x_then ?_
  refine c_seq ?_
  refine c_seq ?_
  refine c_region ?_
  refine o_yield rfl rfl rfl (y_val tok rfl) ?_
  refine o_yield rfl rfl rfl (y_val tok rfl) ?_
  refine o_yield rfl rfl rfl (y_val tok rfl) ?_
  refine o_yield rfl rfl rfl (y_val tok rfl) ?_
  refine o_yield rfl rfl rfl (y_val tok rfl) ?_
  refine o_yield rfl rfl rfl (y_val tok rfl) ?_
  refine o_yield rfl rfl rfl (y_val tok rfl) ?_
  refine o_yield rfl rfl rfl (y_val tok rfl) ?_
  refine o_yield rfl rfl rfl (y_val tok rfl) ?_
  refine o_call (.a (.v _)) rfl rfl fnok25 rfl rfl rfl (fun hg E w1 hm => by exact refHead_c g ok slot _) ?_
  refine o_yield rfl rfl rfl (y_val tok rfl) ?_
  refine o_yield rfl rfl rfl (y_val tok rfl) ?_
  refine o_end [1, 2, 4, 10, 38] rfl ?_
  refine x_then ?_
  refine c_cond rfl (fun h => ?_) (fun h => ?_)
  ·
    exfalso
    simp at h
    omega
  ·
    refine c_skip ?_
    refine x_then ?_
    refine c_seq ?_
    refine c_region ?_
    refine o_yield rfl rfl rfl (y_val tok rfl) ?_
    refine o_end [1, 2, 4, 10, 14] rfl ?_
    refine x_then ?_
    refine c_seq ?_
    refine c_seq ?_
    refine c_region ?_
    refine o_yield rfl rfl rfl (y_val tok rfl) ?_
    refine o_end [1, 2, 4, 10, 14, 15] rfl ?_
    refine x_then ?_
    refine c_block ?_
    refine k_nil 14 45 4 rfl rfl ?_
    have eI : seI L.length 0 = 0 := by rw [seI]; omega
    have eL : seL L.length 0 = 0 := by rw [seL]; split <;> first | rfl | (split <;> omega)
    have eA : (if L.length = 0 then (3 : Int) else 0) = seA L.length 0 := by
      rw [seA]
      by_cases h0 : L.length = 0
      · rw [if_pos h0, if_pos h0]
      · rw [if_neg h0, if_neg h0, if_pos (by omega)]
    have e0 : actsTo L (headV g slot) (headS head).1 0 = [] := rfl
    rw [eA]
    refine c_loopV [1, 2, 4, 10] [0, 1, 2] rfl rfl (σ := Nat) (fun k => [(14, .a (.row 2)), (15, .a (.v (I k)))]) (fun k => [(0, .lit (g.cells.map .v) 23), (1, .lit [.v (.slice a n c), .v (I (seI L.length k)), .v (I (seL L.length k)), .v (I8 (seA L.length k))] 72), (2, .row 45 4 (actsTo L (headV g slot) (headS head).1 k).length ((actsTo L (headV g slot) (headS head).1 k).flatMap ActV.cells))]) (fun k => W) (fun k => k ≤ actN L.length) (fun k => actN L.length - k) (0) (by omega) (by repeat (first | exact SubF.nil | refine SubF.cons rfl ?_ | refine SubF.cons (by simp only [eI, eL, e0]; first | done | rfl) ?_)) (by repeat (first | exact SubO.nil | refine SubO.cons rfl ?_ | refine SubO.cons (by simp only [eI, eL, e0]; first | done | rfl) ?_)) rfl (Vw.le.refl _) ?_
    rintro k hkn
    refine c_seq ?_
    refine c_seq ?_
    refine c_region ?_
    refine o_yield rfl rfl rfl (y_val tok rfl) ?_
    refine o_yield rfl rfl rfl (y_val tok rfl) ?_
    refine o_yield rfl rfl rfl (y_val tok rfl) ?_
    have hw2 : IntKind.i64.wrap (IntKind.i64.wrap (2 * (L.length : Int)) + 1) = 2 * L.length + 1 := by rw [wrapI (n := 2 * (L.length : Int)) (by omega) (by omega), wrapI (by omega) (by omega)]
    refine o_yield rfl rfl rfl (y_len tok rfl (fun hg => hc.sl)) ?_
    refine o_yield rfl rfl rfl (y_val tok rfl) ?_
    refine o_yield rfl rfl rfl (y_val tok rfl) ?_
    refine o_yield rfl rfl rfl (y_val tok rfl) ?_
    refine o_yield rfl rfl rfl (y_val tok rfl) ?_
    refine o_yield rfl rfl rfl (y_val tok rfl) ?_
    refine o_call (.a (.v _)) rfl rfl fnok28 rfl rfl rfl (fun hg E w1 hm => by exact rover20_c a n c _ _ _ _) ?_
    refine o_yield rfl rfl rfl (y_val tok rfl) ?_
    refine o_yield rfl rfl rfl (y_val tok rfl) ?_
    refine o_end [1, 2, 4, 10, 14, 15, 50] rfl ?_
    refine x_then ?_
    refine c_cond rfl (fun h => ?_) (fun h => ?_)
    ·
      rw [hw2] at h
      obtain ⟨hkm, hm0⟩ : k ≤ 2 * L.length ∧ 0 < L.length := by
        rw [actN] at hkn
        by_cases h0 : L.length = 0
        · exfalso
          rw [if_pos h0] at hkn
          rw [seA, if_pos h0] at h
          simp at h
        · simp at h
          exact ⟨by omega, by omega⟩
      clear h
      have hka : k < actN L.length := by rw [actN, if_neg (by omega)]; omega
      obtain ⟨t1, t2, t3⟩ := se_succ hm0 hkm
      obtain ⟨b1, b2⟩ := se_le L.length k hcl
      have hl1 : (actsTo L (headV g slot) (headS head).1 k).length + 1 = (actsTo L (headV g slot) (headS head).1 (k + 1)).length := by rw [actsTo_len, actsTo_len]
      refine c_skip ?_
      refine x_then ?_
      refine c_seq ?_
      refine c_block ?_
      refine c_seq ?_
      refine c_region ?_
      refine o_yield rfl rfl rfl (y_val tok rfl) ?_
      refine o_yield rfl rfl rfl (y_val tok rfl) ?_
      refine o_yield rfl rfl rfl (y_val tok rfl) ?_
      refine o_yield rfl rfl rfl (y_val tok rfl) ?_
      refine o_yield rfl rfl rfl (y_val tok rfl) ?_
      refine o_call (.a (.v _)) rfl rfl fnok29 rfl rfl rfl (fun hg E w1 hm => by exact rwantK_c W g ok a n c L k slot head _ hm.leV hc hm0 hkm (by omega) hh hk) ?_
      refine o_step rfl rfl rfl rfl rfl (s_bs tok 4 rfl rfl rfl) (fun _ _ => ?_)
      refine o_step rfl rfl rfl rfl rfl (s_app tok ([actAt L (headV g slot) (headS head).1 k].flatMap ActV.cells) rfl (fun E w hm => ownsRow_src (hm.row _ _ _ _ _ rfl)) (fun _ _ _ => act_ones _) (by rw [actsTo_len]; show (k + 1) * 40 ≤ _; omega)) (fun _ _ => ?_)
      refine o_yield rfl rfl rfl (y_val tok rfl) ?_
      refine o_end [1, 2, 4, 10, 14, 15] rfl ?_
      refine x_then ?_
      refine c_region ?_
      refine o_yield rfl rfl rfl (y_val tok rfl) ?_
      rw [hl1, ← List.flatMap_append, ← actsTo_succ]
      refine o_call (.a (.v _)) rfl rfl fnok30 rfl rfl rfl (fun hg E w1 hm => by exact rtake20_c W a n c L _ _ _ _ hm.leV hc b1 (b2 (by omega))) ?_
      refine o_store tok rfl rfl rfl (by first | exact ⟨trivial, trivial⟩ | (repeat' first | exact trivial | exact rfl | apply And.intro); done | simp [onesP, oneP, lk, Value.oneCell']) ?_
      refine o_end [1, 2, 4, 10, 14, 15] rfl ?_
      refine x_block ?_
      refine x_then ?_
      refine c_region ?_
      refine o_yield rfl rfl rfl (y_val tok rfl) ?_
      refine o_yield rfl rfl rfl (y_val tok rfl) ?_
      refine o_yield rfl rfl rfl (y_val tok rfl) ?_
      refine o_end [1, 2, 4, 10, 14, 15] rfl ?_
      refine x_then ?_
      rw [t1, t2, t3, wrapI (n := (k : Int) + 1) (by omega) (by omega)]
      refine k_swap 2 4 rfl ?_
      refine x_round (k + 1) (by omega) (by first | omega | (dsimp only; omega)) (by repeat (first | exact SubF.nil | refine SubF.cons rfl ?_)) (by repeat (first | exact SubO.nil | refine SubO.cons rfl ?_)) rfl (Vw.le.refl _)
    ·
      rw [hw2] at h
      have hke : k = actN L.length := by
        rw [actN] at hkn ⊢
        by_cases h0 : L.length = 0
        · rw [if_pos h0] at hkn ⊢; omega
        · rw [if_neg h0] at hkn ⊢
          by_cases hkk : k ≤ 2 * L.length
          · exfalso
            have : seA L.length k ≤ 2 := by
              rw [seA, if_neg h0]
              split
              · omega
              · split
                · omega
                · split <;> omega
            simp at h
            omega
          · omega
      subst hke
      clear h
      refine c_exit ?_
      refine x_then_exit ?_
      refine x_then_exit ?_
      refine x_block_hit ?_
      refine x_then ?_
      refine c_seq ?_
      refine c_region ?_
      refine o_yield rfl rfl rfl (y_val tok rfl) ?_
      refine o_yield rfl rfl rfl (y_val tok rfl) ?_
      refine o_yield rfl rfl rfl (y_val tok rfl) ?_
      refine o_end [8, 9] rfl ?_
      refine x_then ?_
      refine c_ret ?_
      refine b_ret tok rfl ?_
      intro E w' hm _
      exact ⟨⟨E.κ 2, rfl, hm.rowFresh hle (l := 2) rfl⟩, hm.below hle⟩
end Go.Proofs.Ytipmgnhbcaniiaa

/- The device behind so many acts: plain; each act done. -/
set_option linter.unusedVariables false
set_option linter.unusedSimpArgs false
set_option maxRecDepth 100000
namespace Go.Proofs.Ytipmgnhbcaniiaa
open Go Go.Eng Go.RowKit

theorem cells_lo {g : Geo} {l : List Block} (hm : mayL g l = true) : ∀ c ∈ allCells g l, dataAt g ≤ c.sector := by
  have hm2 := hm
  rw [mayL, Bool.and_eq_true] at hm2
  obtain ⟨hg, hmf⟩ := hm2
  have hf := geo_facts hg
  have hat := mayF_at hmf
  have hp : 0 < g.per.toNat := by omega
  intro c hc
  rw [allCells, cellsN, List.mem_map] at hc
  obtain ⟨j, hj, rfl⟩ := hc
  rw [List.mem_range] at hj
  have hd : j / g.per.toNat < l.length := (Nat.div_lt_iff_lt_mul hp).2 hj
  have hmod := Nat.mod_lt j hp
  obtain ⟨b, hb⟩ : ∃ b, l[j / g.per.toNat]? = some b := ⟨l[j / g.per.toNat], by simp [hd]⟩
  obtain ⟨_, k2, _, k4, _⟩ := hat _ b hb
  have hs := data_lt (n := b.n) (k := ((j % g.per.toNat : Nat) : Int)) hg (by omega) k2 (by omega) (by omega)
  rw [cellAt, blkAt_eq hb]
  dsimp only
  omega

theorem short_iff (l : List ByteArray) : shortB l = true ↔ ∀ x ∈ l, x.size ≤ 512 := by
  rw [shortB, Bool.not_eq_true', List.any_eq_false]
  constructor
  · intro h x hx
    have := h x hx
    simp at this
    omega
  · intro h x hx
    have := h x hx
    simp
    omega

theorem short_set {l : List ByteArray} {q : Nat} {x : ByteArray} (h : shortB l = true) (hx : x.size ≤ 512) : shortB (l.set q x) = true := by
  rw [short_iff] at h ⊢
  intro y hy
  rcases List.mem_or_eq_of_mem_set hy with h1 | h1
  · exact h y h1
  · rw [h1]; exact hx

theorem short_wrA : ∀ (l : List Cell) (T : List ByteArray), shortB T = true → (∀ c ∈ l, c.b.size ≤ 512) → shortB (wrA T l) = true
  | [], T, h, _ => h
  | c :: r, T, h, hc => by
    rw [wrA, List.foldl_cons]
    exact short_wrA r _ (short_set h (hc c List.mem_cons_self)) (fun x hx => hc x (List.mem_cons_of_mem _ hx))

theorem hdS_small (n : Int) : (headS n).1.size ≤ 256 := by
  unfold headS
  split
  · simp only [strOf_size, sealL_len, leB, leTake_len]; decide
  · simp

theorem gbV_small (g : Geo) : (gbV g).size ≤ 256 := by
  unfold gbV
  split
  · have h20 : (packL gW (gNums g)).length = 20 := by simp [packL, gW, gNums, leB, leTake_len]
    rw [strOf_size, sealL_len, h20]; omega
  · simp

theorem short_fmt {g : Geo} {top hd : ByteArray} (h1 : top.size ≤ 512) (h2 : hd.size ≤ 512) : ∀ i, shortB (fmtTo g top hd i) = true
  | 0 => by
    rw [fmtTo]
    refine short_set ?_ h1
    rw [short_iff]
    intro x hx
    rw [List.mem_replicate] at hx
    rw [hx.2]; simp
  | i + 1 => by rw [fmtTo]; exact short_set (short_fmt h1 h2 i) h2

theorem small_set {l : List ByteArray} {q : Nat} {x : ByteArray} (h : ∀ y ∈ l, y.size ≤ 256) (hx : x.size ≤ 256) : ∀ y ∈ l.set q x, y.size ≤ 256 := by
  intro y hy
  rcases List.mem_or_eq_of_mem_set hy with h1 | h1
  · exact h y h1
  · rw [h1]; exact hx

theorem small_wrA : ∀ (l : List Cell) (T : List ByteArray), (∀ y ∈ T, y.size ≤ 256) → (∀ c ∈ l, c.b.size ≤ 256) → ∀ y ∈ wrA T l, y.size ≤ 256
  | [], T, h, _ => h
  | c :: r, T, h, hc => by
    rw [wrA, List.foldl_cons]
    exact small_wrA r _ (small_set h (hc c List.mem_cons_self)) (fun x hx => hc x (List.mem_cons_of_mem _ hx))

theorem small_fmt {g : Geo} {top hd : ByteArray} (h1 : top.size ≤ 256) (h2 : hd.size ≤ 256) : ∀ i, ∀ y ∈ fmtTo g top hd i, y.size ≤ 256
  | 0 => by
    rw [fmtTo]
    refine small_set ?_ h1
    intro x hx
    rw [List.mem_replicate] at hx
    rw [hx.2]; simp
  | i + 1 => by rw [fmtTo]; exact small_set (small_fmt h1 h2 i) h2

theorem cells_small (g : Geo) (l : List Block) : ∀ c ∈ allCells g l, c.b.size ≤ 256 := by
  intro c hc
  rw [allCells, cellsN, List.mem_map] at hc
  obtain ⟨j, _, rfl⟩ := hc
  exact piece_size _ _

/-- A device's sectors and the first node's cache behind so many acts. -/
def sS (T : List ByteArray) (cs : List Cell) (hq : Nat) (hd : ByteArray) (k : Nat) : List ByteArray := if k ≤ 2 * cs.length then wrA T (cs.take (k - cs.length)) else (wrA T cs).set hq hd
def sC (cs : List Cell) (k : Nat) : List Cell := if k ≤ cs.length then cs.take k else cs.drop (k - cs.length)

theorem sC_ok {n : Int} {cs : List Cell} (h : CellsOk n cs) (k : Nat) : CellsOk n (sC cs k) := by
  rw [sC]
  split
  · exact h.take _
  · exact h.drop _

theorem sC_len (cs : List Cell) (k : Nat) : (sC cs k).length ≤ cs.length := by
  rw [sC]
  split
  · rw [List.length_take]; omega
  · rw [List.length_drop]; omega

theorem sS_len (T : List ByteArray) (cs : List Cell) (hq : Nat) (hd : ByteArray) (k : Nat) : (sS T cs hq hd k).length = T.length := by
  rw [sS]
  split
  · exact wrA_len _ _
  · rw [List.length_set, wrA_len]

theorem sS_short {T : List ByteArray} {cs : List Cell} {hd : ByteArray} (hT : shortB T = true) (hc : ∀ c ∈ cs, c.b.size ≤ 512) (hh : hd.size ≤ 512) (hq k : Nat) : shortB (sS T cs hq hd k) = true := by
  rw [sS]
  split
  · exact short_wrA _ _ hT (fun c hc' => hc c (List.mem_of_mem_take hc'))
  · exact short_set (short_wrA _ _ hT hc) hh

theorem sS_small {T : List ByteArray} {cs : List Cell} {hd : ByteArray} (hT : ∀ y ∈ T, y.size ≤ 256) (hc : ∀ c ∈ cs, c.b.size ≤ 256) (hh : hd.size ≤ 256) (hq k : Nat) : ∀ y ∈ sS T cs hq hd k, y.size ≤ 256 := by
  rw [sS]
  split
  · exact small_wrA _ _ hT (fun c hc' => hc c (List.mem_of_mem_take hc'))
  · exact small_set (small_wrA _ _ hT hc) hh

theorem sS_end (T : List ByteArray) (cs : List Cell) (hq : Nat) (hd : ByteArray) {q : Nat} (hne : hq ≠ q) : (sS T cs hq hd (actN cs.length))[q]? = (wrA T cs)[q]? := by
  rw [sS, actN]
  by_cases h0 : cs.length = 0
  · have : cs = [] := List.eq_nil_of_length_eq_zero h0
    subst this
    simp
  · rw [if_neg h0, if_neg (by omega), List.getElem?_set_ne hne]

theorem sC_end (cs : List Cell) : sC cs (actN cs.length) = [] := by
  rw [sC, actN]
  by_cases h0 : cs.length = 0
  · have : cs = [] := List.eq_nil_of_length_eq_zero h0
    subst this
    simp
  · rw [if_neg h0, if_neg (by omega), List.drop_of_length_le (by omega)]

/-- Keys of nodes that two registered. -/
structure KeysOk (K : List Int) (nx : Int) : Prop where
  k0 : 0 < K.length
  k1 : K.length ≤ 16
  n1 : 1 ≤ nx
  n2 : nx < 1000
  ks : ∀ (i : Nat) (k : Int), K[i]? = some k → k = 0 ∨ (16 ≤ k ∧ k < 16 * nx ∧ k % 16 = (i : Int))

theorem KeysOk.reg {K : List Int} {nx : Int} (h : KeysOk K nx) (hn : nx < 900) {node : Nat} (hnode : node < K.length) : KeysOk (K.set node (16 * nx + node)) (nx + 1) := by
  have h1 := h.k1
  have h2 := h.n1
  refine ⟨by rw [List.length_set]; exact h.k0, by rw [List.length_set]; exact h1, by omega, by omega, fun i k hk => ?_⟩
  by_cases e : i = node
  · subst e
    rw [List.getElem?_set_self hnode] at hk
    cases hk
    exact .inr ⟨by omega, by omega, by omega⟩
  · rw [List.getElem?_set_ne (fun x => e x.symm)] at hk
    rcases h.ks i k hk with h3 | ⟨h3, h4, h5⟩
    · exact .inl h3
    · exact .inr ⟨h3, by omega, h5⟩

theorem good_of {S : List ByteArray} {K : List Int} {nx : Int} {l : List Cell} (hK : KeysOk K nx) (h0 : 0 < S.length) (hn : S.length ≤ 100000) (hs : shortB S = true) (hl : CellsOk (S.length : Int) l) (hll : l.length ≤ 900) :
    DevGood S ((List.replicate K.length []).set 0 l) K nx := by
  refine ⟨h0, hn, hs, hK.k0, hK.k1, by simp, hK.n1, hK.n2, fun r hr => ?_, hK.ks⟩
  rcases List.mem_or_eq_of_mem_set hr with h1 | h1
  · rw [List.mem_replicate] at h1
    rw [h1.2]; exact ⟨rfl, by simp⟩
  · rw [h1]; exact ⟨cacheF_ok _ _ hl (by simp), hll⟩

theorem doK_c (V : Vw) (v : Value) (T : List ByteArray) (cs : List Cell) (hq : Nat) (hd : ByteArray) (K : List Int) (nx key0 : Int) (k : Nat) (w : World) (hV : V.le (vw w)) (hD : DevC V v (sS T cs hq hd k) ((List.replicate K.length []).set 0 (sC cs k)) K nx)
    (hK : KeysOk K nx) (hk0 : K[0]? = some key0) (hk1 : 1 ≤ key0) (hT0 : 0 < T.length) (hTn : T.length ≤ 100000) (hTs : shortB T = true) (hcs : CellsOk (T.length : Int) cs) (hcp : ∀ c ∈ cs, 1 ≤ c.sector) (hcl : cs.length ≤ 900) (hhq : hq < T.length) (hhd : hd.size ≤ 512) (hk : k < actN cs.length) :
    Calls Try.prog 10 #[v, I 0, (actAt cs (hq : Int) hd k).val] w (DoQ V (sS T cs hq hd (k + 1)) ((List.replicate K.length []).set 0 (sC cs (k + 1))) K nx ByteArray.empty w) := by
  have hm : 0 < cs.length ∧ k ≤ 2 * cs.length := by
    rw [actN] at hk
    split at hk
    · omega
    · omega
  have hkl := hK.k0
  have hSl := sS_len T cs hq hd k
  have hg : DevGood (sS T cs hq hd k) ((List.replicate K.length []).set 0 (sC cs k)) K nx := good_of hK (by omega) (by omega) (sS_short hTs (fun c hc => (hcs.lo c hc).2.2) hhd hq k) (by rw [hSl]; exact sC_ok hcs k) (by have := sC_len cs k; omega)
  have hl0 : ((List.replicate K.length ([] : List Cell)).set 0 (sC cs k))[0]? = some (sC cs k) := List.getElem?_set_self (by simpa using hkl)
  have hset : ∀ r : List Cell, ((List.replicate K.length ([] : List Cell)).set 0 (sC cs k)).set 0 r = (List.replicate K.length []).set 0 r := fun r => by simp
  by_cases h1 : k < cs.length
  · obtain ⟨x, hx⟩ : ∃ x, cs[k]? = some x := ⟨_, List.getElem?_eq_getElem h1⟩
    obtain ⟨hx1, hx2, hx3⟩ := hcs.lo x (List.mem_of_getElem? hx)
    have e4 : actAt cs (hq : Int) hd k = ⟨3, x.sector, x.b, 0⟩ := by rw [actAt, if_pos h1, List.getD, hx]; rfl
    have e1 : sC cs k = cs.take k := by rw [sC, if_pos (by omega)]
    have e2 : sC cs (k + 1) = sC cs k ++ [⟨x.sector, x.b⟩] := by rw [sC, if_pos (by omega), e1, take_succ_at hx]
    have e3 : sS T cs hq hd (k + 1) = sS T cs hq hd k := by
      rw [sS, sS, if_pos (by omega), if_pos (by omega), show k + 1 - cs.length = 0 by omega, show k - cs.length = 0 by omega]
    have hno : ∀ c ∈ sC cs k, c.sector ≠ x.sector := by
      intro c hc
      rw [e1] at hc
      obtain ⟨i, hi⟩ := List.mem_iff_getElem?.1 hc
      rw [List.getElem?_take] at hi
      split at hi
      · rename_i hik
        have := hcs.up i k hik c x hi hx
        omega
      · cases hi
    have := doPut_c V v _ _ K nx 0 (sC cs k) key0 x.sector x.b w hV hD hg hl0 hk0 hk1 hx1 (by rw [hSl]; exact hx2) hx3 hno
    rw [hset, ← e2, ← e3] at this
    rw [e4]
    exact this
  · by_cases h2 : k < 2 * cs.length
    · have hj : k - cs.length < cs.length := by omega
      obtain ⟨x, hx⟩ : ∃ x, cs[k - cs.length]? = some x := ⟨_, List.getElem?_eq_getElem hj⟩
      obtain ⟨hx1, hx2, hx3⟩ := hcs.lo x (List.mem_of_getElem? hx)
      have e4 : actAt cs (hq : Int) hd k = ⟨4, 0, ByteArray.empty, 0⟩ := by rw [actAt, if_neg h1, if_pos h2]
      have e1 : sC cs k = x :: cs.drop (k - cs.length + 1) := by
        rw [sC]
        split
        · rename_i he
          have hke : k = cs.length := by omega
          subst hke
          rw [List.take_length]
          rw [Nat.sub_self] at hx ⊢
          cases cs with
          | nil => simp at hx
          | cons y r => simp at hx; subst hx; rfl
        · exact drop_at hx
      have e2 : sC cs (k + 1) = cs.drop (k - cs.length + 1) := by rw [sC, if_neg (by omega), show k + 1 - cs.length = k - cs.length + 1 by omega]
      have e3 : sS T cs hq hd (k + 1) = (sS T cs hq hd k).set x.sector.toNat x.b := by
        rw [sS, sS, if_pos (by omega), if_pos (by omega), show k + 1 - cs.length = k - cs.length + 1 by omega, take_succ_at hx, wrA_snoc]
        rfl
      have hD2 := hD
      rw [e1] at hD2 hg hl0 hset
      have hno : ∀ c ∈ x :: cs.drop (k - cs.length + 1), c.sector ≠ 0 := by
        intro c hc
        rw [← e1] at hc
        have : c ∈ cs := by
          rw [sC] at hc
          split at hc
          · exact List.mem_of_mem_take hc
          · exact List.mem_of_mem_drop hc
        have := hcp c this
        omega
      have := doFlush_c V v _ _ K nx 0 x (cs.drop (k - cs.length + 1)) key0 x.sector.toNat w hV hD2 hg hl0 hk0 hk1 (by omega) (by omega) hno
      rw [hset, ← e2, ← e3] at this
      rw [e4]
      exact this
    · have hke : k = 2 * cs.length := by omega
      have e4 : actAt cs (hq : Int) hd k = ⟨2, hq, hd, 0⟩ := by rw [actAt, if_neg h1, if_neg h2]
      have e1 : sC cs k = [] := by rw [sC, if_neg (by omega), List.drop_of_length_le (by omega)]
      have e2 : sC cs (k + 1) = [] := by rw [sC, if_neg (by omega), List.drop_of_length_le (by omega)]
      have e3 : sS T cs hq hd (k + 1) = (sS T cs hq hd k).set hq hd := by
        rw [sS, sS, if_neg (by omega), if_pos (by omega), List.take_of_length_le (by omega)]
      have := doForce_c V v _ _ K nx 0 (sC cs k) key0 hq hd w hV hD hg hl0 hk0 hk1 (by omega) hhd (by rw [e1]; simp)
      rw [← e3] at this
      have e5 : sC cs (k + 1) = sC cs k := by rw [e1, e2]
      rw [e4, e5]
      exact this
end Go.Proofs.Ytipmgnhbcaniiaa

/- The law FetchStands. -/
set_option linter.unusedVariables false
set_option linter.unusedSimpArgs false
set_option maxRecDepth 100000
namespace Go.Proofs.Ytipmgnhbcaniiaa
open Go Go.Eng Go.RowKit

theorem rformat_cV (V : Vw) (g : Geo) (ok : g.Ok) (hg : geoB g = true) (h0 : (headS 0).2 = 0) (w : World) (hV : V.le (vw w)) :
    Calls Try.prog 7 #[g.val] w fun e w' => ∃ x V', e = .returned x ∧ Below w.heap.size w w' ∧ Vext w.heap.size V V' w' ∧ ∃ a n c, x = .tuple #[.slice a n c, I 0] ∧ SlOf V' encS 1 (.slice a n c) (fmtTo g (gbV g) (headS 0).1 g.slots.toNat) := by
  refine (rformat_c g ok (headS 0).1 (fun w => by have := refHeadS_c 0 w; rw [h0] at this; exact this) w).mono ?_
  rintro e w' ⟨⟨_, v, rfl, hrow⟩ | ⟨h1, _⟩, hb⟩
  · rw [← fmtTo_len g (gbV g) (headS 0).1 g.slots.toNat] at hrow
    obtain ⟨V', hx, hsl⟩ := ownsRow_vext hV hb hrow
    obtain ⟨a, n, c, rfl⟩ := sl_shape hsl
    exact ⟨_, V', rfl, hb, hx, a, n, c, rfl, hsl, fun _ => rfl⟩
  · rw [hg] at h1; cases h1

theorem racts_cV (V : Vw) (g : Geo) (ok : g.Ok) (sa : Option Addr) (sm sc : Nat) (l : List Block) (slot head : Int) (w : World) (hV : V.le (vw w)) (hs0 : SlOf V Block.cells 2 (.slice sa sm sc) l) (hn : l.length ≤ maxLen) (hml : mayL g l = true) (hcl : (allCells g l).length ≤ 900) (hh : (headS head).2 = 0) (hk : 0 ≤ headV g slot) :
    Calls Try.prog 9 #[g.val, I slot, I head, .slice sa sm sc] w fun e w' => ∃ x V', e = .returned x ∧ Below w.heap.size w w' ∧ Vext w.heap.size V V' w' ∧ ∃ a n c, x = .tuple #[.slice a n c, I 0] ∧ SlOf V' ActV.cells 4 (.slice a n c) (actsTo (allCells g l) (headV g slot) (headS head).1 (actN (allCells g l).length)) := by
  refine (racts_c V g ok sa sm sc l slot head w hV hs0 hn hml hcl hh hk).mono ?_
  rintro e w' ⟨⟨v, rfl, hrow⟩, hb⟩
  obtain ⟨V', hx, hsl⟩ := ownsRow_vext hV hb hrow
  obtain ⟨a, n, c, rfl⟩ := sl_shape hsl
  exact ⟨_, V', rfl, hb, hx, a, n, c, rfl, hsl, fun _ => rfl⟩

theorem heads_ok (n : Int) (h : 0 ≤ n ∧ n ≤ 1099511627776) : (headS n).2 = 0 := by
  have h6 : mostN (6 : Int).toNat = 1099511627776 := by decide
  have : fitsB n 6 = true := by
    rw [fitsB, h6]
    simp [widthB]
    omega
  rw [headS, if_pos this]

theorem keys_new {n : Nat} (h0 : 0 < n) (h1 : n ≤ 16) : KeysOk (List.replicate n 0) 1 :=
  ⟨by simpa using h0, by simpa using h1, by omega, by omega, fun i k hk => by
    have := List.mem_of_getElem? hk
    rw [List.mem_replicate] at this
    exact .inl this.2⟩

set_option maxHeartbeats 8000000 in
theorem fetchStands_law (w : World) {v0 v1 v2 v3 : Value} (R0 : ∃ g : Geo, v0 = g.val ∧ g.Ok) (R1 : ∃ l : List Block, SlOf (vw w) Block.cells 2 v1 l ∧ l.length ≤ maxLen ∧ ∀ a ∈ l, Block.Ok a) (R2 : ∃ n : Int, v2 = I n ∧ R64 n) (R3 : ∃ n : Int, v3 = I n ∧ R64 n) :
    Calls Try.prog 3 #[v0, v1, v2, v3] w fun e w' => e = .returned (.bool true) ∧ Below w.heap.size w w' := by
  obtain ⟨g, rfl, ok⟩ := R0
  obtain ⟨p, hp, hpm, _⟩ := R1
  obtain ⟨node, rfl, _⟩ := R2
  obtain ⟨blk, rfl, _⟩ := R3
  obtain ⟨pa, pm, pc, rfl⟩ := sl_shape hp.sl
  refine enter (E := E0) (O := []) (nl := 0) (V := vw w) [.a (.v g.val), .a (.v (.slice pa pm pc)), .a (.v (I node)), .a (.v (I blk))] Try.func3 rfl rfl (mem0 E0 0 w) rfl rfl ?_
  refine c_seq ?_
  refine c_region ?_
  refine o_new tok rfl rfl rfl rfl ?_
  refine o_yield rfl rfl rfl (y_val tok rfl) ?_
  refine o_end [1, 2, 3, 4] rfl ?_
  refine x_then ?_
  refine c_seq ?_
  refine c_seq ?_
  refine c_region ?_
  refine o_yield rfl rfl rfl (y_val tok rfl) ?_
  refine o_yield rfl rfl rfl (y_val tok rfl) ?_
  refine o_yield rfl rfl rfl (y_val tok rfl) ?_
  refine o_yield rfl rfl rfl (y_val tok rfl) ?_
  refine o_yield rfl rfl rfl (y_val tok rfl) ?_
  refine o_call (.a (.v _)) rfl rfl fnok4 rfl rfl rfl (fun hg E w1 hm => by exact great_c (vw w) _ p _ hm.leV hp hpm) ?_
  refine o_yield rfl rfl rfl (y_val tok rfl) ?_
  refine o_yield rfl rfl rfl (y_val tok rfl) ?_
  refine o_yield rfl rfl rfl (y_val tok rfl) ?_
  refine o_yield rfl rfl rfl (y_val tok rfl) ?_
  refine o_call (.a (.v _)) rfl rfl fnok5 rfl rfl rfl (fun hg E w1 hm => by exact refBMay_c (vw w) g ok _ p _ hm.leV hp hpm) ?_
  refine o_yield rfl rfl rfl (y_val tok rfl) ?_
  refine o_yield rfl rfl rfl (y_val tok rfl) ?_
  refine o_yield rfl rfl rfl (y_val tok rfl) ?_
  refine o_yield rfl rfl rfl (y_val tok rfl) ?_
  refine o_yield rfl rfl rfl (y_val tok rfl) ?_
  refine o_yield rfl rfl rfl (y_val tok rfl) ?_
  refine o_yield rfl rfl rfl (y_val tok rfl) ?_
  refine o_yield rfl rfl rfl (y_val tok rfl) ?_
  refine o_yield rfl rfl rfl (y_val tok rfl) ?_
  refine o_yield rfl rfl rfl (y_val tok rfl) ?_
  refine o_yield rfl rfl rfl (y_val tok rfl) ?_
  refine o_yield rfl rfl rfl (y_val tok rfl) ?_
  refine o_yield rfl rfl rfl (y_val tok rfl) ?_
  refine o_yield rfl rfl rfl (y_val tok rfl) ?_
  refine o_yield rfl rfl rfl (y_val tok rfl) ?_
  refine o_yield rfl rfl rfl (y_val tok rfl) ?_
  refine o_yield rfl rfl rfl (y_val tok rfl) ?_
  refine o_yield rfl rfl rfl (y_val tok rfl) ?_
  refine o_yield rfl rfl rfl (y_val tok rfl) ?_
  refine o_yield rfl rfl rfl (y_val tok rfl) ?_
  refine o_yield rfl rfl rfl (y_val tok rfl) ?_
  refine o_yield rfl rfl rfl (y_val tok rfl) ?_
  refine o_end [1, 2, 3, 4, 62] rfl ?_
  refine x_then ?_
  refine c_cond rfl (fun h => ?_) (fun h => ?_)
  ·
    refine c_seq ?_
    refine c_region ?_
    refine o_call (.a (.v _)) rfl rfl fnok6 rfl rfl rfl (fun hg E w1 hm => by exact wakes22_c _) ?_
    refine o_yield rfl rfl rfl (y_val tok rfl) ?_
    refine o_end [8] rfl ?_
    refine x_then ?_
    refine c_ret ?_
    refine x_then_ret ?_
    refine b_ret tok rfl ?_
    intro E w' hm _
    refine ⟨?_, hm.below (Vw.le.refl _)⟩
    rfl
  ·
    obtain ⟨hb8, hgr, hmp, hn0, hn1, hk0, hk1⟩ : g.blocks ≤ 8 ∧ greatB p = false ∧ mayL g p = true ∧ 0 ≤ node ∧ node < g.nodes ∧ 0 ≤ blk ∧ blk < g.blocks := by
      simp at h
      obtain ⟨⟨⟨⟨⟨⟨h1, h2⟩, h3⟩, h4⟩, h5⟩, h6⟩, h7⟩ := h
      exact ⟨by omega, h2, h3, by omega, by omega, by omega, by omega⟩
    clear h
    have hplen := mayL_len hmp
    have hmp2 := hmp
    rw [mayL, Bool.and_eq_true] at hmp2
    obtain ⟨hG, _⟩ := hmp2
    have hf := geo_facts hG
    have hsz := geo_sizes hG
    have hd0 := heads_ok 0 (by omega)
    have hd1 := heads_ok 1 (by omega)
    obtain ⟨hq, hqe, hqt⟩ := head_in hG (i := 0) (by omega)
    have hcells := cells_ok hmp
    have hcl : (allCells g p).length ≤ 900 := by
      rw [allCells, cellsN_len]
      have : p.length * g.per.toNat ≤ 8 * g.per.toNat := Nat.mul_le_mul_right _ (by omega)
      omega
    have hcp : ∀ c ∈ allCells g p, 1 ≤ c.sector := fun c hc => by have := cells_lo hmp c hc; omega
    have hq0 : headV g 0 = (hq : Int) := hqe
    have htot : totV g = dataAt g + g.blocks * g.per := by rw [totV, if_pos hG]
    obtain ⟨nd, hnd⟩ : ∃ nd : Nat, g.nodes = nd := ⟨g.nodes.toNat, by omega⟩
    obtain ⟨nq, rfl⟩ : ∃ nq : Nat, node = nq := ⟨node.toNat, by omega⟩
    have hTlen := fmtTo_len g (gbV g) (headS 0).1 g.slots.toNat
    have hTs : shortB (fmtTo g (gbV g) (headS 0).1 g.slots.toNat) = true := short_fmt (by have := gbV_small g; omega) (by have := hdS_small 0; omega) _
    obtain ⟨T, hT⟩ : ∃ T, fmtTo g (gbV g) (headS 0).1 g.slots.toNat = T := ⟨_, rfl⟩
    rw [hT] at hTlen hTs
    have hT0 : 0 < T.length := by omega
    have hTn : T.length ≤ 100000 := by omega
    have hTt : (T.length : Int) = totV g := by omega
    have hKN := keys_new (n := nd) (by omega) (by omega)
    have hG0 := good_new (T := T) (n := nd) (by omega) (by omega) hT0 hTn hTs
    obtain ⟨cs, hcs⟩ : ∃ cs, allCells g p = cs := ⟨_, rfl⟩
    rw [hcs] at hcells hcl hcp
    rw [← hTt] at hcells
    refine c_skip ?_
    refine x_then ?_
    refine c_seq ?_
    refine c_region ?_
    refine o_yield rfl rfl rfl (y_val tok rfl) ?_
    refine o_callV (fun x V' => ∃ a n c, x = .tuple #[.slice a n c, I 0] ∧ SlOf V' encS 1 (.slice a n c) T) rfl rfl fnok7 rfl rfl (fun hg E w1 hm => by exact by have := rformat_cV (vw w) g ok hG hd0 w1 hm.leV; rw [hT] at this; exact this) ?_
    rintro y1 W1 hle1 hy1
    obtain ⟨ta, tn, tc, rfl, hT1⟩ := hy1 rfl
    refine o_yield rfl rfl rfl (y_val tok rfl) ?_
    refine o_yield rfl rfl rfl (y_val tok rfl) ?_
    refine o_yield rfl rfl rfl (y_val tok rfl) ?_
    refine o_yield rfl rfl rfl (y_val tok rfl) ?_
    refine o_yield rfl rfl rfl (y_val tok rfl) ?_
    refine o_end [1, 2, 3, 4, 9] rfl ?_
    refine x_then ?_
    refine c_seq ?_
    refine c_region ?_
    refine o_yield rfl rfl rfl (y_val tok rfl) ?_
    refine o_yield rfl rfl rfl (y_val tok rfl) ?_
    refine o_yield rfl rfl rfl (y_val tok rfl) ?_
    refine o_callV (fun x V' => ∃ v1, x = .tuple #[v1, I 0] ∧ DevC V' v1 T (List.replicate nd []) (List.replicate nd 0) 1) rfl rfl fnok8 rfl rfl (fun hg E w1 hm => by exact by have := new06_c W1 nd ta tn tc T w1 hm.leV hT1 (by omega) (by omega) hT0 hTn hTs; rw [← hnd] at this; exact this) ?_
    rintro y2 W2 hle2 hy2
    obtain ⟨v2, rfl, hD2⟩ := hy2 rfl
    obtain ⟨b1, m1, e1, b2, m2, e2, b3, m3, e3, b4, m4, e4, DD2, rfl, _⟩ := id hD2
    refine o_yield rfl rfl rfl (y_val tok rfl) ?_
    refine o_yield rfl rfl rfl (y_val tok rfl) ?_
    refine o_yield rfl rfl rfl (y_val tok rfl) ?_
    refine o_new tok rfl rfl rfl rfl ?_
    refine o_store tok rfl rfl rfl (by first | exact ⟨trivial, trivial⟩ | (repeat' first | exact trivial | exact rfl | apply And.intro); done | simp [onesP, oneP, lk, Value.oneCell']) ?_
    refine o_yield rfl rfl rfl (y_val tok rfl) ?_
    refine o_end [1, 2, 3, 4, 11, 12] rfl ?_
    refine x_then ?_
    refine c_seq ?_
    refine c_region ?_
    refine o_yield rfl rfl rfl (y_val tok rfl) ?_
    refine o_yield rfl rfl rfl (y_val tok rfl) ?_
    refine o_callV (fun x V' => ∃ a n c, x = .tuple #[.slice a n c, I 0] ∧ SlOf V' ActV.cells 4 (.slice a n c) (actsTo cs (hq : Int) (headS 1).1 (actN cs.length))) rfl rfl fnok9 rfl rfl (fun hg E w1 hm => by exact by have := racts_cV W2 g ok pa pm pc p 0 1 w1 hm.leV (hp.mono (hle1.trans hle2)) hpm hmp (by rw [hcs]; exact hcl) hd1 (by omega); rw [hcs, hq0] at this; exact this) ?_
    rintro y3 W3 hle3 hy3
    obtain ⟨la, ln, lc, rfl, hA3⟩ := hy3 rfl
    refine o_yield rfl rfl rfl (y_val tok rfl) ?_
    refine o_yield rfl rfl rfl (y_val tok rfl) ?_
    refine o_yield rfl rfl rfl (y_val tok rfl) ?_
    refine o_yield rfl rfl rfl (y_val tok rfl) ?_
    refine o_yield rfl rfl rfl (y_val tok rfl) ?_
    refine o_end [1, 2, 3, 4, 11, 12, 13, 14] rfl ?_
    refine x_then ?_
    refine c_seq ?_
    refine c_region ?_
    refine o_yield rfl rfl rfl (y_val tok rfl) ?_
    refine o_yield rfl rfl rfl (y_val tok rfl) ?_
    have hr0 : (List.replicate nd ([] : List Cell))[0]? = some [] := by rw [List.getElem?_replicate, if_pos (by omega)]
    have hrq : (List.replicate nd ([] : List Cell))[nq]? = some [] := by rw [List.getElem?_replicate, if_pos (by omega)]
    refine o_callV (fun x V' => ∃ got, DoR T (List.replicate nd []) ((List.replicate nd 0).set 0 (16 * 1 + ((0 : Nat) : Int))) (1 + 1) got x V') rfl rfl fnok10 rfl rfl (fun hg E w1 hm => by exact doReg_c W3 _ T _ _ 1 0 0 _ hm.leV (hD2.mono hle3) hG0 hr0 (by rw [List.getElem?_replicate, if_pos (by omega)])) ?_
    rintro y4 W4 hle4 hy4
    obtain ⟨got4, v4, rfl, hD4⟩ := hy4 rfl
    obtain ⟨p1, i1, j1, p2, i2, j2, p3, i3, j3, p4, i4, j4, DD4, rfl, _⟩ := id hD4
    have hKO2 := hKN.reg (by omega) (node := 0) (by simp; omega)
    obtain ⟨K2, hK2⟩ : ∃ K2 : List Int, (List.replicate nd 0).set 0 (16 * 1 + ((0 : Nat) : Int)) = K2 := ⟨_, rfl⟩
    rw [hK2] at hD4 hKO2
    have hK2l : K2.length = nd := by rw [← hK2]; simp
    have hG2 : DevGood T (List.replicate nd []) K2 (1 + 1) := ⟨hT0, hTn, hTs, hKO2.k0, hKO2.k1, by simp [hK2l], hKO2.n1, hKO2.n2, hG0.cs, hKO2.ks⟩
    obtain ⟨kq, hkq⟩ : ∃ kq, K2[nq]? = some kq := ⟨_, List.getElem?_eq_getElem (by omega)⟩
    refine o_yield rfl rfl rfl (y_val tok rfl) ?_
    refine o_yield rfl rfl rfl (y_val tok rfl) ?_
    refine o_yield rfl rfl rfl (y_val tok rfl) ?_
    refine o_yield rfl rfl rfl (y_val tok rfl) ?_
    refine o_store tok rfl rfl rfl (by first | exact ⟨trivial, trivial⟩ | (repeat' first | exact trivial | exact rfl | apply And.intro); done | simp [onesP, oneP, lk, Value.oneCell']) ?_
    refine o_yield rfl rfl rfl (y_val tok rfl) ?_
    refine o_yield rfl rfl rfl (y_val tok rfl) ?_
    refine o_end [1, 2, 3, 4, 11, 12, 13, 14, 16] rfl ?_
    refine x_then ?_
    refine c_seq ?_
    refine c_region ?_
    refine o_yield rfl rfl rfl (y_val tok rfl) ?_
    refine o_yield rfl rfl rfl (y_val tok rfl) ?_
    refine o_yield rfl rfl rfl (y_val tok rfl) ?_
    refine o_callV (fun x V' => ∃ got, DoR T (List.replicate nd []) (K2.set nq (16 * (1 + 1) + (nq : Int))) (1 + 1 + 1) got x V') rfl rfl fnok10 rfl rfl (fun hg E w1 hm => by exact doReg_c W4 _ T _ K2 (1 + 1) nq kq _ hm.leV hD4 hG2 hrq hkq) ?_
    rintro y5 W5 hle5 hy5
    obtain ⟨got5, v5, rfl, hD5⟩ := hy5 rfl
    obtain ⟨q1, r1, s1, q2, r2, s2, q3, r3, s3, q4, r4, s4, DD5, rfl, _⟩ := id hD5
    have hKO3 := hKO2.reg (by omega) (node := nq) (by omega)
    obtain ⟨K3, hK3⟩ : ∃ K3 : List Int, K2.set nq (16 * (1 + 1) + (nq : Int)) = K3 := ⟨_, rfl⟩
    rw [hK3] at hD5 hKO3
    have hK3l : K3.length = nd := by rw [← hK3, List.length_set]; exact hK2l
    obtain ⟨key0, hkey0, hkey1⟩ : ∃ key0, K3[0]? = some key0 ∧ 1 ≤ key0 := by
      rw [← hK3, ← hK2]
      by_cases hz : nq = 0
      · subst hz
        exact ⟨_, List.getElem?_set_self (by simp; omega), by omega⟩
      · exact ⟨16 * 1 + ((0 : Nat) : Int), by rw [List.getElem?_set_ne (fun e => hz e)]; exact List.getElem?_set_self (by simp; omega), by omega⟩
    obtain ⟨keyq, hkeyq, hkeyq1⟩ : ∃ keyq, K3[nq]? = some keyq ∧ 1 ≤ keyq := by
      rw [← hK3]
      exact ⟨_, List.getElem?_set_self (by omega), by omega⟩
    refine o_yield rfl rfl rfl (y_val tok rfl) ?_
    refine o_yield rfl rfl rfl (y_val tok rfl) ?_
    refine o_yield rfl rfl rfl (y_val tok rfl) ?_
    refine o_yield rfl rfl rfl (y_val tok rfl) ?_
    refine o_store tok rfl rfl rfl (by first | exact ⟨trivial, trivial⟩ | (repeat' first | exact trivial | exact rfl | apply And.intro); done | simp [onesP, oneP, lk, Value.oneCell']) ?_
    refine o_yield rfl rfl rfl (y_val tok rfl) ?_
    refine o_yield rfl rfl rfl (y_val tok rfl) ?_
    refine o_end [1, 2, 3, 4, 11, 12, 13, 14, 16, 18] rfl ?_
    refine x_then ?_
    refine c_seq ?_
    refine c_seq ?_
    refine c_region ?_
    refine o_yield rfl rfl rfl (y_val tok rfl) ?_
    refine o_yield rfl rfl rfl (y_val tok rfl) ?_
    refine o_yield rfl rfl rfl (y_val tok rfl) ?_
    refine o_yield rfl rfl rfl (y_val tok rfl) ?_
    refine o_yield rfl rfl rfl (y_val tok rfl) ?_
    refine o_yield rfl rfl rfl (y_val tok rfl) ?_
    refine o_yield rfl rfl rfl (y_val tok rfl) ?_
    refine o_yield rfl rfl rfl (y_val tok rfl) ?_
    refine o_yield rfl rfl rfl (y_val tok rfl) ?_
    refine o_yield rfl rfl rfl (y_val tok rfl) ?_
    refine o_yield rfl rfl rfl (y_val tok rfl) ?_
    refine o_yield rfl rfl rfl (y_val tok rfl) ?_
    refine o_yield rfl rfl rfl (y_val tok rfl) ?_
    refine o_yield rfl rfl rfl (y_val tok rfl) ?_
    refine o_end [1, 2, 3, 4, 11, 13, 110] rfl ?_
    refine x_then ?_
    refine c_cond rfl (fun h => ?_) (fun h => ?_)
    ·
      exact absurd h (by decide)
    ·
      clear h
      have hDI : DevC W5 (.agg #[.slice q1 r1 s1, .slice q2 r2 s2, .slice q3 r3 s3, I (1 + 1 + 1), .slice q4 r4 s4]) (sS T cs hq (headS 1).1 0) ((List.replicate K3.length []).set 0 (sC cs 0)) K3 (1 + 1 + 1) := by
        have e1 : sS T cs hq (headS 1).1 0 = T := by rw [sS, if_pos (by omega), Nat.zero_sub]; rfl
        have e2 : sC cs 0 = [] := by rw [sC, if_pos (by omega)]; rfl
        have e3 : (List.replicate K3.length ([] : List Cell)).set 0 [] = List.replicate nd [] := by
          rw [hK3l]
          apply List.ext_getElem?
          intro i
          by_cases hi : i = 0
          · subst hi; rw [List.getElem?_set_self (by simp; omega), hr0]
          · rw [List.getElem?_set_ne (fun e => hi e.symm)]
        rw [e1, e2, e3]
        exact hD5
      have hac2 : actN cs.length ≤ 2 * cs.length + 1 := by rw [actN]; split <;> omega
      refine c_skip ?_
      refine x_then ?_
      refine c_seq ?_
      refine c_seq ?_
      refine c_region ?_
      refine o_yield rfl rfl rfl (y_val tok rfl) ?_
      refine o_end [1, 2, 3, 4, 11, 13, 19] rfl ?_
      refine x_then ?_
      refine c_block ?_
      refine c_loopV [1, 2, 3, 4, 11, 13] [0, 1] rfl rfl (σ := Nat × Value × Value × Value × Value × Vw) (fun (k, u1, u2, u3, u5, W) => [(19, .a (.v (I k)))]) (fun (k, u1, u2, u3, u5, W) => [(0, .lit (g.cells.map .v) 23), (1, .lit [.v u1, .v u2, .v u3, .v (I (1 + 1 + 1)), .v u5] 35)]) (fun (k, u1, u2, u3, u5, W) => W) (fun (k, u1, u2, u3, u5, W) => k ≤ actN cs.length ∧ W5.le W ∧ DevC W (.agg #[u1, u2, u3, I (1 + 1 + 1), u5]) (sS T cs hq (headS 1).1 k) ((List.replicate K3.length []).set 0 (sC cs k)) K3 (1 + 1 + 1)) (fun (k, u1, u2, u3, u5, W) => actN cs.length - k) ((0, _, _, _, _, W5)) (⟨by omega, Vw.le.refl _, hDI⟩) (by repeat (first | exact SubF.nil | refine SubF.cons rfl ?_)) (by repeat (first | exact SubO.nil | refine SubO.cons rfl ?_)) rfl (Vw.le.refl _) ?_
      rintro ⟨k, u1, u2, u3, u5, W⟩ ⟨hk, hW, hDW⟩
      dsimp only at hk hW hDW ⊢
      have hAW := hA3.mono (hle4.trans (hle5.trans hW))
      have hAl := actsTo_len cs (hq : Int) (headS 1).1 (actN cs.length)
      refine c_seq ?_
      refine c_seq ?_
      refine c_region ?_
      refine o_yield rfl rfl rfl (y_val tok rfl) ?_
      refine o_yield rfl rfl rfl (y_val tok rfl) ?_
      refine o_yield rfl rfl rfl (y_len tok rfl (fun hg => hAW.sl)) ?_
      refine o_yield rfl rfl rfl (y_val tok rfl) ?_
      refine o_end [1, 2, 3, 4, 11, 13, 19, 114] rfl ?_
      refine x_then ?_
      refine c_cond rfl (fun h => ?_) (fun h => ?_)
      ·
        simp only [Bool.and_eq_true, Bool.or_eq_true, Bool.not_eq_true', Bool.or_eq_false_iff, Bool.and_eq_false_iff, decide_eq_true_eq, decide_eq_false_iff_not, beq_iff_eq, bne_iff_ne, Bool.not_eq_false', beq_eq_false_iff_ne, bne_eq_false_iff_eq, ne_eq, Decidable.not_not, Int.not_lt, Int.not_le] at h
        refine c_skip ?_
        refine x_then ?_
        refine c_seq ?_
        refine c_block ?_
        refine c_heldS [10] mixed rfl (by repeat (first | exact SubO.nil | refine SubO.cons rfl ?_)) (by first | rfl | simp [okCels, allOk_plain]) ?_
        refine t_takeD 0 rfl (by kernel_rfl) rfl rfl rfl (y_val tok rfl) rfl ?_
        refine t_takeD 1 rfl (by kernel_rfl) rfl rfl rfl (y_val tok rfl) rfl ?_
        refine t_takeD 2 rfl (by kernel_rfl) rfl rfl rfl (y_val tok rfl) rfl ?_
        rw [hAl] at *
        have hka : k < actN cs.length := by omega
        have hact := actsTo_at (cs := cs) (hs := (hq : Int)) (hd := (headS 1).1) hka
        have hwk : IntKind.i64.wrap ((k : Int) + 1) = ((k + 1 : Nat) : Int) := wrapI (by omega) (by omega)
        have hdo := fun w1 hV1 => doK_c W (.agg #[u1, u2, u3, I (1 + 1 + 1), u5]) T cs hq (headS 1).1 K3 (1 + 1 + 1) key0 k w1 hV1 hDW hKO3 hkey0 hkey1 hT0 hTn hTs hcells hcp hcl (by omega) (by have := hdS_small 1; omega) hka
        obtain ⟨x, hx⟩ : ∃ x, actAt cs (hq : Int) (headS 1).1 k = x := ⟨_, rfl⟩
        rw [hx] at hdo hact
        have hlt_x := lt_of_at hact
        refine t_takeD 3 rfl (by kernel_rfl) rfl rfl rfl (y_idx tok rfl (fun hg => hAW.sl) (fun hg => ⟨by omega, by omega⟩)) rfl ?_
        refine t_takeD 4 rfl (by kernel_rfl) rfl rfl rfl (y_lel tok (k) 0 (x) rfl (fun hg => hAW) (fun hg => hact) rfl rfl) rfl ?_
        refine t_go ?_
        refine h_one 5 (by kernel_rfl) ?_
        refine h_callV 5 (fun v V' => DoR (sS T cs hq (headS 1).1 (k + 1)) ((List.replicate K3.length []).set 0 (sC cs (k + 1))) K3 (1 + 1 + 1) ByteArray.empty v V') rfl rfl rfl fnok10 rfl rfl (fun hg E w1 hm => by exact hdo _ hm.leV) ?_
        rintro y6 W6 hle6 hy6
        obtain ⟨v6, rfl, hD6⟩ := hy6 rfl
        obtain ⟨x1, x2, x3, x4, x5, x6, x7, x8, x9, x10, x11, x12, DD6, rfl, _⟩ := id hD6
        refine h_one 6 (by kernel_rfl) ?_
        refine h_yield 6 rfl rfl rfl rfl (y_val tok rfl) ?_
        refine h_takeD 7 rfl (by kernel_rfl) rfl rfl rfl rfl (y_val tok rfl) rfl ?_
        refine h_takeR 8 rfl (by kernel_rfl) rfl rfl rfl (fun _ => y_val tok rfl) rfl ?_
        refine h_takeR 9 rfl (by kernel_rfl) rfl rfl rfl (fun _ => y_val tok rfl) rfl ?_
        refine h_one 10 (by kernel_rfl) ?_
        refine h_store 10 tok rfl rfl rfl rfl (by first | exact ⟨trivial, trivial⟩ | (repeat' first | exact trivial | exact rfl | apply And.intro); done | simp [onesP, oneP, lk, Value.oneCell']) (.inl rfl) ?_
        refine h_done [1, 2, 3, 4, 11, 13, 19] (by kernel_rfl) rfl ?_
        refine x_block ?_
        refine x_then ?_
        refine c_region ?_
        refine o_yield rfl rfl rfl (y_val tok rfl) ?_
        refine o_yield rfl rfl rfl (y_val tok rfl) ?_
        refine o_yield rfl rfl rfl (y_val tok rfl) ?_
        refine o_end [1, 2, 3, 4, 11, 13, 19] rfl ?_
        refine x_then ?_
        rw [hwk]
        refine x_round ((k + 1, _, _, _, _, W6)) (⟨by dsimp only; omega, hW.trans hle6, hD6⟩) (by first | omega | (dsimp only; omega)) (by repeat (first | exact SubF.nil | refine SubF.cons rfl ?_)) (by repeat (first | exact SubO.nil | refine SubO.cons rfl ?_)) rfl (Vw.le.refl _)
      ·
        simp only [Bool.and_eq_true, Bool.or_eq_true, Bool.not_eq_true', Bool.or_eq_false_iff, Bool.and_eq_false_iff, decide_eq_true_eq, decide_eq_false_iff_not, beq_iff_eq, bne_iff_ne, Bool.not_eq_false', beq_eq_false_iff_ne, bne_eq_false_iff_eq, ne_eq, Decidable.not_not, Int.not_lt, Int.not_le] at h
        rw [hAl] at h
        have hke : k = actN cs.length := by omega
        clear h
        have hTsm : ∀ y ∈ T, y.size ≤ 256 := by rw [← hT]; exact small_fmt (gbV_small g) (hdS_small 0) _
        have hcsm : ∀ c ∈ cs, c.b.size ≤ 256 := by rw [← hcs]; exact cells_small g p
        have hSFm := sS_small hTsm hcsm (hdS_small 1) hq k
        have hSFl := sS_len T cs hq (headS 1).1 k
        have hGF : DevGood (sS T cs hq (headS 1).1 k) ((List.replicate K3.length []).set 0 (sC cs k)) K3 (1 + 1 + 1) := good_of hKO3 (by omega) (by omega) (sS_short hTs (fun c hc => by have := hcsm c hc; omega) (by have := hdS_small 1; omega) hq k) (by rw [hSFl]; exact sC_ok hcells k) (by have := sC_len cs k; omega)
        have hCq : ((List.replicate K3.length ([] : List Cell)).set 0 (sC cs k))[nq]? = some [] := by
          by_cases hz : nq = 0
          · subst hz
            rw [List.getElem?_set_self (by simp; omega), hke, sC_end]
          · rw [List.getElem?_set_ne (fun e => hz e.symm), List.getElem?_replicate, if_pos (by omega)]
        have hnow : catS (nowL (sS T cs hq (headS 1).1 k) g blk g.per.toNat) = (getB p blk).1 := by
          refine now_put hmp hk0 hk1 (gbV g) (headS 0).1 (fun q h1 h2 => ?_)
          rw [hke, hT, hcs]
          refine sS_end T cs hq (headS 1).1 ?_
          have hhd : headV g ((0 : Nat) : Int) = 1 + 2 * g.nodes + g.log + ((0 : Nat) : Int) * (1 + g.journal) := by rw [headV, if_pos ⟨hG, by omega, by omega⟩]
          have hdd : dataAt g = 1 + 2 * g.nodes + g.log + g.slots * (1 + g.journal) := rfl
          have hml : 1 * (1 + g.journal) ≤ g.slots * (1 + g.journal) := Int.mul_le_mul_of_nonneg_right (by omega) (by omega)
          omega
        obtain ⟨SF, hSF⟩ : ∃ SF, sS T cs hq (headS 1).1 k = SF := ⟨_, rfl⟩
        obtain ⟨CF, hCF⟩ : ∃ CF, (List.replicate K3.length ([] : List Cell)).set 0 (sC cs k) = CF := ⟨_, rfl⟩
        rw [hSF] at hDW hSFm hSFl hGF hnow
        rw [hCF] at hDW hGF hCq
        obtain ⟨per, hper⟩ : ∃ per : Nat, g.per = per := ⟨g.per.toNat, by omega⟩
        have hpn : g.per.toNat = per := by omega
        rw [hpn] at hnow
        have hd00 : 0 ≤ dataV g blk 0 := by have := data_lt (n := blk) (k := 0) hG hk0 hk1 (by omega) (by omega); omega
        have hbg := fun w1 => fbegin_c g ok blk w1
        simp only [if_pos hd00] at hbg
        refine c_exit ?_
        refine x_then_exit ?_
        refine x_then_exit ?_
        refine x_block_hit ?_
        refine x_then ?_
        refine c_seq ?_
        refine c_region ?_
        refine o_yield rfl rfl rfl (y_val tok rfl) ?_
        refine o_yield rfl rfl rfl (y_val tok rfl) ?_
        refine o_call (.a (.v _)) rfl rfl fnok11 rfl rfl rfl (fun hg E w1 hm => by exact hbg _) ?_
        refine o_yield rfl rfl rfl (y_val tok rfl) ?_
        refine o_yield rfl rfl rfl (y_val tok rfl) ?_
        refine o_yield rfl rfl rfl (y_val tok rfl) ?_
        refine o_new tok rfl rfl rfl rfl ?_
        refine o_store tok rfl rfl rfl (by first | exact ⟨trivial, trivial⟩ | (repeat' first | exact trivial | exact rfl | apply And.intro); done | simp [onesP, oneP, lk, Value.oneCell']) ?_
        refine o_yield rfl rfl rfl (y_val tok rfl) ?_
        refine o_end [1, 2, 3, 4, 11, 12, 20] rfl ?_
        refine x_then ?_
        refine c_seq ?_
        refine c_seq ?_
        refine c_region ?_
        refine o_yield rfl rfl rfl (y_val tok rfl) ?_
        refine o_end [1, 2, 3, 4, 11, 12, 20, 21] rfl ?_
        refine x_then ?_
        refine c_block ?_
        refine c_loopV [1, 2, 3, 4, 11, 20] [0, 1, 2] rfl rfl (σ := Nat × Option Addr × Nat × Nat × Vw) (fun (j, fa, fn, fc, X) => [(21, .a (.v (I j))), (12, .a (.v (I 0)))]) (fun (j, fa, fn, fc, X) => [(0, .lit (g.cells.map .v) 23), (1, .lit [.v u1, .v u2, .v u3, .v (I (1 + 1 + 1)), .v u5] 35), (2, .lit [.v (I blk), .v (I j), .v (.slice fa fn fc)] 47)]) (fun (j, fa, fn, fc, X) => X) (fun (j, fa, fn, fc, X) => j ≤ per ∧ W.le X ∧ SlOf X encS 1 (.slice fa fn fc) (nowL SF g blk j)) (fun (j, fa, fn, fc, X) => per - j) ((0, none, 0, 0, W)) (⟨by omega, Vw.le.refl _, slNil _ _ _ _ (fun _ => rfl)⟩) (by repeat (first | exact SubF.nil | refine SubF.cons rfl ?_)) (by repeat (first | exact SubO.nil | refine SubO.cons rfl ?_)) rfl (Vw.le.refl _) ?_
        rintro ⟨j, fa, fn, fc, X⟩ ⟨hj, hWX, hfx⟩
        dsimp only at hj hWX hfx ⊢
        have hnl := nowL_len SF g blk j
        refine c_seq ?_
        refine c_seq ?_
        refine c_region ?_
        refine o_yield rfl rfl rfl (y_val tok rfl) ?_
        refine o_yield rfl rfl rfl (y_val tok rfl) ?_
        refine o_yield rfl rfl rfl (y_val tok rfl) ?_
        refine o_yield rfl rfl rfl (y_val tok rfl) ?_
        refine o_yield rfl rfl rfl (y_val tok rfl) ?_
        refine o_yield rfl rfl rfl (y_val tok rfl) ?_
        refine o_yield rfl rfl rfl (y_val tok rfl) ?_
        refine o_yield rfl rfl rfl (y_val tok rfl) ?_
        refine o_end [1, 2, 3, 4, 11, 12, 20, 21, 140] rfl ?_
        refine x_then ?_
        refine c_cond rfl (fun h => ?_) (fun h => ?_)
        ·
          simp only [Bool.and_eq_true, Bool.or_eq_true, Bool.not_eq_true', Bool.or_eq_false_iff, Bool.and_eq_false_iff, decide_eq_true_eq, decide_eq_false_iff_not, beq_iff_eq, bne_iff_ne, Bool.not_eq_false', beq_eq_false_iff_ne, bne_eq_false_iff_eq, ne_eq, Decidable.not_not, Int.not_lt, Int.not_le] at h
          have hjp : j < per := by simp at h; omega
          clear h
          obtain ⟨q, hqv, hqt2⟩ := data_in hG hd00 (k := j) (by omega)
          obtain ⟨x, hx⟩ : ∃ x, SF[q]? = some x := ⟨_, List.getElem?_eq_getElem (by omega)⟩
          have hxs := hSFm x (List.mem_of_getElem? hx)
          have hgd : SF.getD (dataV g blk (j : Int)).toNat ByteArray.empty = x := by rw [hqv]; simp [List.getD, hx]
          have hsucc := nowL_succ SF g blk j
          rw [hgd] at hsucc
          have hwant : fwantV ⟨blk, j, ⟨.slice fa fn fc, nowL SF g blk j⟩⟩ g = ⟨1, (q : Int), ByteArray.empty, 0⟩ := by
            have hnx : nextV ⟨blk, j, ⟨.slice fa fn fc, nowL SF g blk j⟩⟩ g = (q : Int) := by rw [nextV, if_neg (by dsimp only; omega)]; exact hqv
            rw [fwantV, hnx, if_pos (by omega)]
          have hwj : IntKind.i64.wrap ((j : Int) + 1) = ((j + 1 : Nat) : Int) := wrapI (by omega) (by omega)
          have hfw := fun w1 => fwant_c ⟨blk, j, ⟨.slice fa fn fc, nowL SF g blk j⟩⟩ g ok _ _ _ rfl w1
          rw [hwant] at hfw
          refine c_skip ?_
          refine x_then ?_
          refine c_seq ?_
          refine c_block ?_
          refine c_seq ?_
          refine c_region ?_
          refine o_yield rfl rfl rfl (y_val tok rfl) ?_
          refine o_yield rfl rfl rfl (y_val tok rfl) ?_
          refine o_call (.a (.v _)) rfl rfl fnok12 rfl rfl rfl (fun hg E w1 hm => by exact hfw _) ?_
          refine o_new tok rfl rfl rfl rfl ?_
          refine o_store tok rfl rfl rfl (by first | exact ⟨trivial, trivial⟩ | (repeat' first | exact trivial | exact rfl | apply And.intro); done | simp [onesP, oneP, lk, Value.oneCell']) ?_
          refine o_end [1, 2, 3, 4, 11, 20, 21, 22] rfl ?_
          refine x_then ?_
          refine c_seq ?_
          refine c_seq ?_
          refine c_region ?_
          refine o_yield rfl rfl rfl (y_val tok rfl) ?_
          refine o_yield rfl rfl rfl (y_val tok rfl) ?_
          refine o_yield rfl rfl rfl (y_val tok rfl) ?_
          refine o_yield rfl rfl rfl (y_val tok rfl) ?_
          refine o_yield rfl rfl rfl (y_val tok rfl) ?_
          refine o_yield rfl rfl rfl (y_val tok rfl) ?_
          refine o_call (.a (.v _)) rfl rfl fnok13 rfl rfl rfl (fun hg E w1 hm => by exact fover_c ⟨blk, j, ⟨.slice fa fn fc, nowL SF g blk j⟩⟩ g _ _ _ rfl _) ?_
          refine o_yield rfl rfl rfl (y_val tok rfl) ?_
          refine o_end [1, 2, 3, 4, 11, 20, 21, 22, 153] rfl ?_
          refine x_then ?_
          refine c_cond rfl (fun h => ?_) (fun h => ?_)
          ·
            exfalso
            simp at h
            omega
          ·
            refine c_skip ?_
            refine x_then ?_
            refine c_seq ?_
            refine c_region ?_
            refine o_yield rfl rfl rfl (y_val tok rfl) ?_
            refine o_yield rfl rfl rfl (y_val tok rfl) ?_
            refine o_yield rfl rfl rfl (y_val tok rfl) ?_
            refine o_callV (fun v V' => DoR SF CF K3 (1 + 1 + 1) x v V') rfl rfl fnok10 rfl rfl (fun hg E w1 hm => by exact doRead_c X _ SF CF K3 (1 + 1 + 1) nq [] keyq q x _ hm.leV (hDW.mono hWX) hGF hCq hkeyq hkeyq1 hx (by simp)) ?_
            rintro y7 W7 hle7 hy7
            obtain ⟨v7, rfl, hD7⟩ := hy7 rfl
            obtain ⟨x1, x2, x3, x4, x5, x6, x7, x8, x9, x10, x11, x12, DD7, rfl, _⟩ := id hD7
            refine o_yield rfl rfl rfl (y_val tok rfl) ?_
            refine o_yield rfl rfl rfl (y_val tok rfl) ?_
            refine o_yield rfl rfl rfl (y_val tok rfl) ?_
            refine o_yield rfl rfl rfl (y_val tok rfl) ?_
            refine o_new tok rfl rfl rfl rfl ?_
            refine o_store tok rfl rfl rfl (by first | exact ⟨trivial, trivial⟩ | (repeat' first | exact trivial | exact rfl | apply And.intro); done | simp [onesP, oneP, lk, Value.oneCell']) ?_
            refine o_yield rfl rfl rfl (y_val tok rfl) ?_
            refine o_yield rfl rfl rfl (y_val tok rfl) ?_
            refine o_end [1, 2, 3, 4, 11, 20, 21, 24, 25] rfl ?_
            refine x_then ?_
            refine c_seq ?_
            refine c_seq ?_
            refine c_region ?_
            refine o_yield rfl rfl rfl (y_val tok rfl) ?_
            refine o_yield rfl rfl rfl (y_val tok rfl) ?_
            refine o_end [1, 2, 3, 4, 11, 20, 21, 24, 163] rfl ?_
            refine x_then ?_
            refine c_cond rfl (fun h => ?_) (fun h => ?_)
            ·
              exact absurd h (by decide)
            ·
              refine c_skip ?_
              refine x_then ?_
              refine c_region ?_
              refine o_yield rfl rfl rfl (y_val tok rfl) ?_
              refine o_yield rfl rfl rfl (y_val tok rfl) ?_
              refine o_yield rfl rfl rfl (y_val tok rfl) ?_
              refine o_callV (fun z V' => ∃ a n c, z = .tuple #[.agg #[I blk, I ((j + 1 : Nat) : Int), .slice a n c], I 0] ∧ SlOf V' encS 1 (.slice a n c) (nowL SF g blk (j + 1))) rfl rfl fnok14 rfl rfl (fun hg E w1 hm => by exact by have := takeOk_c W7 g blk j _ (nowL SF g blk j) x (by omega) (by omega) hxs (by omega) w1 hm.leV (hfx.mono hle7); rw [← hsucc] at this; exact this) ?_
              rintro z8 W8 hle8 hz8
              obtain ⟨a8, n8, c8, rfl, hs8⟩ := hz8 rfl
              refine o_yield rfl rfl rfl (y_val tok rfl) ?_
              refine o_yield rfl rfl rfl (y_val tok rfl) ?_
              refine o_yield rfl rfl rfl (y_val tok rfl) ?_
              refine o_store tok rfl rfl rfl (by first | exact ⟨trivial, trivial⟩ | (repeat' first | exact trivial | exact rfl | apply And.intro); done | simp [onesP, oneP, lk, Value.oneCell']) ?_
              refine o_yield rfl rfl rfl (y_val tok rfl) ?_
              refine o_end [1, 2, 3, 4, 11, 12, 20, 21] rfl ?_
              refine x_block ?_
              refine x_then ?_
              refine c_region ?_
              refine o_yield rfl rfl rfl (y_val tok rfl) ?_
              refine o_yield rfl rfl rfl (y_val tok rfl) ?_
              refine o_yield rfl rfl rfl (y_val tok rfl) ?_
              refine o_end [1, 2, 3, 4, 11, 12, 20, 21] rfl ?_
              refine x_then ?_
              rw [hwj]
              refine x_round ((j + 1, a8, n8, c8, W8)) (⟨by dsimp only; omega, hWX.trans (hle7.trans hle8), hs8⟩) (by first | omega | (dsimp only; omega)) (by repeat (first | exact SubF.nil | refine SubF.cons rfl ?_)) (by repeat (first | exact SubO.nil | refine SubO.cons rfl ?_)) rfl (Vw.le.refl _)
        ·
          simp only [Bool.and_eq_true, Bool.or_eq_true, Bool.not_eq_true', Bool.or_eq_false_iff, Bool.and_eq_false_iff, decide_eq_true_eq, decide_eq_false_iff_not, beq_iff_eq, bne_iff_ne, Bool.not_eq_false', beq_eq_false_iff_ne, bne_eq_false_iff_eq, ne_eq, Decidable.not_not, Int.not_lt, Int.not_le] at h
          have hjp : j = per := by simp at h; omega
          clear h
          subst hjp
          have hall : (nowL SF g blk j).all (fun x => decide (x.size ≤ 256)) = true := by
            rw [List.all_eq_true]
            intro x hx
            rw [nowL, List.mem_map] at hx
            obtain ⟨i, hi, rfl⟩ := hx
            rw [List.mem_range] at hi
            obtain ⟨q, hqv, hqt2⟩ := data_in hG hd00 (k := i) (by omega)
            obtain ⟨y, hy⟩ : ∃ y, SF[q]? = some y := ⟨_, List.getElem?_eq_getElem (by omega)⟩
            have := hSFm y (List.mem_of_getElem? hy)
            rw [hqv]
            simp [List.getD, hy, this]
          have hcat := catL_le _ hall
          rw [hnl] at hcat
          obtain ⟨z1, z2, z3, z4, z5, z6, z7, z8, z9, z10, z11, z12, DDF, hagg, hzS, hzD, hzK, hzF, hzC, hzc⟩ := hDW.mono hWX
          simp only [Value.agg.injEq, Array.mk.injEq, List.cons.injEq, and_true, true_and] at hagg
          obtain ⟨rfl, rfl, rfl, rfl⟩ := hagg
          have hDFl : DDF.length = K3.length := by rw [← hGF.ck, ← hzC, List.length_map]
          have hdin : DevIn X ⟨⟨.slice z1 z2 z3, SF⟩, ⟨.slice z4 z5 z6, DDF⟩, ⟨.slice z7 z8 z9, K3⟩, 1 + 1 + 1, ⟨.slice z10 z11 z12, []⟩⟩ := ⟨hzS, by simp only [maxLen]; omega, hzD, by simp only [maxLen]; omega, fun c hc => ⟨hzc c hc, by have := (hGF.cs c.l (by rw [← hzC]; exact List.mem_map_of_mem hc)).2; simp only [maxLen]; omega⟩, hzK, by simp only [maxLen]; omega, hzF, by simp⟩
          have hchk := hGF.check (.slice z1 z2 z3) (.slice z4 z5 z6) (.slice z7 z8 z9) (.slice z10 z11 z12) hzC
          have hnv : nowV g ⟨⟨.slice z1 z2 z3, SF⟩, ⟨.slice z4 z5 z6, DDF⟩, ⟨.slice z7 z8 z9, K3⟩, 1 + 1 + 1, ⟨.slice z10 z11 z12, []⟩⟩ blk = ((getB p blk).1, 0) := by
            have hnb : nowB g ⟨⟨.slice z1 z2 z3, SF⟩, ⟨.slice z4 z5 z6, DDF⟩, ⟨.slice z7 z8 z9, K3⟩, 1 + 1 + 1, ⟨.slice z10 z11 z12, []⟩⟩ blk = true := by
              rw [nowB, hchk, hG, decide_eq_true ⟨by dsimp only; omega, hd00⟩]; rfl
            rw [nowV, if_pos hnb]
            dsimp only
            rw [hpn, if_pos hall, hnow]
          have hfn := fun w1 hV1 => fnow_c X g ok ⟨⟨.slice z1 z2 z3, SF⟩, ⟨.slice z4 z5 z6, DDF⟩, ⟨.slice z7 z8 z9, K3⟩, 1 + 1 + 1, ⟨.slice z10 z11 z12, []⟩⟩ blk w1 hV1 hdin
          rw [hnv] at hfn
          have hft := fun w1 hV1 => ftext_c X ⟨blk, j, ⟨.slice fa fn fc, nowL SF g blk j⟩⟩ w1 hV1 hfx (by dsimp only; omega) (by dsimp only; omega)
          dsimp only at hft
          rw [hnow] at hft
          have hwant0 : fwantV ⟨blk, j, ⟨.slice fa fn fc, nowL SF g blk j⟩⟩ g = act0 := by
            have hnx : nextV ⟨blk, j, ⟨.slice fa fn fc, nowL SF g blk j⟩⟩ g = -1 := by rw [nextV, if_pos (by dsimp only; omega)]
            rw [fwantV, hnx, if_neg (by omega)]
          have hfw := fun w1 => fwant_c ⟨blk, j, ⟨.slice fa fn fc, nowL SF g blk j⟩⟩ g ok _ _ _ rfl w1
          rw [hwant0] at hfw
          have hleX : (vw w).le X := (hle1.trans (hle2.trans (hle3.trans (hle4.trans hle5)))).trans (hW.trans hWX)
          refine c_exit ?_
          refine x_then_exit ?_
          refine x_then_exit ?_
          refine x_block_hit ?_
          refine x_then ?_
          refine c_seq ?_
          refine c_region ?_
          refine o_yield rfl rfl rfl (y_val tok rfl) ?_
          refine o_yield rfl rfl rfl (y_val tok rfl) ?_
          refine o_call (.a (.v _)) rfl rfl fnok15 rfl rfl rfl (fun hg E w1 hm => by exact refGet18_c X _ p blk _ hm.leV (hp.mono hleX) (by omega)) ?_
          refine o_yield rfl rfl rfl (y_val tok rfl) ?_
          refine o_yield rfl rfl rfl (y_val tok rfl) ?_
          refine o_yield rfl rfl rfl (y_val tok rfl) ?_
          refine o_yield rfl rfl rfl (y_val tok rfl) ?_
          refine o_yield rfl rfl rfl (y_val tok rfl) ?_
          refine o_end [3, 4, 11, 12, 20, 26] rfl ?_
          refine x_then ?_
          refine c_seq ?_
          refine c_region ?_
          refine o_yield rfl rfl rfl (y_val tok rfl) ?_
          refine o_yield rfl rfl rfl (y_val tok rfl) ?_
          refine o_yield rfl rfl rfl (y_val tok rfl) ?_
          refine o_call (.a (.v _)) rfl rfl fnok16 rfl rfl rfl (fun hg E w1 hm => by exact hfn _ hm.leV) ?_
          refine o_yield rfl rfl rfl (y_val tok rfl) ?_
          refine o_yield rfl rfl rfl (y_val tok rfl) ?_
          refine o_yield rfl rfl rfl (y_val tok rfl) ?_
          refine o_yield rfl rfl rfl (y_val tok rfl) ?_
          refine o_yield rfl rfl rfl (y_val tok rfl) ?_
          refine o_end [4, 12, 20, 26, 28, 29] rfl ?_
          refine x_then ?_
          refine c_seq ?_
          refine c_region ?_
          refine o_yield rfl rfl rfl (y_val tok rfl) ?_
          refine o_yield rfl rfl rfl (y_val tok rfl) ?_
          refine o_yield rfl rfl rfl (y_val tok rfl) ?_
          refine o_yield rfl rfl rfl (y_val tok rfl) ?_
          refine o_yield rfl rfl rfl (y_val tok rfl) ?_
          refine o_call (.a (.v _)) rfl rfl fnok13 rfl rfl rfl (fun hg E w1 hm => by exact fover_c ⟨blk, j, ⟨.slice fa fn fc, nowL SF g blk j⟩⟩ g _ _ _ rfl _) ?_
          refine o_yield rfl rfl rfl (y_val tok rfl) ?_
          refine o_yield rfl rfl rfl (y_val tok rfl) ?_
          refine o_yield rfl rfl rfl (y_val tok rfl) ?_
          refine o_yield rfl rfl rfl (y_val tok rfl) ?_
          refine o_call (.a (.v _)) rfl rfl fnok12 rfl rfl rfl (fun hg E w1 hm => by exact hfw _) ?_
          refine o_yield rfl rfl rfl (y_val tok rfl) ?_
          refine o_yield rfl rfl rfl (y_val tok rfl) ?_
          refine o_yield rfl rfl rfl (y_val tok rfl) ?_
          refine o_yield rfl rfl rfl (y_val tok rfl) ?_
          refine o_yield rfl rfl rfl (y_val tok rfl) ?_
          refine o_call (.a (.v _)) rfl rfl fnok17 rfl rfl rfl (fun hg E w1 hm => by exact hft _ hm.leV) ?_
          refine o_yield rfl rfl rfl (y_val tok rfl) ?_
          refine o_yield rfl rfl rfl (y_val tok rfl) ?_
          refine o_yield rfl rfl rfl (y_val tok rfl) ?_
          refine o_yield rfl rfl rfl (y_val tok rfl) ?_
          refine o_yield rfl rfl rfl (y_val tok rfl) ?_
          refine o_yield rfl rfl rfl (y_val tok rfl) ?_
          refine o_yield rfl rfl rfl (y_val tok rfl) ?_
          refine o_yield rfl rfl rfl (y_val tok rfl) ?_
          refine o_yield rfl rfl rfl (y_val tok rfl) ?_
          refine o_yield rfl rfl rfl (y_val tok rfl) ?_
          refine o_yield rfl rfl rfl (y_val tok rfl) ?_
          refine o_yield rfl rfl rfl (y_val tok rfl) ?_
          refine o_yield rfl rfl rfl (y_val tok rfl) ?_
          refine o_call (.a (.v _)) rfl rfl fnok6 rfl rfl rfl (fun hg E w1 hm => by exact wakes22_c _) ?_
          refine o_yield rfl rfl rfl (y_val tok rfl) ?_
          refine o_yield rfl rfl rfl (y_val tok rfl) ?_
          refine o_end [8] rfl ?_
          refine x_then ?_
          refine c_ret ?_
          refine b_ret tok rfl ?_
          intro E w' hm _
          refine ⟨?_, hm.below (hleX)⟩
          have k1 : ((getB p blk).1.toList == (getB p blk).1.toList) = true := beq_self_eq_true _
          have k2 : decide (g.per ≤ (j : Int)) = true := decide_eq_true (by omega)
          dsimp only
          rw [k1, k2]
          rfl
end Go.Proofs.Ytipmgnhbcaniiaa
