import Derived.Test.YtiapfhcimekdkaaMRTb
import Derived.Test.YtiapfhcimekdkaaEng37
/- Tables: whether one may be, of those that may. -/
set_option linter.unusedVariables false
set_option linter.unusedSimpArgs false
set_option maxRecDepth 100000
namespace Go.Proofs.Ytiapfhcimekdkaa
open Go Go.Eng Go.RowKit

theorem bMembers_c (V : Vw) (b : Nat) (sv hv qv : Value) (g : Geo) (S : List Slot) (w : World) (hV : V.le (vw w)) (hb : V.get b = some (.cells (bkC sv hv qv g).toArray 91 (0, 0))) (hs0 : SlOf V Slot.cells 2 sv S) (hn : S.length ≤ 1000) (hok : SlotsOk S) (hlen : (S.length : Int) = g.slots) :
    Calls Try.prog 66 #[.pointer (some ⟨b, 0, none⟩)] w fun e w' => e = .returned (.bool true) ∧ Below w.heap.size w w' := by
  obtain ⟨a, n, c, rfl⟩ := sl_shape hs0.sl
  have hs1 := hs0.mono hV
  rw [slotsOk_iff] at hok
  refine enter (E := E0) (O := []) (nl := 0) (V := vw w) [.a (.v (.pointer (some ⟨b, 0, none⟩)))] Try.func66 rfl rfl (mem0 E0 0 w) rfl rfl ?_
  refine c_seq ?_
  refine c_region ?_
  refine o_yield rfl rfl rfl (y_val tok rfl) ?_
  refine o_end [0] rfl ?_
  refine x_then ?_
  refine c_seq ?_
  refine c_region ?_
  refine o_step rfl rfl rfl rfl rfl (s_mkMapV rfl) (fun mb hmb => ?_)
  have hle1 : ∀ es, (vw w).le ((vw w).put mb (mvOb es)) := fun es => Vw.put_le (Vw.le.refl _) hmb
  have hbk : ∀ es, ((vw w).put mb (mvOb es)).get b = some (.cells (bkC (.slice a n c) hv qv g).toArray 91 (0, 0)) := fun es => (hle1 es).get _ _ (hV.get _ _ hb)
  have hs : ∀ es, SlOf ((vw w).put mb (mvOb es)) Slot.cells 2 (.slice a n c) S := fun es => hs1.mono (hle1 es)
  refine o_yield rfl rfl rfl (y_val tok rfl) ?_
  refine o_end [0, 3] rfl ?_
  refine x_then ?_
  refine c_seq ?_
  refine c_seq ?_
  refine c_region ?_
  refine o_yield rfl rfl rfl (y_val tok rfl) ?_
  refine o_yield rfl rfl rfl (y_val tok rfl) ?_
  refine o_yield rfl rfl rfl (y_val tok rfl) ?_
  refine o_yield rfl rfl rfl (y_val tok rfl) ?_
  refine o_yield rfl rfl rfl (y_ldp (cs := bkC (.slice a n c) hv qv g) tok rfl (fun hg => hbk _) rfl) ?_
  refine o_yield rfl rfl rfl (y_len tok rfl (fun hg => (hs _).sl)) ?_
  refine o_yield rfl rfl rfl (y_val tok rfl) ?_
  refine o_end [0, 3, 11, 12, 13] rfl ?_
  refine x_then ?_
  refine c_block ?_
  refine c_loopV [0, 3, 11, 12] [] rfl rfl (σ := Nat × List (Int × Value)) (fun (k, es) => [(13, .a (.v (I k)))]) (fun (k, es) => []) (fun (k, es) => (vw w).put mb (mvOb es)) (fun (k, es) => k ≤ S.length ∧ ∀ key, (∀ (j : Nat) (y : Slot), j < k → S[j]? = some y → y.key ≠ key) → mvGet es key = none) (fun (k, es) => S.length - k) ((0, [])) (⟨by omega, fun key _ => rfl⟩) (by repeat (first | exact SubF.nil | refine SubF.cons rfl ?_)) (by repeat (first | exact SubO.nil | refine SubO.cons rfl ?_)) rfl (Vw.le.refl _) ?_
  rintro ⟨k, es⟩ ⟨hk, hes⟩
  dsimp only at hk hes ⊢
  refine c_seq ?_
  refine c_region ?_
  refine o_yield rfl rfl rfl (y_val tok rfl) ?_
  refine o_end [0, 3, 11, 12, 13, 14] rfl ?_
  refine x_then ?_
  refine c_seq ?_
  refine c_cond rfl (fun h => ?_) (fun h => ?_)
  ·
    simp only [Bool.and_eq_true, Bool.or_eq_true, Bool.not_eq_true', Bool.or_eq_false_iff, Bool.and_eq_false_iff, decide_eq_true_eq, decide_eq_false_iff_not, beq_iff_eq, bne_iff_ne, Bool.not_eq_false', beq_eq_false_iff_ne, bne_eq_false_iff_eq, ne_eq, Decidable.not_not, Int.not_lt, Int.not_le] at h
    refine c_skip ?_
    refine x_then ?_
    refine c_seq ?_
    refine c_block ?_
    refine c_seq ?_
    refine c_region ?_
    have hes0 := hs es
    obtain ⟨x, h_x⟩ := hes0.at (k := k) (by omega)
    have hlt_x := lt_of_at h_x
    refine o_yield rfl rfl rfl (y_idx tok rfl (fun hg => hes0.sl) (fun hg => ⟨by omega, by omega⟩)) ?_
    refine o_yield rfl rfl rfl (y_lel tok (k) 0 (x) rfl (fun hg => hes0) (fun hg => h_x) rfl rfl) ?_
    refine o_new tok rfl rfl rfl rfl ?_
    refine o_store tok rfl rfl rfl (by first | exact ⟨trivial, trivial⟩ | (repeat' first | exact trivial | exact rfl | apply And.intro); done | simp [onesP, oneP, lk, Value.oneCell']) ?_
    refine o_end [0, 3, 5, 11, 12, 13] rfl ?_
    refine x_then ?_
    refine c_seq ?_
    refine c_seq ?_
    refine c_region ?_
    refine o_yield rfl rfl rfl (y_val tok rfl) ?_
    refine o_yield rfl rfl rfl (y_val tok rfl) ?_
    refine o_yield rfl rfl rfl (y_val tok rfl) ?_
    refine o_yield rfl rfl rfl (y_val tok rfl) ?_
    refine o_yield rfl rfl rfl (y_val tok rfl) ?_
    refine o_yield rfl rfl rfl (y_val tok rfl) ?_
    refine o_yield rfl rfl rfl (y_val tok rfl) ?_
    refine o_yield rfl rfl rfl (y_val tok rfl) ?_
    refine o_yield rfl rfl rfl (y_val tok rfl) ?_
    refine o_yield rfl rfl rfl (y_val tok rfl) ?_
    refine o_yield rfl rfl rfl (y_val tok rfl) ?_
    refine o_yield rfl rfl rfl (y_val tok rfl) ?_
    refine o_yield rfl rfl rfl (y_val tok rfl) ?_
    refine o_yield rfl rfl rfl (y_val tok rfl) ?_
    refine o_yield rfl rfl rfl (y_val tok rfl) ?_
    refine o_yield rfl rfl rfl (y_val tok rfl) ?_
    refine o_yield rfl rfl rfl (y_val tok rfl) ?_
    refine o_yield rfl rfl rfl (y_val tok rfl) ?_
    refine o_yield rfl rfl rfl (y_val tok rfl) ?_
    refine o_yield rfl rfl rfl (y_val tok rfl) ?_
    refine o_yield rfl rfl rfl (y_val tok rfl) ?_
    refine o_yield rfl rfl rfl (y_val tok rfl) ?_
    refine o_yield rfl rfl rfl (y_val tok rfl) ?_
    refine o_yield rfl rfl rfl (y_val tok rfl) ?_
    refine o_yield rfl rfl rfl (y_val tok rfl) ?_
    refine o_yield rfl rfl rfl (y_val tok rfl) ?_
    have hgood := (hok k x h_x).1
    have hnot : x.key ≠ 0 → mvGet es x.key = none := fun h0 => hes x.key fun j y hj hy => (hok k x h_x).2 j y hj hy h0
    refine o_yield rfl rfl rfl (y_lkpV es (.bool false) rfl Try.underlying135 Try.underlying3 (fun w => Try.zeroValue4 w) (fun hg => Vw.put_get _ _ _) (fun hg => (Decidable.em (x.key = 0)).elim (fun h0 => by simp [h0] at hg) (fun h0 => by rw [hnot h0]; rfl))) ?_
    refine o_yield rfl rfl rfl (y_val tok rfl) ?_
    refine o_yield rfl rfl rfl (y_val tok rfl) ?_
    refine o_end [0, 3, 5, 11, 12, 13, 45] rfl ?_
    refine x_then ?_
    refine c_cond rfl (fun h => ?_) (fun h => ?_)
    ·
      refine c_seq ?_
      refine c_region ?_
      refine o_yield rfl rfl rfl (y_val tok rfl) ?_
      refine o_end [2] rfl ?_
      refine x_then ?_
      refine c_ret ?_
      refine x_then_ret ?_
      refine x_block_ret ?_
      refine x_then_ret ?_
      refine x_then_ret ?_
      refine x_block_ret ?_
      refine x_then_ret ?_
      refine b_ret tok rfl ?_
      exfalso
      obtain ⟨g1, g2, g3⟩ := hgood
      simp only [Bool.or_eq_true, Bool.and_eq_true, decide_eq_true_eq, beq_iff_eq, Bool.not_eq_true', beq_eq_false_iff_ne, bne_iff_ne, ne_eq, Bool.and_false, Bool.or_false] at h
      omega
    ·
      refine c_skip ?_
      refine x_then ?_
      refine c_region ?_
      refine o_yield rfl rfl rfl (y_val tok rfl) ?_
      refine o_yield rfl rfl rfl (y_val tok rfl) ?_
      refine o_yield rfl rfl rfl (y_val tok rfl) ?_
      refine o_stepN rfl rfl rfl rfl (s_mapPut es rfl rfl Try.underlying135 Try.underlying3 (Vw.put_get _ _ _)) (fun _ _ => ?_)
      refine o_end [0, 3, 11, 12, 13] rfl ?_
      refine x_block ?_
      refine x_then ?_
      refine c_region ?_
      refine o_yield rfl rfl rfl (y_val tok rfl) ?_
      refine o_yield rfl rfl rfl (y_val tok rfl) ?_
      refine o_end [0, 3, 11, 12, 13] rfl ?_
      refine x_then ?_
      have hes2 : ∀ key, (∀ (j : Nat) (y : Slot), j < k + 1 → S[j]? = some y → y.key ≠ key) → mvGet (mvPut es x.key (.bool true)) key = none := by
        intro key hk2
        rw [mvGet_put, if_neg (hk2 k x (by omega) h_x)]
        exact hes key fun j y hj hy => hk2 j y (by omega) hy
      rw [wrapI (by omega) (by omega)]
      refine x_round ((k + 1, mvPut es x.key (.bool true))) (⟨by dsimp only; omega, hes2⟩) (by first | omega | (dsimp only; omega)) (by repeat (first | exact SubF.nil | refine SubF.cons rfl ?_)) (by repeat (first | exact SubO.nil | refine SubO.cons rfl ?_)) rfl (by rw [Vw.put_put]; exact Vw.le.refl _)
  ·
    simp only [Bool.and_eq_true, Bool.or_eq_true, Bool.not_eq_true', Bool.or_eq_false_iff, Bool.and_eq_false_iff, decide_eq_true_eq, decide_eq_false_iff_not, beq_iff_eq, bne_iff_ne, Bool.not_eq_false', beq_eq_false_iff_ne, bne_eq_false_iff_eq, ne_eq, Decidable.not_not, Int.not_lt, Int.not_le] at h
    refine c_exit ?_
    refine x_then_exit ?_
    refine x_then_exit ?_
    refine x_block_hit ?_
    refine x_then ?_
    refine c_seq ?_
    refine c_draw mixed (by kernel_rfl) ?_
    refine d_yield rfl rfl rfl (y_val tok rfl) rfl ?_
    refine d_yield rfl rfl rfl (y_val tok rfl) rfl ?_
    refine d_yield rfl rfl rfl (y_val tok rfl) rfl ?_
    refine d_yield rfl rfl rfl (y_val tok rfl) rfl ?_
    have hkl : k = S.length := by omega
    refine d_yield rfl rfl rfl (y_ldp (cs := bkC (.slice a n c) hv qv g) tok rfl (fun hg => hbk _) rfl) rfl ?_
    refine d_yield rfl rfl rfl (y_len tok rfl (fun hg => (hs _).sl)) rfl ?_
    refine d_yield rfl rfl rfl (y_val tok rfl) rfl ?_
    refine d_yield rfl rfl rfl (y_val tok rfl) rfl ?_
    refine d_yield rfl rfl rfl (y_val tok rfl) rfl ?_
    refine d_yield rfl rfl rfl (y_val tok rfl) rfl ?_
    refine d_yield rfl rfl rfl (y_ldp (cs := bkC (.slice a n c) hv qv g) tok rfl (fun hg => hbk _) rfl) rfl ?_
    refine d_yield rfl rfl rfl (y_val tok rfl) rfl ?_
    refine d_yield rfl rfl rfl (y_val tok rfl) rfl ?_
    refine d_end [2] rfl ?_
    refine x_then ?_
    refine c_ret ?_
    refine b_ret tok rfl ?_
    intro E w' hm _
    refine ⟨?_, hm.below (hle1 _)⟩
    rw [hlen, beq_self_eq_true]; rfl

theorem tMay_c (V : Vw) (g : Geo) (tv : Value) (t : Tb) (w : World) (ht : t.Fit) (hV : V.le (vw w)) (h : TbIs V tv t) (hok : TbOk g.slots g.blocks t) :
    Calls Try.prog 17 #[g.val, tv] w fun e w' => e = .returned (.bool true) ∧ Below w.heap.size w w' := by
  have h0 := h
  obtain ⟨a, n, c, a2, n2, c2, a3, n3, c3, rfl, h1, h2, h3⟩ := h
  have hss := ht.s
  have hh := ht.h
  have hq := ht.q
  have hlim : lim = 4398046511104 := rfl
  have hQ := h3.mono hV
  have hal : (t.H ++ t.Q).length ≤ 200000 := by rw [List.length_append]; omega
  have hpi := (pre_iff.1 hok.toTbPre).2
  refine enter (E := E0) (O := []) (nl := 0) (V := vw w) [.a (.v g.val), .a (.v (.agg #[.slice a n c, .slice a2 n2 c2, .slice a3 n3 c3]))] Try.func17 rfl rfl (mem0 E0 0 w) rfl rfl ?_
  refine c_seq ?_
  refine c_region ?_
  refine o_new tok rfl rfl rfl rfl ?_
  refine o_new tok rfl rfl rfl rfl ?_
  refine o_yield rfl rfl rfl (y_val tok rfl) ?_
  refine o_end [2, 3] rfl ?_
  refine x_then ?_
  refine c_seq ?_
  refine c_region ?_
  refine o_yield rfl rfl rfl (y_val tok rfl) ?_
  refine o_yield rfl rfl rfl (y_val tok rfl) ?_
  refine o_step rfl rfl rfl rfl rfl (s_bookNew (e0 := 91) (gs := g.cells) (R1 := slR t.S) (R2 := hoR t.H) (R3 := hoR t.Q) rfl fnok56 (fun E w1 hm => open_c V g _ t ht w1 (hV.trans hm.leV) h0)) (fun _ _ => ?_)
  refine o_yield rfl rfl rfl (y_val tok rfl) ?_
  refine o_end [2, 3, 5] rfl ?_
  refine x_then ?_
  refine c_seq ?_
  refine c_heldR mixed rfl (by repeat (first | exact SubO.nil | refine SubO.cons rfl ?_)) (by first | rfl | simp [okCels, allOk_plain]) ?_
  refine t_take 0 rfl (by kernel_rfl) rfl rfl rfl (y_val tok rfl) rfl ?_
  refine t_take 1 rfl (by kernel_rfl) rfl rfl rfl (y_val tok rfl) rfl ?_
  refine t_take 2 rfl (by kernel_rfl) rfl rfl rfl (y_val tok rfl) rfl ?_
  refine t_take 3 rfl (by kernel_rfl) rfl rfl rfl (y_val tok rfl) rfl ?_
  refine t_take 4 rfl (by kernel_rfl) rfl rfl rfl (y_val tok rfl) rfl ?_
  refine t_take 5 rfl (by kernel_rfl) rfl rfl rfl (y_val tok rfl) rfl ?_
  refine t_take 6 rfl (by kernel_rfl) rfl rfl rfl (y_val tok rfl) rfl ?_
  refine t_take 7 rfl (by kernel_rfl) rfl rfl rfl (y_val tok rfl) rfl ?_
  refine t_take 8 rfl (by kernel_rfl) rfl rfl rfl (y_val tok rfl) rfl ?_
  refine t_take 9 rfl (by kernel_rfl) rfl rfl rfl (y_val tok rfl) rfl ?_
  refine t_go ?_
  refine h_one 10 (by kernel_rfl) ?_
  refine h_to 10 rfl rfl rfl rfl rfl rfl (s_bsA tok rfl) (.inr fun x hx => ⟨(by repeat (first | exact SubO.nil | refine SubO.cons rfl ?_)), rfl, (by first | exact Vw.le.refl _ | exact hx.1)⟩) (fun xb hxb => ?_)
  refine h_one 11 (by kernel_rfl) ?_
  refine h_to 11 rfl rfl rfl rfl rfl rfl (s_callRow 43 4 (t.H ++ t.Q).length ((t.H ++ t.Q).flatMap Hold.cells) rfl fnok62 (fun E w1 hm => concat2_c xb (E.κ 4) (E.κ 5) t.H t.Q w1 (by rw [← (hm.pin 7 6 xb rfl).1]; exact hm.lit 6 _ _ rfl) (hm.rowOf 4 rfl (fun _ => rfl)) (hm.rowOf 5 rfl (fun _ => rfl)) (by omega))) (.inr fun _ _ => ⟨(by repeat (first | exact SubO.nil | refine SubO.cons rfl ?_)), rfl, (by first | exact Vw.le.refl _ | assumption)⟩) (fun _ _ => ?_)
  refine h_one 12 (by kernel_rfl) ?_
  refine h_yield 12 rfl rfl rfl rfl (y_val tok rfl) ?_
  refine h_done [2, 3, 5, 6] (by kernel_rfl) rfl ?_
  refine x_then ?_
  refine c_seq ?_
  refine k_freeze 8 rfl (fun lv V1 hle1 hsl1 _ => ?_)
  have hL1 : SlOf V1 Hold.cells 4 lv (t.H ++ t.Q) := ⟨hsl1, fun _ => rfl⟩
  obtain ⟨L, hLe⟩ : ∃ L, L = t.H ++ t.Q := ⟨_, rfl⟩
  rw [← hLe] at hal hL1 hpi
  clear hsl1
  refine c_region ?_
  refine o_step rfl rfl rfl rfl rfl (s_mkMapV rfl) (fun mb hmb => ?_)
  have hle2 : ∀ es, V1.le (V1.put mb (mvOb es)) := fun es => Vw.put_le (Vw.le.refl _) hmb
  have hL : ∀ es, SlOf (V1.put mb (mvOb es)) Hold.cells 4 lv L := fun es => hL1.mono (hle2 es)
  refine o_yield rfl rfl rfl (y_val tok rfl) ?_
  refine o_end [2, 3, 5, 6, 7] rfl ?_
  refine x_then ?_
  refine c_seq ?_
  refine c_seq ?_
  refine c_region ?_
  refine o_yield rfl rfl rfl (y_val tok rfl) ?_
  refine o_yield rfl rfl rfl (y_len tok rfl (fun hg => (hL _).sl)) ?_
  refine o_yield rfl rfl rfl (y_val tok rfl) ?_
  refine o_end [2, 3, 5, 6, 7, 28, 29, 30] rfl ?_
  refine x_then ?_
  refine c_block ?_
  refine c_loopV [2, 3, 5, 6, 7, 28, 29] [] rfl rfl (σ := Nat × List (Int × Value)) (fun (k, es) => [(30, .a (.v (I k)))]) (fun (k, es) => []) (fun (k, es) => V1.put mb (mvOb es)) (fun (k, es) => k ≤ L.length ∧ ∀ key, (mvGet es key).getD (I 0) = I (ownN (L.take k) key)) (fun (k, es) => L.length - k) ((0, [])) (⟨by omega, fun key => rfl⟩) (by repeat (first | exact SubF.nil | refine SubF.cons rfl ?_)) (by repeat (first | exact SubO.nil | refine SubO.cons rfl ?_)) rfl (Vw.le.refl _) ?_
  rintro ⟨k, es⟩ ⟨hk, hes⟩
  dsimp only at hk hes ⊢
  refine c_seq ?_
  refine c_region ?_
  refine o_yield rfl rfl rfl (y_val tok rfl) ?_
  refine o_end [2, 3, 5, 6, 7, 28, 29, 30, 31] rfl ?_
  refine x_then ?_
  refine c_seq ?_
  refine c_cond rfl (fun h => ?_) (fun h => ?_)
  ·
    simp only [Bool.and_eq_true, Bool.or_eq_true, Bool.not_eq_true', Bool.or_eq_false_iff, Bool.and_eq_false_iff, decide_eq_true_eq, decide_eq_false_iff_not, beq_iff_eq, bne_iff_ne, Bool.not_eq_false', beq_eq_false_iff_ne, bne_eq_false_iff_eq, ne_eq, Decidable.not_not, Int.not_lt, Int.not_le] at h
    refine c_skip ?_
    refine x_then ?_
    refine c_seq ?_
    refine c_block ?_
    refine c_seq ?_
    refine c_region ?_
    refine o_yield rfl rfl rfl (y_val tok rfl) ?_
    have hL0 := hL es
    obtain ⟨x, h_x⟩ := hL0.at (k := k) (by omega)
    have hlt_x := lt_of_at h_x
    refine o_yield rfl rfl rfl (y_idx tok rfl (fun hg => hL0.sl) (fun hg => ⟨by omega, by omega⟩)) ?_
    refine o_yield rfl rfl rfl (y_lel tok (k) 0 (x) rfl (fun hg => hL0) (fun hg => h_x) rfl rfl) ?_
    refine o_new tok rfl rfl rfl rfl ?_
    refine o_yield rfl rfl rfl (y_val tok rfl) ?_
    refine o_store tok rfl rfl rfl (by first | exact ⟨trivial, trivial⟩ | (repeat' first | exact trivial | exact rfl | apply And.intro); done | simp [onesP, oneP, lk, Value.oneCell']) ?_
    refine o_end [2, 3, 5, 6, 7, 8, 9, 28, 29, 30] rfl ?_
    refine x_then ?_
    refine c_seq ?_
    refine c_region ?_
    refine o_yield rfl rfl rfl (y_val tok rfl) ?_
    refine o_yield rfl rfl rfl (y_val tok rfl) ?_
    refine o_yield rfl rfl rfl (y_val tok rfl) ?_
    obtain ⟨⟨g1, g2⟩, g3, g4⟩ := hpi k x h_x
    have hown := ownN_take x.key h_x
    rw [if_pos (by simp)] at hown
    have hole : ownN (L.take k) x.key ≤ k := Nat.le_trans (ownN_le _ _) (by rw [List.length_take]; omega)
    have hsub : ownN (L.take (k + 1)) x.key ≤ ownN L x.key := ownN_sub (List.take_sublist _ _) _
    have hwo : IntKind.i64.wrap ((ownN (L.take k) x.key : Int) + 1) = (ownN (L.take (k + 1)) x.key : Int) := by rw [hown, wrapI (by omega) (by omega)]; omega
    refine o_yield rfl rfl rfl (y_lkpV es (I (ownN (L.take k) x.key)) rfl Try.underlying96 Try.underlying3 (fun w => Try.zeroValue3 w) (fun hg => Vw.put_get _ _ _) (fun hg => hes x.key)) ?_
    refine o_yield rfl rfl rfl (y_val tok rfl) ?_
    rw [hwo]
    obtain ⟨es2, hes2⟩ : ∃ es2, es2 = mvPut es x.key (I (ownN (L.take (k + 1)) x.key)) := ⟨_, rfl⟩
    have hget2 : ∀ key, (mvGet es2 key).getD (I 0) = I (ownN (L.take (k + 1)) key) := by
      intro key
      rw [hes2, mvGet_put]
      by_cases e : x.key = key
      · subst e; rw [if_pos rfl]; rfl
      · rw [if_neg e, hes key, ownN_take key h_x, if_neg (by simpa using e)]; rfl
    have hcut := (hL es2).cut (lo := 0) (hi := k) (by omega) hk
    simp only [List.drop_zero, Nat.sub_zero] at hcut
    have hLs := hL es2
    refine o_stepN rfl rfl rfl rfl (s_mapPut es rfl rfl Try.underlying96 Try.underlying3 (Vw.put_get _ _ _)) (fun _ _ => ?_)
    refine o_end [2, 3, 5, 6, 7, 8, 9, 28, 29, 30] rfl ?_
    refine x_then ?_
    refine c_seq ?_
    refine c_region ?_
    refine o_yield rfl rfl rfl (y_val tok rfl) ?_
    refine o_yield rfl rfl rfl (y_val tok rfl) ?_
    refine o_yield rfl rfl rfl (y_val tok rfl) ?_
    rw [Vw.put_put, ← hes2]
    refine o_call (.a (.v _)) rfl rfl fnok63 rfl rfl rfl (fun hg E w1 hm => by exact bSlot_c (vw w1) (E.ρ 2) (E.κ 3) (E.κ 4) (E.κ 5) g t.S x.key _ (Vw.le.refl _) (hm.lit 2 _ _ rfl) (hm.rowOf 3 rfl (fun _ => rfl)) (by omega)) ?_
    refine o_yield rfl rfl rfl (y_val tok rfl) ?_
    refine o_yield rfl rfl rfl (y_val tok rfl) ?_
    refine o_yield rfl rfl rfl (y_val tok rfl) ?_
    refine o_yield rfl rfl rfl (y_val tok rfl) ?_
    refine o_yield rfl rfl rfl (y_val tok rfl) ?_
    refine o_end [2, 3, 5, 6, 7, 8, 9, 11, 28, 29, 30] rfl ?_
    refine x_then ?_
    refine c_seq ?_
    refine c_draw mixed (by kernel_rfl) ?_
    refine d_yield rfl rfl rfl (y_val tok rfl) rfl ?_
    refine d_yield rfl rfl rfl (y_val tok rfl) rfl ?_
    refine d_yield rfl rfl rfl (y_val tok rfl) rfl ?_
    refine d_yield rfl rfl rfl (y_val tok rfl) rfl ?_
    refine d_yield rfl rfl rfl (y_val tok rfl) rfl ?_
    refine d_call (.a (.v _)) rfl rfl fnok64 rfl rfl rfl (fun hg E w1 hm => by exact spHold_c g x _) ?_
    refine d_yield rfl rfl rfl (y_val tok rfl) rfl ?_
    refine d_yield rfl rfl rfl (y_val tok rfl) rfl ?_
    refine d_yield rfl rfl rfl (y_val tok rfl) rfl ?_
    refine d_yield rfl rfl rfl (y_val tok rfl) rfl ?_
    refine d_yield rfl rfl rfl (y_val tok rfl) rfl ?_
    refine d_yield rfl rfl rfl (y_sl tok rfl (fun hg => hLs.sl) (fun hg => ⟨by dsimp only [Option.getD]; omega, by dsimp only [Option.getD]; omega, by dsimp only [Option.getD]; omega⟩)) rfl ?_
    refine d_yield rfl rfl rfl (y_val tok rfl) rfl ?_
    refine d_yield rfl rfl rfl (y_val tok rfl) rfl ?_
    refine d_yield rfl rfl rfl (y_val tok rfl) rfl ?_
    refine d_yield rfl rfl rfl (y_val tok rfl) rfl ?_
    refine d_call (.a (.v _)) rfl rfl fnok65 rfl rfl rfl (fun hg E w1 hm => by exact spTouches_c (vw w1) _ (L.take k) x.key x.lo x.hi _ (Vw.le.refl _) (hcut.mono hm.leV) (by rw [List.length_take]; omega)) ?_
    refine d_yield rfl rfl rfl (y_val tok rfl) rfl ?_
    refine d_yield rfl rfl rfl (y_val tok rfl) rfl ?_
    refine d_yield rfl rfl rfl (y_val tok rfl) rfl ?_
    refine d_yield rfl rfl rfl (y_val tok rfl) rfl ?_
    refine d_yield rfl rfl rfl (y_val tok rfl) rfl ?_
    refine d_yield rfl rfl rfl (y_lkpV es2 (I (ownN (L.take (k + 1)) x.key)) rfl Try.underlying96 Try.underlying3 (fun w => Try.zeroValue3 w) (fun hg => Vw.put_get _ _ _) (fun hg => hget2 x.key)) rfl ?_
    refine d_yield rfl rfl rfl (y_val tok rfl) rfl ?_
    refine d_yield rfl rfl rfl (y_val tok rfl) rfl ?_
    refine d_end [2, 3, 5, 6, 7, 28, 29, 30, 71] rfl ?_
    refine x_then ?_
    refine c_cond rfl (fun h => ?_) (fun h => ?_)
    ·
      refine c_seq ?_
      refine c_region ?_
      refine o_yield rfl rfl rfl (y_val tok rfl) ?_
      refine o_end [4] rfl ?_
      refine x_then ?_
      refine c_ret ?_
      refine x_block_ret ?_
      refine x_then_ret ?_
      refine x_then_ret ?_
      refine x_block_ret ?_
      refine x_then_ret ?_
      refine b_ret tok rfl ?_
      exfalso
      rw [g2, g3, decide_eq_true g1, decide_eq_false (show ¬ (64 < (ownN (L.take (k + 1)) x.key : Int)) by omega)] at h
      simp at h
    ·
      refine c_skip ?_
      refine x_block ?_
      refine x_then ?_
      refine c_region ?_
      refine o_yield rfl rfl rfl (y_val tok rfl) ?_
      refine o_yield rfl rfl rfl (y_val tok rfl) ?_
      refine o_end [2, 3, 5, 6, 7, 28, 29, 30] rfl ?_
      refine x_then ?_
      rw [wrapI (by omega) (by omega)]
      refine x_round ((k + 1, es2)) (⟨by dsimp only; omega, hget2⟩) (by first | omega | (dsimp only; omega)) (by repeat (first | exact SubF.nil | refine SubF.cons rfl ?_)) (by repeat (first | exact SubO.nil | refine SubO.cons rfl ?_)) rfl (Vw.le.refl _)
  ·
    simp only [Bool.and_eq_true, Bool.or_eq_true, Bool.not_eq_true', Bool.or_eq_false_iff, Bool.and_eq_false_iff, decide_eq_true_eq, decide_eq_false_iff_not, beq_iff_eq, bne_iff_ne, Bool.not_eq_false', beq_eq_false_iff_ne, bne_eq_false_iff_eq, ne_eq, Decidable.not_not, Int.not_lt, Int.not_le] at h
    clear h
    refine c_exit ?_
    refine x_then_exit ?_
    refine x_then_exit ?_
    refine x_block_hit ?_
    refine x_then ?_
    refine c_seq ?_
    refine c_seq ?_
    refine c_region ?_
    refine o_yield rfl rfl rfl (y_val tok rfl) ?_
    refine o_call (.a (.v _)) rfl rfl fnok66 rfl rfl rfl (fun hg E w1 hm => by exact bMembers_c (vw w1) (E.ρ 2) (E.κ 3) (E.κ 4) (E.κ 5) g t.S _ (Vw.le.refl _) (hm.lit 2 _ _ rfl) (hm.rowOf 3 rfl (fun _ => rfl)) hss hok.slots hok.n) ?_
    refine o_yield rfl rfl rfl (y_val tok rfl) ?_
    refine o_yield rfl rfl rfl (y_val tok rfl) ?_
    refine o_yield rfl rfl rfl (y_val tok rfl) ?_
    refine o_yield rfl rfl rfl (y_val tok rfl) ?_
    refine o_yield rfl rfl rfl (y_val tok rfl) ?_
    refine o_yield rfl rfl rfl (y_val tok rfl) ?_
    refine o_yield rfl rfl rfl (y_val tok rfl) ?_
    refine o_call (.a (.v _)) rfl rfl fnok67 rfl rfl rfl (fun hg E w1 hm => by exact spAll_c (vw w1) (E.κ 4) t.H _ (Vw.le.refl _) (hm.rowOf 4 rfl (fun _ => rfl)) (by omega)) ?_
    refine o_yield rfl rfl rfl (y_val tok rfl) ?_
    refine o_yield rfl rfl rfl (y_val tok rfl) ?_
    refine o_end [3, 5, 84] rfl ?_
    refine x_then ?_
    refine c_cond rfl (fun h => ?_) (fun h => ?_)
    ·
      refine c_seq ?_
      refine c_region ?_
      refine o_yield rfl rfl rfl (y_val tok rfl) ?_
      refine o_end [4] rfl ?_
      refine x_then ?_
      refine c_ret ?_
      refine x_then_ret ?_
      refine b_ret tok rfl ?_
      exfalso
      rw [hok.all] at h
      simp at h
    ·
      refine c_skip ?_
      refine x_then ?_
      refine c_seq ?_
      refine c_region ?_
      refine o_yield rfl rfl rfl (y_val tok rfl) ?_
      refine o_step rfl rfl rfl rfl rfl (s_bookW (lo := 2) (a := 3) (b := 4) (c := 5) (fun _ => True) (slR t.S) (hoR t.grant.H) (hoR t.grant.Q) rfl fnok68 rfl rfl rfl rfl ⟨⟨by decide, by decide⟩, by decide⟩ (fun E w hm hin hle => grant_c g t ht (bkE E 2 3 4 5) _ w hin)) (fun _ _ => ?_)
      refine o_end [3, 5] rfl ?_
      refine x_then ?_
      refine c_seq ?_
      refine c_draw mixed (by kernel_rfl) ?_
      refine d_yield rfl rfl rfl (y_val tok rfl) rfl ?_
      refine d_yield rfl rfl rfl (y_val tok rfl) rfl ?_
      refine d_yield rfl rfl rfl (y_val tok rfl) rfl ?_
      refine d_yield rfl rfl rfl (y_val tok rfl) rfl ?_
      refine d_yield rfl rfl rfl (y_val tok rfl) rfl ?_
      refine d_yield rfl rfl rfl (y_own (s := .a (.v (I t.grant.Q.length))) 11 rfl rfl (fun v V' hv => y_len tok rfl (fun hg => hv))) rfl ?_
      refine d_yield rfl rfl rfl (y_val tok rfl) rfl ?_
      refine d_yield rfl rfl rfl (y_val tok rfl) rfl ?_
      refine d_yield rfl rfl rfl (y_len tok rfl (fun hg => (hQ.mono (hle1.trans (hle2 es))).sl)) rfl ?_
      refine d_yield rfl rfl rfl (y_val tok rfl) rfl ?_
      refine d_yield rfl rfl rfl (y_val tok rfl) rfl ?_
      refine d_end [4] rfl ?_
      refine x_then ?_
      refine c_ret ?_
      refine b_ret tok rfl ?_
      intro E w' hm _
      refine ⟨?_, hm.below (hle1.trans (hle2 es))⟩
      rw [hok.still, beq_self_eq_true]; rfl
end Go.Proofs.Ytiapfhcimekdkaa

/- What the document says of a hold that is freed. -/
set_option linter.unusedVariables false
set_option linter.unusedSimpArgs false
set_option maxRecDepth 100000
namespace Go.Proofs.Ytiapfhcimekdkaa
open Go Go.Eng Go.RowKit

theorem repZ_slots : ∀ k : Nat, repZ k [I 0, I 0] = (List.replicate k (⟨0, 0⟩ : Slot)).flatMap Slot.cells
  | 0 => rfl
  | k + 1 => by rw [List.replicate_succ, List.flatMap_cons, ← repZ_slots k]; rfl

def newN (slots : Int) : Nat := (min (max slots 0) 16).toNat
def newT (slots : Int) : Tb := ⟨List.replicate (newN slots) ⟨0, 0⟩, [], []⟩

theorem new_c (V : Vw) (g : Geo) (w : World) (hV : V.le (vw w)) : Calls Try.prog 12 #[g.val] w (TbOut V (newT g.slots) w) := by
  have hk : min (max g.slots 0) 16 = ((newN g.slots : Nat) : Int) := by rw [newN]; omega
  have hk16 : newN g.slots ≤ 16 := by rw [newN]; omega
  refine enter (E := E0) (O := []) (nl := 0) (V := vw w) [.a (.v g.val)] Try.func12 rfl rfl (mem0 E0 0 w) rfl rfl ?_
  refine c_seq ?_
  refine c_region ?_
  refine o_new tok rfl rfl rfl rfl ?_
  refine o_new tok rfl rfl rfl rfl ?_
  refine o_end [1, 2] rfl ?_
  refine x_then ?_
  refine c_seq ?_
  refine c_region ?_
  refine o_yield rfl rfl rfl (y_val tok rfl) ?_
  refine o_yield rfl rfl rfl (y_val tok rfl) ?_
  refine o_yield rfl rfl rfl (y_mm rfl) ?_
  refine o_yield rfl rfl rfl (y_mm rfl) ?_
  rw [show (bif false then max (bif true then max g.slots 0 else min g.slots 0) 16 else min (bif true then max g.slots 0 else min g.slots 0) 16) = ((newN g.slots : Nat) : Int) from hk]
  refine o_step rfl rfl rfl rfl rfl (s_mk tok (newN g.slots) (newN g.slots) rfl rfl rfl (Nat.le_refl _) (by show 16 * newN g.slots ≤ _; omega) (by simp only [maxLen]; omega)) (fun _ _ => ?_)
  refine o_yield rfl rfl rfl (y_val tok rfl) ?_
  refine o_store tok rfl rfl rfl (by first | exact ⟨trivial, trivial⟩ | (repeat' first | exact trivial | exact rfl | apply And.intro); done | simp [onesP, oneP, lk, Value.oneCell']) ?_
  refine o_end [2] rfl ?_
  refine x_then ?_
  refine c_ret ?_
  refine b_ret tok rfl ?_
  intro E' w' hm _
  have hrow := hm.rowFresh (Vw.le.refl _) (l := 2) rfl
  rw [show repZ (newN g.slots) _ = _ from repZ_slots (newN g.slots)] at hrow
  exact TbIs.out (t := newT g.slots) hV (hm.below (Vw.le.refl _)) (by show World.ownsRow _ _ _ _ _ (List.replicate (newN g.slots) (⟨0, 0⟩ : Slot)).length _; rw [List.length_replicate]; exact hrow) (World.ownsRow_nil w' w.heap.size _ _) (World.ownsRow_nil w' w.heap.size _ _)

theorem hold11_c (h : Hold) (w : World) : Calls Try.prog 53 #[I h.key, I h.lo, I h.hi, I8 h.mode] w fun e w' => e = .returned h.val ∧ Below w.heap.size w w' := by
  refine enter (E := E0) (O := []) (nl := 0) (V := vw w) [.a (.v (I h.key)), .a (.v (I h.lo)), .a (.v (I h.hi)), .a (.v (I8 h.mode))] Try.func53 rfl rfl (mem0 E0 0 w) rfl rfl ?_
  refine c_seq ?_
  refine c_region ?_
  refine o_new tok rfl rfl rfl rfl ?_
  refine o_end [0, 1, 2, 3, 8] rfl ?_
  refine x_then ?_
  refine c_seq ?_
  refine c_region ?_
  refine o_yield rfl rfl rfl (y_val tok rfl) ?_
  refine o_yield rfl rfl rfl (y_val tok rfl) ?_
  refine o_yield rfl rfl rfl (y_val tok rfl) ?_
  refine o_yield rfl rfl rfl (y_val tok rfl) ?_
  refine o_yield rfl rfl rfl (y_val tok rfl) ?_
  refine o_yield rfl rfl rfl (y_val tok rfl) ?_
  refine o_store tok rfl rfl rfl (by first | exact ⟨trivial, trivial⟩ | (repeat' first | exact trivial | exact rfl | apply And.intro); done | simp [onesP, oneP, lk, Value.oneCell']) ?_
  refine o_end [8] rfl ?_
  refine x_then ?_
  refine c_ret ?_
  refine b_ret tok rfl ?_
  intro E w' hm _
  refine ⟨?_, hm.below (Vw.le.refl _)⟩
  rfl

abbrev gW : Geo := ⟨0, 3, 4, 0, 0, 0, 0, 0⟩
abbrev tW : Tb := ⟨[⟨16, 0⟩, ⟨17, 0⟩, ⟨18, 0⟩], [⟨16, 0, 3, 2⟩], [⟨17, 0, 1, 2⟩, ⟨18, 1, 1, 1⟩]⟩
abbrev cW : Cmd := ⟨3, 16, 0, 0, 0, 0, 3, 0⟩

abbrev hd17 : Hold := ⟨17, 0, 1, 2⟩
abbrev hd18 : Hold := ⟨18, 1, 1, 1⟩

theorem applyW : tW.apply gW.blocks cW = ⟨[⟨16, 0⟩, ⟨17, 0⟩, ⟨18, 0⟩], [⟨17, 0, 1, 2⟩], [⟨18, 1, 1, 1⟩]⟩ := rfl

theorem okW : TbOk gW.slots gW.blocks tW := by
  refine ok_iff.2 ⟨pre_iff.2 ⟨⟨rfl, ?_, rfl⟩, ?_⟩, rfl⟩
  · refine ⟨?_, ?_⟩
    · intro x hx
      simp only [List.mem_cons, List.not_mem_nil, or_false] at hx
      rcases hx with rfl | rfl | rfl <;> decide
    · simp
  · intro i x hx
    match i with
    | 0 => cases hx; exact ⟨⟨by decide, by decide⟩, by decide, by decide⟩
    | 1 => cases hx; exact ⟨⟨by decide, by decide⟩, by decide, by decide⟩
    | 2 => cases hx; exact ⟨⟨by decide, by decide⟩, by decide, by decide⟩
    | i + 3 => simp at hx

theorem wakes11_c (w : World) : Calls Try.prog 11 #[] w fun e w' => e = .returned (.bool true) ∧ Below w.heap.size w w' := by
  refine enter (E := E0) (O := []) (nl := 0) (V := vw w) [] Try.func11 rfl rfl (mem0 E0 0 w) rfl rfl ?_
  refine c_seq ?_
  refine c_region ?_
  refine o_yield rfl rfl rfl (y_val tok rfl) ?_
  refine o_end [] rfl ?_
  refine x_then ?_
  refine c_seq ?_
  refine c_region ?_
  refine o_yield rfl rfl rfl (y_val tok rfl) ?_
  refine o_new tok rfl rfl rfl rfl ?_
  refine o_store tok rfl rfl rfl (by first | exact ⟨trivial, trivial⟩ | (repeat' first | exact trivial | exact rfl | apply And.intro); done | simp [onesP, oneP, lk, Value.oneCell']) ?_
  refine o_end [1] rfl ?_
  refine x_then ?_
  refine c_seq ?_
  refine c_region ?_
  refine o_yield rfl rfl rfl (y_val tok rfl) ?_
  refine o_yield rfl rfl rfl (y_val tok rfl) ?_
  refine o_yield rfl rfl rfl (y_val tok rfl) ?_
  refine o_bs tok rfl rfl rfl rfl (fun b1 W1 hlw1 hb1 => ?_)
  refine o_call (.agg [.v (I 16), .v (I 0), .v (I 3), .v (I8 2)]) rfl rfl fnok53 rfl rfl rfl (fun hg E w1 hm => by exact hold11_c ⟨16, 0, 3, 2⟩ _) ?_
  refine o_bs tok rfl rfl rfl rfl (fun b2 W2 hlw2 hb2 => ?_)
  refine o_call (.agg [.v (I 17), .v (I 0), .v (I 1), .v (I8 2)]) rfl rfl fnok53 rfl rfl rfl (fun hg E w1 hm => by exact hold11_c ⟨17, 0, 1, 2⟩ _) ?_
  refine o_call (.agg [.v (I 18), .v (I 1), .v (I 1), .v (I8 1)]) rfl rfl fnok53 rfl rfl rfl (fun hg E w1 hm => by exact hold11_c ⟨18, 1, 1, 1⟩ _) ?_
  refine o_bs tok rfl rfl rfl rfl (fun b3 W3 hlw3 hb3 => ?_)
  refine o_yield rfl rfl rfl (y_val tok rfl) ?_
  refine o_new tok rfl rfl rfl rfl ?_
  refine o_store tok rfl rfl rfl (by first | exact ⟨trivial, trivial⟩ | (repeat' first | exact trivial | exact rfl | apply And.intro); done | simp [onesP, oneP, lk, Value.oneCell']) ?_
  refine o_end [1, 2] rfl ?_
  refine x_then ?_
  refine c_seq ?_
  refine c_region ?_
  refine o_yield rfl rfl rfl (y_val tok rfl) ?_
  refine o_yield rfl rfl rfl (y_val tok rfl) ?_
  refine o_yield rfl rfl rfl (y_val tok rfl) ?_
  refine o_yield rfl rfl rfl (y_val tok rfl) ?_
  have hS : SlOf W1 Slot.cells 2 (.slice (some ⟨b1, 0, none⟩) 3 3) tW.S := SlOf.ofBlock (enc := Slot.cells) (sz := 2) (l := tW.S) (hb1 rfl) rfl (fun _ => rfl) (Nat.le_refl _)
  have hH : SlOf W2 Hold.cells 4 (.slice (some ⟨b2, 0, none⟩) 1 1) tW.H := SlOf.ofBlock (enc := Hold.cells) (sz := 4) (l := tW.H) (hb2 rfl) rfl (fun _ => rfl) (Nat.le_refl _)
  have hQ : SlOf W3 Hold.cells 4 (.slice (some ⟨b3, 0, none⟩) 2 2) tW.Q := SlOf.ofBlock (enc := Hold.cells) (sz := 4) (l := tW.Q) (hb3 rfl) rfl (fun _ => rfl) (Nat.le_refl _)
  have hT : TbIs W3 (.agg #[.slice (some ⟨b1, 0, none⟩) 3 3, .slice (some ⟨b2, 0, none⟩) 1 1, .slice (some ⟨b3, 0, none⟩) 2 2]) tW := ⟨_, _, _, _, _, _, _, _, _, rfl, hS.mono (hlw2.trans hlw3), hH.mono hlw3, hQ⟩
  have hF : tW.Fit := ⟨by decide, by decide, by decide⟩
  clear hS hH hb1 hb2 hb3
  refine o_callV (fun v V' => TbIs V' v (tW.apply gW.blocks cW)) rfl rfl fnok14 rfl rfl (fun hg E w1 hm => by exact apply_c W3 gW _ tW hF (by decide) cW (by decide) _ hm.leV hT) ?_
  rintro v4 W4 hlw4 hv4
  have hv := hv4 rfl
  rw [applyW] at hv
  obtain ⟨a1, n1, c1, a2, n2, c2, a3, n3, c3, rfl, k1, k2, k3⟩ := hv
  clear hv4
  refine o_new tok rfl rfl rfl rfl ?_
  refine o_store tok rfl rfl rfl (by first | exact ⟨trivial, trivial⟩ | (repeat' first | exact trivial | exact rfl | apply And.intro); done | simp [onesP, oneP, lk, Value.oneCell']) ?_
  refine o_end [1, 2, 3] rfl ?_
  refine x_then ?_
  refine c_seq ?_
  refine c_region ?_
  refine o_yield rfl rfl rfl (y_val tok rfl) ?_
  refine o_yield rfl rfl rfl (y_val tok rfl) ?_
  refine o_call (.a (.v _)) rfl rfl fnok17 rfl rfl rfl (fun hg E w1 hm => by exact tMay_c W3 gW _ tW _ hF (hlw4.trans hm.leV) hT okW) ?_
  refine o_yield rfl rfl rfl (y_val tok rfl) ?_
  refine o_yield rfl rfl rfl (y_val tok rfl) ?_
  refine o_yield rfl rfl rfl (y_val tok rfl) ?_
  have hx17 : ([hd17] : List Hold)[0]? = some hd17 := rfl
  have hx18 : ([hd18] : List Hold)[0]? = some hd18 := rfl
  refine o_yield rfl rfl rfl (y_len tok rfl (fun hg => k2.sl)) ?_
  refine o_yield rfl rfl rfl (y_val tok rfl) ?_
  refine o_yield rfl rfl rfl (y_val tok rfl) ?_
  refine o_yield rfl rfl rfl (y_val tok rfl) ?_
  refine o_yield rfl rfl rfl (y_val tok rfl) ?_
  refine o_yield rfl rfl rfl (y_val tok rfl) ?_
  have hlt_hd17 := lt_of_at hx17
  refine o_yield rfl rfl rfl (y_idx tok rfl (fun hg => k2.sl) (fun hg => ⟨by decide, by decide⟩)) ?_
  refine o_yield rfl rfl rfl (y_fel tok rfl (fun hg => k2.sl) (fun hg => by omega)) ?_
  refine o_yield rfl rfl rfl (y_lel tok (0) 0 (hd17) rfl (fun hg => k2) (fun hg => hx17) rfl rfl) ?_
  refine o_yield rfl rfl rfl (y_val tok rfl) ?_
  refine o_yield rfl rfl rfl (y_val tok rfl) ?_
  refine o_yield rfl rfl rfl (y_val tok rfl) ?_
  refine o_yield rfl rfl rfl (y_val tok rfl) ?_
  refine o_yield rfl rfl rfl (y_val tok rfl) ?_
  refine o_yield rfl rfl rfl (y_len tok rfl (fun hg => k3.sl)) ?_
  refine o_yield rfl rfl rfl (y_val tok rfl) ?_
  refine o_yield rfl rfl rfl (y_val tok rfl) ?_
  refine o_yield rfl rfl rfl (y_val tok rfl) ?_
  refine o_yield rfl rfl rfl (y_val tok rfl) ?_
  refine o_yield rfl rfl rfl (y_val tok rfl) ?_
  have hlt_hd18 := lt_of_at hx18
  refine o_yield rfl rfl rfl (y_idx tok rfl (fun hg => k3.sl) (fun hg => ⟨by decide, by decide⟩)) ?_
  refine o_yield rfl rfl rfl (y_fel tok rfl (fun hg => k3.sl) (fun hg => by omega)) ?_
  refine o_yield rfl rfl rfl (y_lel tok (0) 0 (hd18) rfl (fun hg => k3) (fun hg => hx18) rfl rfl) ?_
  refine o_yield rfl rfl rfl (y_val tok rfl) ?_
  refine o_yield rfl rfl rfl (y_val tok rfl) ?_
  refine o_yield rfl rfl rfl (y_val tok rfl) ?_
  refine o_yield rfl rfl rfl (y_val tok rfl) ?_
  refine o_yield rfl rfl rfl (y_val tok rfl) ?_
  refine o_yield rfl rfl rfl (y_len tok rfl (fun hg => (hQ.mono hlw4).sl)) ?_
  refine o_yield rfl rfl rfl (y_val tok rfl) ?_
  refine o_yield rfl rfl rfl (y_val tok rfl) ?_
  refine o_yield rfl rfl rfl (y_val tok rfl) ?_
  refine o_yield rfl rfl rfl (y_val tok rfl) ?_
  refine o_callV (fun v V' => TbIs V' v (newT gW.slots)) rfl rfl fnok12 rfl rfl (fun hg E w1 hm => by exact new_c W4 gW _ hm.leV) ?_
  rintro v5 W5 hlw5 hv5
  obtain ⟨d1, m1, e1, d2, m2, e2, d3, m3, e3, rfl, j1, j2, j3⟩ := hv5 rfl
  refine o_yield rfl rfl rfl (y_val tok rfl) ?_
  refine o_yield rfl rfl rfl (y_len tok rfl (fun hg => j1.sl)) ?_
  refine o_yield rfl rfl rfl (y_val tok rfl) ?_
  refine o_yield rfl rfl rfl (y_val tok rfl) ?_
  refine o_yield rfl rfl rfl (y_val tok rfl) ?_
  refine o_end [0] rfl ?_
  refine x_then ?_
  refine c_ret ?_
  refine b_ret tok rfl ?_
  intro E w' hm _
  refine ⟨?_, hm.below (by repeat (first | exact Vw.le.refl _ | assumption | (refine Vw.le.trans ?_ (by assumption))))⟩
  rfl
end Go.Proofs.Ytiapfhcimekdkaa

/- THE LAW TableStays: of a new table, and commands that may be, what comes may be. -/
set_option linter.unusedVariables false
set_option linter.unusedSimpArgs false
set_option maxRecDepth 100000
namespace Go.Proofs.Ytiapfhcimekdkaa
open Go Go.Eng Go.RowKit

theorem grant_sum (t : Tb) : t.grant.H.length + t.grant.Q.length = t.H.length + t.Q.length := by
  have := grant_len' t.Q t.H []
  simp only [List.length_nil, Nat.add_zero] at this
  exact this

theorem clear_sum (t : Tb) (k : Nat) : (t.clear k).H.length + (t.clear k).Q.length ≤ t.H.length + t.Q.length := by
  rw [Tb.clear, grant_sum]
  have h1 := List.length_filter_le (fun h : Hold => !(h.key == slotKey t.S k)) t.H
  have h2 := List.length_filter_le (fun h : Hold => !(h.key == slotKey t.S k)) t.Q
  dsimp only
  omega

/-- A command brings one hold at most. -/
theorem apply_sum (blocks : Int) (t : Tb) (c : Cmd) : (t.apply blocks c).H.length + (t.apply blocks c).Q.length ≤ t.H.length + t.Q.length + 1 := by
  unfold Tb.apply
  split
  · unfold Tb.mount
    split
    · omega
    · split <;> first | omega | (dsimp only; omega)
  · split
    · unfold Tb.leave
      split
      · have := clear_sum t (by assumption); omega
      · omega
    · split
      · unfold Tb.ask
        split
        · rw [grant_sum]; dsimp only; rw [List.length_append]; dsimp only [List.length]; omega
        · omega
      · split
        · unfold Tb.free
          split
          · rw [grant_sum]; dsimp only; have := (erase_sub t.H (by assumption)).length_le; omega
          · split
            · rw [grant_sum]; dsimp only; have := (erase_sub t.Q (by assumption)).length_le; omega
            · omega
        · split
          · unfold Tb.claim
            split
            · split <;> first | omega | (dsimp only; omega)
            · omega
          · split
            · unfold Tb.purge
              split
              · split
                · have := clear_sum t (by assumption); omega
                · omega
              · omega
            · omega

theorem TbOk.fitS {n blocks : Int} {t : Tb} (h : TbOk n blocks t) (hn : n ≤ 16) (hs : t.H.length + t.Q.length ≤ 1000) : t.Fit ∧ t.Q.length + 1 ≤ 100000 := by
  have := h.n
  exact ⟨⟨by omega, by omega, by omega⟩, by omega⟩

theorem cmdB_key {c : Cmd} (h : cmdB c = true) : 16 ≤ c.by_ := by
  simp only [cmdB, Bool.and_eq_true] at h
  have := h.1.1.1
  simp only [keyB, Bool.and_eq_true, decide_eq_true_eq] at this
  exact this.1

theorem new_ok {g : Geo} (h1 : 1 ≤ g.slots) (h2 : g.slots ≤ 16) : TbOk g.slots g.blocks (newT g.slots) := by
  have := TbOk.new (newN g.slots) g.blocks
  rwa [show ((newN g.slots : Nat) : Int) = g.slots by rw [newN]; omega] at this

theorem tableStays_law (w : World) {v0 v1 : Value} (R0 : ∃ g : Geo, v0 = g.val ∧ g.Ok) (R1 : ∃ l : List Cmd, SlOf (vw w) Cmd.cells 8 v1 l ∧ l.length ≤ maxLen ∧ ∀ a ∈ l, Cmd.Ok a) :
    Calls Try.prog 3 #[v0, v1] w fun e w' => e = .returned (.bool true) ∧ Below w.heap.size w w' := by
  obtain ⟨g, rfl, ok⟩ := R0
  obtain ⟨l, hs, hn, hlok⟩ := R1
  obtain ⟨a0, n0, c0, rfl⟩ := sl_shape hs.sl
  simp only [maxLen] at hn
  refine enter (E := E0) (O := []) (nl := 0) (V := vw w) [.a (.v g.val), .a (.v (.slice a0 n0 c0))] Try.func3 rfl rfl (mem0 E0 0 w) rfl rfl ?_
  refine c_seq ?_
  refine c_region ?_
  refine o_new tok rfl rfl rfl rfl ?_
  refine o_yield rfl rfl rfl (y_val tok rfl) ?_
  refine o_end [1, 2] rfl ?_
  refine x_then ?_
  refine c_seq ?_
  refine c_seq ?_
  refine c_region ?_
  refine o_yield rfl rfl rfl (y_val tok rfl) ?_
  refine o_yield rfl rfl rfl (y_len tok rfl (fun hg => hs.sl)) ?_
  refine o_yield rfl rfl rfl (y_val tok rfl) ?_
  refine o_yield rfl rfl rfl (y_val tok rfl) ?_
  refine o_yield rfl rfl rfl (y_val tok rfl) ?_
  refine o_yield rfl rfl rfl (y_val tok rfl) ?_
  refine o_yield rfl rfl rfl (y_val tok rfl) ?_
  refine o_yield rfl rfl rfl (y_val tok rfl) ?_
  refine o_yield rfl rfl rfl (y_val tok rfl) ?_
  refine o_yield rfl rfl rfl (y_val tok rfl) ?_
  refine o_yield rfl rfl rfl (y_val tok rfl) ?_
  refine o_yield rfl rfl rfl (y_val tok rfl) ?_
  refine o_yield rfl rfl rfl (y_val tok rfl) ?_
  refine o_yield rfl rfl rfl (y_val tok rfl) ?_
  refine o_yield rfl rfl rfl (y_val tok rfl) ?_
  refine o_yield rfl rfl rfl (y_val tok rfl) ?_
  refine o_yield rfl rfl rfl (y_val tok rfl) ?_
  refine o_yield rfl rfl rfl (y_val tok rfl) ?_
  refine o_yield rfl rfl rfl (y_val tok rfl) ?_
  refine o_yield rfl rfl rfl (y_val tok rfl) ?_
  refine o_yield rfl rfl rfl (y_val tok rfl) ?_
  refine o_yield rfl rfl rfl (y_val tok rfl) ?_
  refine o_yield rfl rfl rfl (y_val tok rfl) ?_
  refine o_end [1, 2, 29] rfl ?_
  refine x_then ?_
  refine c_cond rfl (fun h => ?_) (fun h => ?_)
  ·
    simp only [Bool.and_eq_true, Bool.or_eq_true, Bool.not_eq_true', Bool.or_eq_false_iff, Bool.and_eq_false_iff, decide_eq_true_eq, decide_eq_false_iff_not, beq_iff_eq, bne_iff_ne, Bool.not_eq_false', beq_eq_false_iff_ne, bne_eq_false_iff_eq, ne_eq, Decidable.not_not, Int.not_lt, Int.not_le] at h
    refine c_seq ?_
    refine c_region ?_
    refine o_call (.a (.v _)) rfl rfl fnok11 rfl rfl rfl (fun hg E w1 hm => by exact wakes11_c _) ?_
    refine o_yield rfl rfl rfl (y_val tok rfl) ?_
    refine o_end [4] rfl ?_
    refine x_then ?_
    refine c_ret ?_
    refine x_then_ret ?_
    refine b_ret tok rfl ?_
    intro E w' hm _
    refine ⟨?_, hm.below (Vw.le.refl _)⟩
    rfl
  ·
    simp only [Bool.and_eq_true, Bool.or_eq_true, Bool.not_eq_true', Bool.or_eq_false_iff, Bool.and_eq_false_iff, decide_eq_true_eq, decide_eq_false_iff_not, beq_iff_eq, bne_iff_ne, Bool.not_eq_false', beq_eq_false_iff_ne, bne_eq_false_iff_eq, ne_eq, Decidable.not_not, Int.not_lt, Int.not_le] at h
    obtain ⟨⟨⟨⟨h1, h2⟩, h3⟩, h4⟩, h5⟩ := h
    refine c_skip ?_
    refine x_then ?_
    refine c_seq ?_
    refine c_region ?_
    refine o_yield rfl rfl rfl (y_val tok rfl) ?_
    refine o_callV (fun v V' => TbIs V' v (newT g.slots)) rfl rfl fnok12 rfl rfl (fun hg E w1 hm => by exact new_c (vw w) g _ hm.leV) ?_
    rintro v1 W1 hle1 hv1
    have hT1 := hv1 rfl
    obtain ⟨d1, m1, e1, d2, m2, e2, d3, m3, e3, rfl, _⟩ := id hT1
    refine o_new tok rfl rfl rfl rfl ?_
    refine o_store tok rfl rfl rfl (by first | exact ⟨trivial, trivial⟩ | (repeat' first | exact trivial | exact rfl | apply And.intro); done | simp [onesP, oneP, lk, Value.oneCell']) ?_
    refine o_end [1, 2, 5] rfl ?_
    refine x_then ?_
    refine c_seq ?_
    refine c_seq ?_
    refine c_region ?_
    refine o_yield rfl rfl rfl (y_val tok rfl) ?_
    refine o_end [1, 2, 5, 6] rfl ?_
    refine x_then ?_
    refine c_block ?_
    refine c_loopV [1, 2, 5] [1] rfl rfl (σ := Nat × Value × Value × Value × Tb × Vw) (fun (i, s, u, q, t, W) => [(6, .a (.v (I i)))]) (fun (i, s, u, q, t, W) => [(1, .lit [.v s, .v u, .v q] 29)]) (fun (i, s, u, q, t, W) => W) (fun (i, s, u, q, t, W) => (i ≤ l.length ∧ t.H.length + t.Q.length ≤ i) ∧ (vw w).le W ∧ TbIs W (.agg #[s, u, q]) t ∧ TbOk g.slots g.blocks t) (fun (i, s, u, q, t, W) => l.length - i) ((0, _, _, _, newT g.slots, W1)) (⟨⟨by omega, Nat.le_refl _⟩, hle1, hT1, new_ok h2 h3⟩) (by repeat (first | exact SubF.nil | refine SubF.cons rfl ?_)) (by repeat (first | exact SubO.nil | refine SubO.cons rfl ?_)) rfl (Vw.le.refl _) ?_
    rintro ⟨i, s, u, q, t, W⟩ ⟨⟨hi, hsum⟩, hle, hT, hok⟩
    dsimp only at hi hsum hle hT hok ⊢
    have hs' := hs.mono hle
    have hfit := hok.fitS h3 (by omega)
    refine c_seq ?_
    refine c_seq ?_
    refine c_region ?_
    refine o_yield rfl rfl rfl (y_val tok rfl) ?_
    refine o_yield rfl rfl rfl (y_val tok rfl) ?_
    refine o_yield rfl rfl rfl (y_len tok rfl (fun hg => hs'.sl)) ?_
    refine o_yield rfl rfl rfl (y_val tok rfl) ?_
    refine o_end [1, 2, 5, 6, 36] rfl ?_
    refine x_then ?_
    refine c_cond rfl (fun h => ?_) (fun h => ?_)
    ·
      simp only [Bool.and_eq_true, Bool.or_eq_true, Bool.not_eq_true', Bool.or_eq_false_iff, Bool.and_eq_false_iff, decide_eq_true_eq, decide_eq_false_iff_not, beq_iff_eq, bne_iff_ne, Bool.not_eq_false', beq_eq_false_iff_ne, bne_eq_false_iff_eq, ne_eq, Decidable.not_not, Int.not_lt, Int.not_le] at h
      refine c_skip ?_
      refine x_then ?_
      refine c_seq ?_
      refine c_block ?_
      refine c_seq ?_
      refine c_seq ?_
      refine c_region ?_
      refine o_yield rfl rfl rfl (y_val tok rfl) ?_
      refine o_yield rfl rfl rfl (y_val tok rfl) ?_
      obtain ⟨c, h_c⟩ := hs'.at (k := i) (by omega)
      have hlt_c := lt_of_at h_c
      refine o_yield rfl rfl rfl (y_idx tok rfl (fun hg => hs'.sl) (fun hg => ⟨by omega, by omega⟩)) ?_
      refine o_yield rfl rfl rfl (y_lel tok (i) 0 (c) rfl (fun hg => hs') (fun hg => h_c) rfl rfl) ?_
      have hck := (hlok c (List.mem_of_getElem? h_c)).kind
      have hwi : IntKind.i64.wrap ((i : Int) + 1) = ((i + 1 : Nat) : Int) := wrapI (by omega) (by omega)
      refine o_call (.a (.v _)) rfl rfl fnok13 rfl rfl rfl (fun hg E w1 hm => by exact refCmdMay_c c _) ?_
      refine o_yield rfl rfl rfl (y_val tok rfl) ?_
      refine o_end [1, 2, 5, 6, 44] rfl ?_
      refine x_then ?_
      refine c_cond rfl (fun h => ?_) (fun h => ?_)
      ·
        refine c_exit ?_
        refine x_then_exit ?_
        refine x_block_hit ?_
        refine x_then ?_
        refine c_region ?_
        refine o_yield rfl rfl rfl (y_val tok rfl) ?_
        refine o_yield rfl rfl rfl (y_val tok rfl) ?_
        refine o_yield rfl rfl rfl (y_val tok rfl) ?_
        refine o_end [1, 2, 5, 6] rfl ?_
        refine x_then ?_
        rw [hwi]
        refine x_round ((i + 1, s, u, q, t, W)) (⟨⟨by dsimp only; omega, by dsimp only; omega⟩, hle, hT, hok⟩) (by first | omega | (dsimp only; omega)) (by repeat (first | exact SubF.nil | refine SubF.cons rfl ?_)) (by repeat (first | exact SubO.nil | refine SubO.cons rfl ?_)) rfl (Vw.le.refl _)
      ·
        have hcm : cmdB c = true := by simpa using h
        clear h
        have hok2 := hok.apply (c := c) (cmdB_key hcm)
        have hsum2 := apply_sum g.blocks t c
        refine c_skip ?_
        refine x_then ?_
        refine c_seq ?_
        refine c_heldS [7] mixed rfl (by repeat (first | exact SubO.nil | refine SubO.cons rfl ?_)) (by first | rfl | simp [okCels, allOk_plain]) ?_
        refine t_takeD 0 rfl (by kernel_rfl) rfl rfl rfl (y_val tok rfl) rfl ?_
        refine t_takeD 1 rfl (by kernel_rfl) rfl rfl rfl (y_val tok rfl) rfl ?_
        refine t_takeD 2 rfl (by kernel_rfl) rfl rfl rfl (y_val tok rfl) rfl ?_
        refine t_takeD 3 rfl (by kernel_rfl) rfl rfl rfl (y_val tok rfl) rfl ?_
        have hlt_c := lt_of_at h_c
        refine t_takeD 4 rfl (by kernel_rfl) rfl rfl rfl (y_idx tok rfl (fun hg => hs'.sl) (fun hg => ⟨by omega, by omega⟩)) rfl ?_
        refine t_takeD 5 rfl (by kernel_rfl) rfl rfl rfl (y_lel tok (i) 0 (c) rfl (fun hg => hs') (fun hg => h_c) rfl rfl) rfl ?_
        refine t_go ?_
        refine h_one 6 (by kernel_rfl) ?_
        refine h_callV 6 (fun v V' => TbIs V' v (t.apply g.blocks c)) rfl rfl rfl fnok14 rfl rfl (fun hg E w1 hm => by exact apply_c W g _ t hfit.1 hfit.2 c hck _ hm.leV hT) ?_
        rintro v2 W2 hle2 hv2
        have hT2 := hv2 rfl
        obtain ⟨x1, y1, z1, x2, y2, z2, x3, y3, z3, rfl, _, k2, _⟩ := id hT2
        have hfit2 := hok2.fitS h3 (by omega)
        have hlim : lim = 4398046511104 := rfl
        have hhl := hfit2.1.h
        refine h_one 7 (by kernel_rfl) ?_
        refine h_store 7 tok rfl rfl rfl rfl (by first | exact ⟨trivial, trivial⟩ | (repeat' first | exact trivial | exact rfl | apply And.intro); done | simp [onesP, oneP, lk, Value.oneCell']) (.inl rfl) ?_
        refine h_done [1, 2, 5, 6] (by kernel_rfl) rfl ?_
        refine x_then ?_
        refine c_seq ?_
        refine c_region ?_
        refine o_yield rfl rfl rfl (y_val tok rfl) ?_
        refine o_yield rfl rfl rfl (y_val tok rfl) ?_
        refine o_call (.a (.v _)) rfl rfl fnok15 rfl rfl rfl (fun hg E w1 hm => by exact rMay_c (vw w1) g _ (t.apply g.blocks c) _ hfit2.1 (Vw.le.refl _) (hT2.mono hm.leV)) ?_
        refine o_yield rfl rfl rfl (y_val tok rfl) ?_
        refine o_yield rfl rfl rfl (y_val tok rfl) ?_
        refine o_yield rfl rfl rfl (y_val tok rfl) ?_
        refine o_yield rfl rfl rfl (y_val tok rfl) ?_
        refine o_call (.a (.v _)) rfl rfl fnok16 rfl rfl rfl (fun hg E w1 hm => by exact spRall_c (vw w1) _ (t.apply g.blocks c).H _ (Vw.le.refl _) (k2.mono hm.leV) (by omega)) ?_
        refine o_yield rfl rfl rfl (y_val tok rfl) ?_
        refine o_yield rfl rfl rfl (y_val tok rfl) ?_
        refine o_end [1, 2, 5, 6, 61] rfl ?_
        refine x_then ?_
        refine c_cond rfl (fun h => ?_) (fun h => ?_)
        ·
          refine c_seq ?_
          refine c_region ?_
          refine o_yield rfl rfl rfl (y_val tok rfl) ?_
          refine o_end [4] rfl ?_
          refine x_then ?_
          refine c_ret ?_
          refine x_block_ret ?_
          refine x_then_ret ?_
          refine x_then_ret ?_
          refine x_block_ret ?_
          refine x_then_ret ?_
          refine b_ret tok rfl ?_
          exfalso
          rw [cdec_true hok2, hok2.all] at h
          simp at h
        ·
          refine c_skip ?_
          refine x_block ?_
          refine x_then ?_
          refine c_region ?_
          refine o_yield rfl rfl rfl (y_val tok rfl) ?_
          refine o_yield rfl rfl rfl (y_val tok rfl) ?_
          refine o_yield rfl rfl rfl (y_val tok rfl) ?_
          refine o_end [1, 2, 5, 6] rfl ?_
          refine x_then ?_
          rw [hwi]
          refine x_round ((i + 1, _, _, _, t.apply g.blocks c, W2)) (⟨⟨by dsimp only; omega, by dsimp only; omega⟩, hle.trans hle2, hT2, hok2⟩) (by first | omega | (dsimp only; omega)) (by repeat (first | exact SubF.nil | refine SubF.cons rfl ?_)) (by repeat (first | exact SubO.nil | refine SubO.cons rfl ?_)) rfl (Vw.le.refl _)
    ·
      simp only [Bool.and_eq_true, Bool.or_eq_true, Bool.not_eq_true', Bool.or_eq_false_iff, Bool.and_eq_false_iff, decide_eq_true_eq, decide_eq_false_iff_not, beq_iff_eq, bne_iff_ne, Bool.not_eq_false', beq_eq_false_iff_ne, bne_eq_false_iff_eq, ne_eq, Decidable.not_not, Int.not_lt, Int.not_le] at h
      clear h
      refine c_exit ?_
      refine x_then_exit ?_
      refine x_then_exit ?_
      refine x_block_hit ?_
      refine x_then ?_
      refine c_seq ?_
      refine c_region ?_
      refine o_yield rfl rfl rfl (y_val tok rfl) ?_
      refine o_yield rfl rfl rfl (y_val tok rfl) ?_
      refine o_call (.a (.v _)) rfl rfl fnok17 rfl rfl rfl (fun hg E w1 hm => by exact tMay_c (vw w1) g _ t _ hfit.1 (Vw.le.refl _) (hT.mono hm.leV) hok) ?_
      refine o_yield rfl rfl rfl (y_val tok rfl) ?_
      refine o_call (.a (.v _)) rfl rfl fnok11 rfl rfl rfl (fun hg E w1 hm => by exact wakes11_c _) ?_
      refine o_yield rfl rfl rfl (y_val tok rfl) ?_
      refine o_yield rfl rfl rfl (y_val tok rfl) ?_
      refine o_end [4] rfl ?_
      refine x_then ?_
      refine c_ret ?_
      refine b_ret tok rfl ?_
      intro E w' hm _
      refine ⟨?_, hm.below (hle)⟩
      rfl
end Go.Proofs.Ytiapfhcimekdkaa

/- Whether a hold is among some; who is granted ahead of whom. -/
set_option linter.unusedVariables false
set_option linter.unusedSimpArgs false
set_option maxRecDepth 100000
namespace Go.Proofs.Ytiapfhcimekdkaa
open Go Go.Eng Go.RowKit

def Hold.eqB (a b : Hold) : Bool := a.key == b.key && ((a.lo == b.lo && a.hi == b.hi) && a.mode == b.mode)

theorem Hold.eqB_iff (a b : Hold) : a.eqB b = true ↔ a = b := by
  obtain ⟨a1, a2, a3, a4⟩ := a
  obtain ⟨b1, b2, b3, b4⟩ := b
  simp [Hold.eqB, and_assoc]

theorem holdEq {op : BinOp} {ox oy : Operand} (a b : Hold) (w : World) (hop : op = .eql ∨ op = .neq) :
    (do eqGuard op 43 ox oy a.val b.val; binOp op 43 a.val b.val : Sem Value).run Try.prog w = .ok (.bool (if op = .eql then a.eqB b else !(a.eqB b))) w := by
  have hS : Try.prog.underlying 43 = some (.struct (Try.prog.fieldsOf 43)) := by kernel_rfl
  have hp : Try.prog.stoodInHeld 43 = false := by kernel_rfl
  have hg : Try.prog.eqGuardType Try.prog.depth 43 = false := by kernel_rfl
  have hS2 : Try.prog.underlying 34 = some (.struct (Try.prog.fieldsOf 34)) := by kernel_rfl
  have hp2 : Try.prog.stoodInHeld 34 = false := by kernel_rfl
  have key2 : ∀ a b c d : Int, (Op.equalIn 9999 34 (.agg #[I a, I b]) (.agg #[I c, I d])).run Try.prog w = .ok (a == c && b == d) w := by
    intro a b c d
    have u3 := Try.underlying3
    have a3 := Try.isAgg3
    have z3 := Try.sizeOf3
    rw [show (9999 : Nat) = 9998 + 1 from rfl, run_equalIn_agg w 9998 34 _ _ hS2 hp2]
    simp only [Program.fieldsOf, Try.underlying34]
    go_simp
    by_cases h1 : a = c <;> by_cases h2 : b = d <;> simp [h1, h2]
  have key : (Op.equalIn 10000 43 a.val b.val).run Try.prog w = .ok (a.eqB b) w := by
    have u3 := Try.underlying3
    have a3 := Try.isAgg3
    have z3 := Try.sizeOf3
    have u8 := Try.underlying32
    have a8 := Try.isAgg32
    have z8 := Try.sizeOf32
    have asp := Try.isAgg34
    have zsp := Try.sizeOf34
    rw [show (10000 : Nat) = 9999 + 1 from rfl, run_equalIn_agg w 9999 43 _ _ hS hp]
    simp only [Program.fieldsOf, Try.underlying43]
    have e := fun (k : IntKind) (x y : Int) (t : Nat) (hu : Try.prog.underlying t = some (.int k)) => run_equalIn_int (P := Try.prog) w 9998 t k k x y hu
    refine (eqF_cons (by simp) (by go_simp; rfl) (by go_simp; rfl) (e .i64 _ _ _ u3) <| eqF_cons (a := .agg #[I a.lo, I a.hi]) (b := .agg #[I b.lo, I b.hi]) (by simp) (by go_simp) (by go_simp) (key2 _ _ _ _) <|
      eqF_cons (by simp) (by go_simp; rfl) (by go_simp; rfl) (e .i8 _ _ _ u8) eqF_nil).trans ?_
    rw [Bool.and_true]
    rfl
  rw [Sem.run_bind, run_eqGuard_agg w _ _ _ _ _ _ hg]
  rcases hop with rfl | rfl
  · simp only [Result.andThen_ok, run_eql_struct, key]; rfl
  · simp only [Result.andThen_ok, run_neq_struct, key]; rfl

def hasH (l : List Hold) (h : Hold) : Bool := l.any (fun x => x.eqB h)

theorem hasH_iff {l : List Hold} {h : Hold} : hasH l h = true ↔ h ∈ l := by
  rw [hasH, List.any_eq_true]
  constructor
  · rintro ⟨x, hx, he⟩
    rw [Hold.eqB_iff] at he
    rw [← he]; exact hx
  · intro hm
    exact ⟨h, hm, (Hold.eqB_iff h h).2 rfl⟩

theorem has11_c (V : Vw) (sv : Value) (l : List Hold) (x : Hold) (w : World) (hV : V.le (vw w)) (hs0 : SlOf V Hold.cells 4 sv l) (hn : l.length ≤ lim) :
    Calls Try.prog 18 #[sv, x.val] w fun e w' => e = .returned (.bool (hasH l x)) ∧ Below w.heap.size w w' := by
  unfold lim at hn
  have hs := hs0.mono hV
  refine enter (E := E0) (O := []) (nl := 0) (V := vw w) [.a (.v sv), .a (.v x.val)] Try.func18 rfl rfl (mem0 E0 0 w) rfl rfl ?_
  refine c_seq ?_
  refine c_region ?_
  refine o_new tok rfl rfl rfl rfl ?_
  refine o_yield rfl rfl rfl (y_val tok rfl) ?_
  refine o_end [0, 3] rfl ?_
  refine x_then ?_
  refine c_seq ?_
  refine c_seq ?_
  refine c_region ?_
  refine o_yield rfl rfl rfl (y_val tok rfl) ?_
  refine o_end [0, 3, 5] rfl ?_
  refine x_then ?_
  refine c_block ?_
  refine c_loopK [0, 3] [] rfl rfl (σ := Nat) (fun k => [(5, .a (.v (I k)))]) (fun k => []) (fun k => k ≤ l.length ∧ ∀ (j : Nat) (y : Hold), j < k → l[j]? = some y → y.eqB x = false) (fun k => l.length - k) (0) (⟨by omega, by simp⟩) (by repeat (first | exact SubF.nil | refine SubF.cons rfl ?_)) (by repeat (first | exact SubO.nil | refine SubO.cons rfl ?_)) rfl ?_
  rintro k ⟨hk, hall⟩
  refine c_seq ?_
  refine c_seq ?_
  refine c_region ?_
  refine o_yield rfl rfl rfl (y_val tok rfl) ?_
  refine o_yield rfl rfl rfl (y_val tok rfl) ?_
  refine o_yield rfl rfl rfl (y_len tok rfl (fun hg => hs.sl)) ?_
  refine o_yield rfl rfl rfl (y_val tok rfl) ?_
  refine o_end [0, 3, 5, 9] rfl ?_
  refine x_then ?_
  refine c_cond rfl (fun h => ?_) (fun h => ?_)
  ·
    simp only [Bool.and_eq_true, Bool.or_eq_true, Bool.not_eq_true', Bool.or_eq_false_iff, Bool.and_eq_false_iff, decide_eq_true_eq, decide_eq_false_iff_not, beq_iff_eq, bne_iff_ne, Bool.not_eq_false', beq_eq_false_iff_ne, bne_eq_false_iff_eq, ne_eq, Decidable.not_not, Int.not_lt, Int.not_le] at h
    refine c_skip ?_
    refine x_then ?_
    refine c_seq ?_
    refine c_block ?_
    refine c_seq ?_
    refine c_draw mixed (by kernel_rfl) ?_
    refine d_yield rfl rfl rfl (y_val tok rfl) rfl ?_
    refine d_yield rfl rfl rfl (y_val tok rfl) rfl ?_
    obtain ⟨y, h_y⟩ := hs.at (k := k) (by omega)
    have hlt_y := lt_of_at h_y
    refine d_yield rfl rfl rfl (y_idx tok rfl (fun hg => hs.sl) (fun hg => ⟨by omega, by omega⟩)) rfl ?_
    refine d_yield rfl rfl rfl (y_lel tok (k) 0 (y) rfl (fun hg => hs) (fun hg => h_y) rfl rfl) rfl ?_
    refine d_yield rfl rfl rfl (y_val tok rfl) rfl ?_
    refine d_yield rfl rfl rfl (y_seq (.bool (y.eqB x)) rfl (fun E w => holdEq y x w (.inl rfl))) rfl ?_
    refine d_end [0, 3, 5, 17] rfl ?_
    refine x_then ?_
    refine c_cond rfl (fun h => ?_) (fun h => ?_)
    ·
      refine c_seq ?_
      refine c_region ?_
      refine o_yield rfl rfl rfl (y_val tok rfl) ?_
      refine o_end [4] rfl ?_
      refine x_then ?_
      refine c_ret ?_
      refine x_block_ret ?_
      refine x_then_ret ?_
      refine x_then_ret ?_
      refine x_block_ret ?_
      refine x_then_ret ?_
      refine b_ret tok rfl ?_
      intro E w' hm _
      refine ⟨?_, hm.below (Vw.le.refl _)⟩
      rw [show hasH l x = true from List.any_eq_true.2 ⟨y, List.mem_of_getElem? h_y, h⟩]; rfl
    ·
      refine c_skip ?_
      refine x_block ?_
      refine x_then ?_
      refine c_region ?_
      refine o_yield rfl rfl rfl (y_val tok rfl) ?_
      refine o_yield rfl rfl rfl (y_val tok rfl) ?_
      refine o_yield rfl rfl rfl (y_val tok rfl) ?_
      refine o_end [0, 3, 5] rfl ?_
      refine x_then ?_
      rw [wrapI (by omega) (by omega)]
      refine x_round (k + 1) (⟨by omega, ahead_succ h_y hall h⟩) (by first | omega | (dsimp only; omega)) (by repeat (first | exact SubF.nil | refine SubF.cons rfl ?_)) (by repeat (first | exact SubO.nil | refine SubO.cons rfl ?_)) rfl (Vw.le.refl _)
  ·
    simp only [Bool.and_eq_true, Bool.or_eq_true, Bool.not_eq_true', Bool.or_eq_false_iff, Bool.and_eq_false_iff, decide_eq_true_eq, decide_eq_false_iff_not, beq_iff_eq, bne_iff_ne, Bool.not_eq_false', beq_eq_false_iff_ne, bne_eq_false_iff_eq, ne_eq, Decidable.not_not, Int.not_lt, Int.not_le] at h
    refine c_exit ?_
    refine x_then_exit ?_
    refine x_then_exit ?_
    refine x_block_hit ?_
    refine x_then ?_
    refine c_seq ?_
    refine c_region ?_
    refine o_yield rfl rfl rfl (y_val tok rfl) ?_
    refine o_end [4] rfl ?_
    refine x_then ?_
    refine c_ret ?_
    refine b_ret tok rfl ?_
    have hkl : k = l.length := by omega
    intro E w' hm _
    refine ⟨?_, hm.below (Vw.le.refl _)⟩
    rw [show hasH l x = false from by
      rw [hasH, List.any_eq_false]
      intro y hy
      obtain ⟨j, hj⟩ := List.mem_iff_getElem?.1 hy
      rw [hall j y (by rw [hkl]; exact lt_of_at hj) hj]; simp]
    rfl

/-! Who is granted. -/

theorem grant_queued {x y : Hold} : ∀ (w H Q : List Hold), x ∈ (grantGo w H Q).1 → x ∉ H → y ∈ Q → together x y = true
  | [], H, Q, hx, hn, _ => absurd hx hn
  | h :: r, H, Q, hx, hn, hy => by
    rw [grantGo] at hx
    split at hx
    · rename_i hc
      rw [Bool.and_eq_true] at hc
      by_cases e : x = h
      · subst e
        have := hc.2
        rw [fits, List.all_eq_true] at this
        exact this y hy
      · exact grant_queued r _ _ hx (by simp [hn, e]) hy
    · exact grant_queued r _ _ hx hn (by simp [hy])

theorem grant_keepsH {x : Hold} : ∀ (w H Q : List Hold), x ∈ H → x ∈ (grantGo w H Q).1
  | [], H, Q, hx => hx
  | h :: r, H, Q, hx => by
    rw [grantGo]
    split
    · exact grant_keepsH r _ _ (by simp [hx])
    · exact grant_keepsH r _ _ hx

theorem grant_order {x y : Hold} : ∀ (w H Q : List Hold), (H ++ Q ++ w).Nodup → [y, x].Sublist w → x ∈ (grantGo w H Q).1 → y ∈ (grantGo w H Q).2 → together x y = true
  | [], H, Q, _, hs, _, _ => by simp at hs
  | h :: r, H, Q, hnd, hs, hx, hy => by
    have hp := (grant_perm (h :: r) H Q).nodup_iff.2 hnd
    rw [List.nodup_append] at hp
    have hndw : (h :: r).Nodup := (List.nodup_append.1 hnd).2.1
    have hxw : x ∈ h :: r := hs.subset (by simp)
    have hxH : x ∉ H := fun hm => (List.nodup_append.1 hnd).2.2 x (by simp [hm]) x hxw rfl
    rw [List.nodup_cons] at hndw
    cases hs with
    | cons _ h' =>
      have hxr : x ∈ r := h'.subset (by simp)
      have hxh : x ≠ h := fun e => hndw.1 (e ▸ hxr)
      rw [grantGo] at hx hy
      split at hx
      · rename_i hc
        rw [if_pos hc] at hy
        refine grant_order r _ _ ?_ h' hx hy
        refine (List.Perm.nodup_iff ?_).2 hnd
        simp only [List.append_assoc, List.cons_append, List.nil_append]
        exact List.Perm.append_left H (List.perm_middle (a := h) (l₁ := Q) (l₂ := r)).symm
      · rename_i hc
        rw [if_neg hc] at hy
        exact grant_order r _ _ (by simpa using hnd) h' hx hy
    | cons_cons _ h' =>
      have hxr : x ∈ r := h'.subset (by simp)
      rw [grantGo] at hx hy hp
      split at hx
      · rename_i hc
        rw [if_pos hc] at hy hp
        exact absurd rfl (hp.2.2 y (grant_keepsH r _ _ (by simp)) y hy)
      · exact grant_queued r _ _ hx hxH (by simp)

/-- What holds and queue have is told apart. -/
theorem TbPre.nodup {n blocks : Int} {t : Tb} (h : TbPre n blocks t) : (t.H ++ t.Q).Nodup := by
  rw [List.Nodup]
  refine List.Pairwise.imp_of_mem ?_ h.apart
  intro a b ha hb hab e
  subst e
  exact hab ⟨rfl, holdB_self (h.mem a ha).2⟩

theorem pair_anti {α : Type} {x y : α} : ∀ {L : List α}, L.Nodup → [y, x].Sublist L → [x, y].Sublist L → False
  | [], _, h, _ => by simp at h
  | h :: r, hnd, h1, h2 => by
    rw [List.nodup_cons] at hnd
    cases h1 with
    | cons _ h1 =>
      cases h2 with
      | cons _ h2 => exact pair_anti hnd.2 h1 h2
      | cons_cons _ h2 => exact hnd.1 (h1.subset (by simp))
    | cons_cons _ h1 =>
      cases h2 with
      | cons _ h2 => exact hnd.1 (h2.subset (by simp))
      | cons_cons _ h2 => exact hnd.1 (h1.subset (by simp))

theorem pair_of {α : Type} {x y : α} {L : List α} {i j : Nat} (hij : i < j) (hy : L[i]? = some y) (hx : L[j]? = some x) : [y, x].Sublist L := by
  have h1 : L = L.take (i + 1) ++ L.drop (i + 1) := (List.take_append_drop _ _).symm
  have h2 : L.take (i + 1) = L.take i ++ [y] := take_succ_at' hy
  have h3 : x ∈ L.drop (i + 1) := by
    refine List.mem_iff_getElem?.2 ⟨j - (i + 1), ?_⟩
    rw [List.getElem?_drop, show i + 1 + (j - (i + 1)) = j by omega]; exact hx
  rw [h1, h2]
  have h4 : [y].Sublist (L.take i ++ [y]) := List.sublist_append_right _ _
  exact h4.append (List.singleton_sublist.2 h3)

theorem pair_sub {α : Type} {x y : α} {L W : List α} (hnd : L.Nodup) (hW : W.Sublist L) (h : [y, x].Sublist L) (hy : y ∈ W) (hx : x ∈ W) : [y, x].Sublist W := by
  obtain ⟨i, hi⟩ := List.mem_iff_getElem?.1 hy
  obtain ⟨j, hj⟩ := List.mem_iff_getElem?.1 hx
  rcases Nat.lt_trichotomy i j with hij | hij | hij
  · exact pair_of hij hi hj
  · subst hij
    rw [hi] at hj
    cases hj
    exact (pair_anti hnd h h).elim
  · exact (pair_anti hnd h ((pair_of hij hj hi).trans hW)).elim

/-- Of a table that is granted anew: who of the old queue is granted goes together with all ahead of it that still wait. -/
theorem grant_ahead {n blocks : Int} {t T : Tb} (hok : TbPre n blocks t) (hT : TbPre n blocks T) (h1 : ∀ x ∈ T.H, x ∈ t.H) (h2 : ∀ x y, [y, x].Sublist t.Q → y ∈ T.Q → x ∈ T.Q → [y, x].Sublist T.Q) {i k : Nat} {x y : Hold} (hki : k < i)
    (hx : t.Q[i]? = some x) (hy : t.Q[k]? = some y) (hxo : x ∈ T.grant.H) (hxn : x ∉ t.H) (hyo : y ∈ T.grant.Q) : together x y = true := by
  have hp := grant_perm T.Q T.H []
  rw [List.append_nil] at hp
  have hyn : y ∉ t.H := fun hm => (List.nodup_append.1 hok.nodup).2.2 y hm y (List.mem_of_getElem? hy) rfl
  have hxT : x ∈ T.Q := by
    rcases List.mem_append.1 (hp.mem_iff.1 (List.mem_append_left _ hxo)) with hm | hm
    · exact absurd (h1 x hm) hxn
    · exact hm
  have hyT : y ∈ T.Q := by
    rcases List.mem_append.1 (hp.mem_iff.1 (List.mem_append_right _ hyo)) with hm | hm
    · exact absurd (h1 y hm) hyn
    · exact hm
  exact grant_order T.Q T.H [] (by simpa using hT.nodup) (h2 x y (pair_of hki hy hx) hyT hxT) hxo hyo

theorem sub_ahead {n blocks : Int} {t : Tb} (hok : TbPre n blocks t) {W : List Hold} (hW : W.Sublist t.Q) (x y : Hold) (h : [y, x].Sublist t.Q) (hy : y ∈ W) (hx : x ∈ W) : [y, x].Sublist W :=
  pair_sub (List.nodup_append.1 hok.nodup).2.1 hW h hy hx

theorem clear_pre {n blocks : Int} {t : Tb} (h : TbOk n blocks t) {k : Nat} {x : Slot} (hx : t.S[k]? = some x) : TbPre n blocks ⟨t.S.set k ⟨0, 0⟩, t.H.filter (fun h => !(h.key == slotKey t.S k)), t.Q.filter (fun h => !(h.key == slotKey t.S k))⟩ := by
  have := (h.clear hx).toTbPre
  have hs := h.toTbPre.sub (H := t.H.filter (fun h => !(h.key == slotKey t.S k))) (Q := t.Q.filter (fun h => !(h.key == slotKey t.S k))) List.filter_sublist List.filter_sublist
  have hp := grant_perm (t.Q.filter (fun h => !(h.key == slotKey t.S k))) (t.H.filter (fun h => !(h.key == slotKey t.S k))) []
  rw [List.append_nil] at hp
  exact ⟨this.n, this.slots, hs.all, fun y hy => this.mem y (hp.mem_iff.2 hy), hs.apart, hs.few⟩

theorem clear_queues {n blocks : Int} {t : Tb} (hok : TbOk n blocks t) {q : Nat} {s : Slot} (hs : t.S[q]? = some s) {i k : Nat} {x y : Hold} (hki : k < i)
    (hx : t.Q[i]? = some x) (hy : t.Q[k]? = some y) (hxo : x ∈ (t.clear q).H) (hxn : x ∉ t.H) (hyo : y ∈ (t.clear q).Q) : together x y = true :=
  grant_ahead hok.toTbPre (clear_pre hok hs) (fun x hx => (List.mem_filter.1 hx).1) (sub_ahead hok.toTbPre List.filter_sublist) hki hx hy hxo hxn hyo

/-- Nobody passes another that it does not go together with. -/
theorem apply_queues {n blocks : Int} {t : Tb} (hok : TbOk n blocks t) (c : Cmd) {i k : Nat} {x y : Hold} (hki : k < i)
    (hx : t.Q[i]? = some x) (hy : t.Q[k]? = some y) (hxo : x ∈ (t.apply blocks c).H) (hxn : x ∉ t.H) (hyo : y ∈ (t.apply blocks c).Q) : together x y = true := by
  unfold Tb.apply at hxo hyo
  split at hxo
  · unfold Tb.mount at hxo
    split at hxo
    · exact absurd hxo hxn
    · split at hxo <;> exact absurd hxo hxn
  · rename_i hk0
    rw [if_neg hk0] at hyo
    split at hxo
    · rename_i hk1
      rw [if_pos hk1] at hyo
      unfold Tb.leave at hxo hyo
      split at hxo
      · rename_i q hq
        rw [hq] at hyo
        obtain ⟨_, s, hs, _⟩ := slot_some hq
        exact clear_queues hok hs hki hx hy hxo hxn hyo
      · exact absurd hxo hxn
    · rename_i hk1
      rw [if_neg hk1] at hyo
      split at hxo
      · rename_i hk2
        rw [if_pos hk2] at hyo
        unfold Tb.ask at hxo hyo
        split at hxo
        · rename_i ha
          rw [if_pos ha] at hyo
          have hpre : TbPre n blocks ⟨t.S, t.H, t.Q ++ [⟨c.by_, c.lo, c.hi, c.mode⟩]⟩ := by
            have h1 := (hok.ask ⟨c.by_, c.lo, c.hi, c.mode⟩).toTbPre
            rw [Tb.ask, if_pos ha] at h1
            have hp := grant_perm (t.Q ++ [⟨c.by_, c.lo, c.hi, c.mode⟩]) t.H []
            rw [List.append_nil] at hp
            exact ⟨h1.n, h1.slots, hok.all, fun y hy => h1.mem y (hp.mem_iff.2 hy), pairwise_perm hp.symm h1.apart, fun key => by have := h1.few key; rw [ownN_perm hp.symm]; exact this⟩
          exact grant_ahead hok.toTbPre hpre (fun x hx => hx) (fun a b hs _ _ => hs.trans (List.sublist_append_left _ _)) hki hx hy hxo hxn hyo
        · exact absurd hxo hxn
      · rename_i hk2
        rw [if_neg hk2] at hyo
        split at hxo
        · rename_i hk3
          rw [if_pos hk3] at hyo
          unfold Tb.free at hxo hyo
          split at hxo
          · rename_i q hq
            rw [hq] at hyo
            exact grant_ahead hok.toTbPre (hok.toTbPre.sub (erase_sub _ _) (List.Sublist.refl _)) (fun x hx => (erase_sub t.H q).subset hx) (fun a b hs _ _ => hs) hki hx hy hxo hxn hyo
          · rename_i hq
            rw [hq] at hyo
            dsimp only at hyo
            split at hxo
            · rename_i q hq2
              rw [hq2] at hyo
              exact grant_ahead hok.toTbPre (hok.toTbPre.sub (List.Sublist.refl _) (erase_sub _ _)) (fun x hx => hx) (sub_ahead hok.toTbPre (erase_sub _ _)) hki hx hy hxo hxn hyo
            · exact absurd hxo hxn
        · rename_i hk3
          rw [if_neg hk3] at hyo
          split at hxo
          · unfold Tb.claim at hxo
            split at hxo
            · split at hxo <;> exact absurd hxo hxn
            · exact absurd hxo hxn
          · rename_i hk4
            rw [if_neg hk4] at hyo
            split at hxo
            · rename_i hk5
              rw [if_pos hk5] at hyo
              unfold Tb.purge at hxo hyo
              split at hxo
              · rename_i q hq
                rw [hq] at hyo
                dsimp only at hyo
                obtain ⟨_, s, hs, _⟩ := slot_some hq
                split at hxo
                · rename_i hc
                  rw [if_pos hc] at hyo
                  exact clear_queues hok hs hki hx hy hxo hxn hyo
                · exact absurd hxo hxn
              · exact absurd hxo hxn
            · exact absurd hxo hxn
end Go.Proofs.Ytiapfhcimekdkaa

/- THE LAW TableQueues: nobody of the queue passes another that it does not go together with. -/
set_option linter.unusedVariables false
set_option linter.unusedSimpArgs false
set_option maxRecDepth 100000
namespace Go.Proofs.Ytiapfhcimekdkaa
open Go Go.Eng Go.RowKit

theorem tableQueues_law (w : World) {v0 v1 v2 : Value} (R0 : ∃ g : Geo, v0 = g.val ∧ g.Ok) (R1 : ∃ l : List Cmd, SlOf (vw w) Cmd.cells 8 v1 l ∧ l.length ≤ maxLen ∧ ∀ a ∈ l, Cmd.Ok a) (R2 : ∃ c : Cmd, v2 = c.val ∧ c.Ok) :
    Calls Try.prog 4 #[v0, v1, v2] w fun e w' => e = .returned (.bool true) ∧ Below w.heap.size w w' := by
  obtain ⟨g, rfl, ok⟩ := R0
  obtain ⟨l, hs, hn, hlok⟩ := R1
  obtain ⟨cc, rfl, ccok⟩ := R2
  obtain ⟨a0, n0, c0, rfl⟩ := sl_shape hs.sl
  simp only [maxLen] at hn
  have hcck := ccok.kind
  refine enter (E := E0) (O := []) (nl := 0) (V := vw w) [.a (.v g.val), .a (.v (.slice a0 n0 c0)), .a (.v cc.val)] Try.func4 rfl rfl (mem0 E0 0 w) rfl rfl ?_
  refine c_seq ?_
  refine c_region ?_
  refine o_new tok rfl rfl rfl rfl ?_
  refine o_new tok rfl rfl rfl rfl ?_
  refine o_yield rfl rfl rfl (y_val tok rfl) ?_
  refine o_end [1, 3, 5] rfl ?_
  refine x_then ?_
  refine c_seq ?_
  refine c_seq ?_
  refine c_region ?_
  refine o_yield rfl rfl rfl (y_val tok rfl) ?_
  refine o_yield rfl rfl rfl (y_len tok rfl (fun hg => hs.sl)) ?_
  refine o_yield rfl rfl rfl (y_val tok rfl) ?_
  refine o_yield rfl rfl rfl (y_val tok rfl) ?_
  refine o_yield rfl rfl rfl (y_val tok rfl) ?_
  refine o_yield rfl rfl rfl (y_val tok rfl) ?_
  refine o_yield rfl rfl rfl (y_val tok rfl) ?_
  refine o_yield rfl rfl rfl (y_val tok rfl) ?_
  refine o_yield rfl rfl rfl (y_val tok rfl) ?_
  refine o_yield rfl rfl rfl (y_val tok rfl) ?_
  refine o_yield rfl rfl rfl (y_val tok rfl) ?_
  refine o_yield rfl rfl rfl (y_val tok rfl) ?_
  refine o_yield rfl rfl rfl (y_val tok rfl) ?_
  refine o_yield rfl rfl rfl (y_val tok rfl) ?_
  refine o_yield rfl rfl rfl (y_val tok rfl) ?_
  refine o_yield rfl rfl rfl (y_val tok rfl) ?_
  refine o_yield rfl rfl rfl (y_val tok rfl) ?_
  refine o_yield rfl rfl rfl (y_val tok rfl) ?_
  refine o_yield rfl rfl rfl (y_val tok rfl) ?_
  refine o_yield rfl rfl rfl (y_val tok rfl) ?_
  refine o_yield rfl rfl rfl (y_val tok rfl) ?_
  refine o_yield rfl rfl rfl (y_val tok rfl) ?_
  refine o_yield rfl rfl rfl (y_val tok rfl) ?_
  refine o_yield rfl rfl rfl (y_val tok rfl) ?_
  refine o_yield rfl rfl rfl (y_val tok rfl) ?_
  refine o_call (.a (.v _)) rfl rfl fnok13 rfl rfl rfl (fun hg E w1 hm => by exact refCmdMay_c cc _) ?_
  refine o_yield rfl rfl rfl (y_val tok rfl) ?_
  refine o_yield rfl rfl rfl (y_val tok rfl) ?_
  refine o_end [1, 3, 5, 39] rfl ?_
  refine x_then ?_
  refine c_cond rfl (fun h => ?_) (fun h => ?_)
  ·
    simp only [Bool.and_eq_true, Bool.or_eq_true, Bool.not_eq_true', Bool.or_eq_false_iff, Bool.and_eq_false_iff, decide_eq_true_eq, decide_eq_false_iff_not, beq_iff_eq, bne_iff_ne, Bool.not_eq_false', beq_eq_false_iff_ne, bne_eq_false_iff_eq, ne_eq, Decidable.not_not, Int.not_lt, Int.not_le] at h
    refine c_seq ?_
    refine c_region ?_
    refine o_call (.a (.v _)) rfl rfl fnok11 rfl rfl rfl (fun hg E w1 hm => by exact wakes11_c _) ?_
    refine o_yield rfl rfl rfl (y_val tok rfl) ?_
    refine o_end [6] rfl ?_
    refine x_then ?_
    refine c_ret ?_
    refine x_then_ret ?_
    refine b_ret tok rfl ?_
    intro E w' hm _
    refine ⟨?_, hm.below (Vw.le.refl _)⟩
    rfl
  ·
    simp only [Bool.and_eq_true, Bool.or_eq_true, Bool.not_eq_true', Bool.or_eq_false_iff, Bool.and_eq_false_iff, decide_eq_true_eq, decide_eq_false_iff_not, beq_iff_eq, bne_iff_ne, Bool.not_eq_false', beq_eq_false_iff_ne, bne_eq_false_iff_eq, ne_eq, Decidable.not_not, Int.not_lt, Int.not_le] at h
    obtain ⟨⟨⟨⟨⟨h1, h2⟩, h3⟩, h4⟩, h5⟩, h6⟩ := h
    refine c_skip ?_
    refine x_then ?_
    refine c_seq ?_
    refine c_region ?_
    refine o_yield rfl rfl rfl (y_val tok rfl) ?_
    refine o_callV (fun v V' => TbIs V' v (newT g.slots)) rfl rfl fnok12 rfl rfl (fun hg E w1 hm => by exact new_c (vw w) g _ hm.leV) ?_
    rintro v1 W1 hle1 hv1
    have hT1 := hv1 rfl
    obtain ⟨d1, m1, e1, d2, m2, e2, d3, m3, e3, rfl, _⟩ := id hT1
    refine o_new tok rfl rfl rfl rfl ?_
    refine o_store tok rfl rfl rfl (by first | exact ⟨trivial, trivial⟩ | (repeat' first | exact trivial | exact rfl | apply And.intro); done | simp [onesP, oneP, lk, Value.oneCell']) ?_
    refine o_end [1, 3, 5, 7] rfl ?_
    refine x_then ?_
    refine c_seq ?_
    refine c_seq ?_
    refine c_region ?_
    refine o_yield rfl rfl rfl (y_val tok rfl) ?_
    refine o_end [1, 3, 5, 7, 8] rfl ?_
    refine x_then ?_
    refine c_block ?_
    refine c_loopV [1, 3, 5, 7] [2] rfl rfl (σ := Nat × Value × Value × Value × Tb × Vw) (fun (i, s, u, q, t, W) => [(8, .a (.v (I i)))]) (fun (i, s, u, q, t, W) => [(2, .lit [.v s, .v u, .v q] 29)]) (fun (i, s, u, q, t, W) => W) (fun (i, s, u, q, t, W) => (i ≤ l.length ∧ t.H.length + t.Q.length ≤ i) ∧ (vw w).le W ∧ TbIs W (.agg #[s, u, q]) t ∧ TbOk g.slots g.blocks t) (fun (i, s, u, q, t, W) => l.length - i) ((0, _, _, _, newT g.slots, W1)) (⟨⟨by omega, Nat.le_refl _⟩, hle1, hT1, new_ok h2 h3⟩) (by repeat (first | exact SubF.nil | refine SubF.cons rfl ?_)) (by repeat (first | exact SubO.nil | refine SubO.cons rfl ?_)) rfl (Vw.le.refl _) ?_
    rintro ⟨i, s, u, q, t, W⟩ ⟨⟨hi, hsum⟩, hle, hT, hok⟩
    dsimp only at hi hsum hle hT hok ⊢
    have hs' := hs.mono hle
    have hfit := hok.fitS h3 (by omega)
    refine c_seq ?_
    refine c_seq ?_
    refine c_region ?_
    refine o_yield rfl rfl rfl (y_val tok rfl) ?_
    refine o_yield rfl rfl rfl (y_val tok rfl) ?_
    refine o_yield rfl rfl rfl (y_len tok rfl (fun hg => hs'.sl)) ?_
    refine o_yield rfl rfl rfl (y_val tok rfl) ?_
    refine o_end [1, 3, 5, 7, 8, 46] rfl ?_
    refine x_then ?_
    refine c_cond rfl (fun h => ?_) (fun h => ?_)
    ·
      simp only [Bool.and_eq_true, Bool.or_eq_true, Bool.not_eq_true', Bool.or_eq_false_iff, Bool.and_eq_false_iff, decide_eq_true_eq, decide_eq_false_iff_not, beq_iff_eq, bne_iff_ne, Bool.not_eq_false', beq_eq_false_iff_ne, bne_eq_false_iff_eq, ne_eq, Decidable.not_not, Int.not_lt, Int.not_le] at h
      refine c_skip ?_
      refine x_then ?_
      refine c_seq ?_
      refine c_block ?_
      refine c_seq ?_
      refine c_region ?_
      refine o_yield rfl rfl rfl (y_val tok rfl) ?_
      refine o_yield rfl rfl rfl (y_val tok rfl) ?_
      obtain ⟨c, h_c⟩ := hs'.at (k := i) (by omega)
      have hlt_c := lt_of_at h_c
      refine o_yield rfl rfl rfl (y_idx tok rfl (fun hg => hs'.sl) (fun hg => ⟨by omega, by omega⟩)) ?_
      refine o_yield rfl rfl rfl (y_lel tok (i) 0 (c) rfl (fun hg => hs') (fun hg => h_c) rfl rfl) ?_
      have hck := (hlok c (List.mem_of_getElem? h_c)).kind
      have hwi : IntKind.i64.wrap ((i : Int) + 1) = ((i + 1 : Nat) : Int) := wrapI (by omega) (by omega)
      refine o_call (.a (.v _)) rfl rfl fnok13 rfl rfl rfl (fun hg E w1 hm => by exact refCmdMay_c c _) ?_
      refine o_end [1, 3, 5, 7, 8, 53] rfl ?_
      refine x_then ?_
      refine c_cond rfl (fun h => ?_) (fun h => ?_)
      ·
        have hcm : cmdB c = true := h
        clear h
        have hok2 := hok.apply (c := c) (cmdB_key hcm)
        have hsum2 := apply_sum g.blocks t c
        refine c_heldS [7] mixed rfl (by repeat (first | exact SubO.nil | refine SubO.cons rfl ?_)) (by first | rfl | simp [okCels, allOk_plain]) ?_
        refine t_takeD 0 rfl (by kernel_rfl) rfl rfl rfl (y_val tok rfl) rfl ?_
        refine t_takeD 1 rfl (by kernel_rfl) rfl rfl rfl (y_val tok rfl) rfl ?_
        refine t_takeD 2 rfl (by kernel_rfl) rfl rfl rfl (y_val tok rfl) rfl ?_
        refine t_takeD 3 rfl (by kernel_rfl) rfl rfl rfl (y_val tok rfl) rfl ?_
        have hlt_c := lt_of_at h_c
        refine t_takeD 4 rfl (by kernel_rfl) rfl rfl rfl (y_idx tok rfl (fun hg => hs'.sl) (fun hg => ⟨by omega, by omega⟩)) rfl ?_
        refine t_takeD 5 rfl (by kernel_rfl) rfl rfl rfl (y_lel tok (i) 0 (c) rfl (fun hg => hs') (fun hg => h_c) rfl rfl) rfl ?_
        refine t_go ?_
        refine h_one 6 (by kernel_rfl) ?_
        refine h_callV 6 (fun v V' => TbIs V' v (t.apply g.blocks c)) rfl rfl rfl fnok14 rfl rfl (fun hg E w1 hm => by exact apply_c W g _ t hfit.1 hfit.2 c hck _ hm.leV hT) ?_
        rintro v2 W2 hle2 hv2
        have hT2 := hv2 rfl
        obtain ⟨x1, y1, z1, x2, y2, z2, x3, y3, z3, rfl, _, k2, _⟩ := id hT2
        refine h_one 7 (by kernel_rfl) ?_
        refine h_store 7 tok rfl rfl rfl rfl (by first | exact ⟨trivial, trivial⟩ | (repeat' first | exact trivial | exact rfl | apply And.intro); done | simp [onesP, oneP, lk, Value.oneCell']) (.inl rfl) ?_
        refine h_done [1, 3, 5, 7, 8] (by kernel_rfl) rfl ?_
        refine x_block ?_
        refine x_then ?_
        refine c_region ?_
        refine o_yield rfl rfl rfl (y_val tok rfl) ?_
        refine o_yield rfl rfl rfl (y_val tok rfl) ?_
        refine o_yield rfl rfl rfl (y_val tok rfl) ?_
        refine o_end [1, 3, 5, 7, 8] rfl ?_
        refine x_then ?_
        rw [hwi]
        refine x_round ((i + 1, _, _, _, t.apply g.blocks c, W2)) (⟨⟨by dsimp only; omega, by dsimp only; omega⟩, hle.trans hle2, hT2, hok2⟩) (by first | omega | (dsimp only; omega)) (by repeat (first | exact SubF.nil | refine SubF.cons rfl ?_)) (by repeat (first | exact SubO.nil | refine SubO.cons rfl ?_)) rfl (Vw.le.refl _)
      ·
        refine c_skip ?_
        refine x_block ?_
        refine x_then ?_
        refine c_region ?_
        refine o_yield rfl rfl rfl (y_val tok rfl) ?_
        refine o_yield rfl rfl rfl (y_val tok rfl) ?_
        refine o_yield rfl rfl rfl (y_val tok rfl) ?_
        refine o_end [1, 3, 5, 7, 8] rfl ?_
        refine x_then ?_
        rw [hwi]
        refine x_round ((i + 1, s, u, q, t, W)) (⟨⟨by dsimp only; omega, by dsimp only; omega⟩, hle, hT, hok⟩) (by first | omega | (dsimp only; omega)) (by repeat (first | exact SubF.nil | refine SubF.cons rfl ?_)) (by repeat (first | exact SubO.nil | refine SubO.cons rfl ?_)) rfl (Vw.le.refl _)
    ·
      simp only [Bool.and_eq_true, Bool.or_eq_true, Bool.not_eq_true', Bool.or_eq_false_iff, Bool.and_eq_false_iff, decide_eq_true_eq, decide_eq_false_iff_not, beq_iff_eq, bne_iff_ne, Bool.not_eq_false', beq_eq_false_iff_ne, bne_eq_false_iff_eq, ne_eq, Decidable.not_not, Int.not_lt, Int.not_le] at h
      clear h
      have hsum2 := apply_sum g.blocks t cc
      have hqu := fun {i k : Nat} {x y : Hold} (hki : k < i) (hx : t.Q[i]? = some x) (hy : t.Q[k]? = some y) => apply_queues hok cc hki hx hy
      obtain ⟨xa, xb, xc, xd, xe, xf, xg, xh, xi, hv, tS, tH, tQ⟩ := id hT
      simp only [Value.agg.injEq, Array.mk.injEq, List.cons.injEq, and_true] at hv
      obtain ⟨rfl, rfl, rfl⟩ := hv
      have happ := fun w1 hw1 => apply_c W g _ t hfit.1 hfit.2 cc hcck w1 hw1 hT
      obtain ⟨o, ho⟩ : ∃ o, o = t.apply g.blocks cc := ⟨_, rfl⟩
      rw [← ho] at hsum2 hqu happ
      refine c_exit ?_
      refine x_then_exit ?_
      refine x_then_exit ?_
      refine x_block_hit ?_
      refine x_then ?_
      refine c_seq ?_
      refine c_region ?_
      refine o_yield rfl rfl rfl (y_val tok rfl) ?_
      refine o_yield rfl rfl rfl (y_val tok rfl) ?_
      refine o_yield rfl rfl rfl (y_val tok rfl) ?_
      refine o_callV (fun v V' => TbIs V' v o) rfl rfl fnok14 rfl rfl (fun hg E w1 hm => by exact happ _ hm.leV) ?_
      rintro v2 W2 hle2 hv2
      obtain ⟨x1, y1, z1, x2, y2, z2, x3, y3, z3, rfl, oS, oH, oQ⟩ := hv2 rfl
      have hlim : lim = 4398046511104 := rfl
      have hQ := tQ.mono hle2
      have hH := tH.mono hle2
      refine o_new tok rfl rfl rfl rfl ?_
      refine o_store tok rfl rfl rfl (by first | exact ⟨trivial, trivial⟩ | (repeat' first | exact trivial | exact rfl | apply And.intro); done | simp [onesP, oneP, lk, Value.oneCell']) ?_
      refine o_end [7, 9] rfl ?_
      refine x_then ?_
      refine c_seq ?_
      refine c_seq ?_
      refine c_region ?_
      refine o_yield rfl rfl rfl (y_val tok rfl) ?_
      refine o_end [7, 9, 10] rfl ?_
      refine x_then ?_
      refine c_block ?_
      refine c_loopK [7, 9] [] rfl rfl (σ := Nat) (fun i => [(10, .a (.v (I i)))]) (fun i => []) (fun i => i ≤ t.Q.length) (fun i => t.Q.length - i) (0) (by omega) (by repeat (first | exact SubF.nil | refine SubF.cons rfl ?_)) (by repeat (first | exact SubO.nil | refine SubO.cons rfl ?_)) rfl ?_
      rintro j hj
      refine c_seq ?_
      refine c_seq ?_
      refine c_region ?_
      refine o_yield rfl rfl rfl (y_val tok rfl) ?_
      refine o_yield rfl rfl rfl (y_val tok rfl) ?_
      refine o_yield rfl rfl rfl (y_val tok rfl) ?_
      refine o_yield rfl rfl rfl (y_len tok rfl (fun hg => hQ.sl)) ?_
      refine o_yield rfl rfl rfl (y_val tok rfl) ?_
      refine o_end [7, 9, 10, 69] rfl ?_
      refine x_then ?_
      refine c_cond rfl (fun h => ?_) (fun h => ?_)
      ·
        simp only [Bool.and_eq_true, Bool.or_eq_true, Bool.not_eq_true', Bool.or_eq_false_iff, Bool.and_eq_false_iff, decide_eq_true_eq, decide_eq_false_iff_not, beq_iff_eq, bne_iff_ne, Bool.not_eq_false', beq_eq_false_iff_ne, bne_eq_false_iff_eq, ne_eq, Decidable.not_not, Int.not_lt, Int.not_le] at h
        refine c_skip ?_
        refine x_then ?_
        refine c_seq ?_
        refine c_block ?_
        refine c_seq ?_
        refine c_seq ?_
        refine c_draw mixed (by kernel_rfl) ?_
        refine d_yield rfl rfl rfl (y_val tok rfl) rfl ?_
        refine d_yield rfl rfl rfl (y_val tok rfl) rfl ?_
        refine d_yield rfl rfl rfl (y_val tok rfl) rfl ?_
        refine d_yield rfl rfl rfl (y_val tok rfl) rfl ?_
        refine d_yield rfl rfl rfl (y_val tok rfl) rfl ?_
        obtain ⟨x, h_x⟩ := hQ.at (k := j) (by omega)
        have hlt_x := lt_of_at h_x
        refine d_yield rfl rfl rfl (y_idx tok rfl (fun hg => hQ.sl) (fun hg => ⟨by omega, by omega⟩)) rfl ?_
        refine d_yield rfl rfl rfl (y_lel tok (j) 0 (x) rfl (fun hg => hQ) (fun hg => h_x) rfl rfl) rfl ?_
        have hwj : IntKind.i64.wrap ((j : Int) + 1) = ((j + 1 : Nat) : Int) := wrapI (by omega) (by omega)
        refine d_call (.a (.v _)) rfl rfl fnok18 rfl rfl rfl (fun hg E w1 hm => by exact has11_c (vw w1) _ o.H x _ (Vw.le.refl _) (oH.mono hm.leV) (by omega)) ?_
        refine d_yield rfl rfl rfl (y_val tok rfl) rfl ?_
        refine d_yield rfl rfl rfl (y_val tok rfl) rfl ?_
        refine d_yield rfl rfl rfl (y_val tok rfl) rfl ?_
        refine d_yield rfl rfl rfl (y_val tok rfl) rfl ?_
        refine d_yield rfl rfl rfl (y_val tok rfl) rfl ?_
        refine d_yield rfl rfl rfl (y_val tok rfl) rfl ?_
        refine d_yield rfl rfl rfl (y_val tok rfl) rfl ?_
        have hlt_x := lt_of_at h_x
        refine d_yield rfl rfl rfl (y_idx tok rfl (fun hg => hQ.sl) (fun hg => ⟨by omega, by omega⟩)) rfl ?_
        refine d_yield rfl rfl rfl (y_lel tok (j) 0 (x) rfl (fun hg => hQ) (fun hg => h_x) rfl rfl) rfl ?_
        refine d_call (.a (.v _)) rfl rfl fnok18 rfl rfl rfl (fun hg E w1 hm => by exact has11_c (vw w1) _ t.H x _ (Vw.le.refl _) (hH.mono hm.leV) (by omega)) ?_
        refine d_yield rfl rfl rfl (y_val tok rfl) rfl ?_
        refine d_end [7, 9, 10, 90] rfl ?_
        refine x_then ?_
        refine c_cond rfl (fun h => ?_) (fun h => ?_)
        ·
          refine c_exit ?_
          refine x_then_exit ?_
          refine x_block_hit ?_
          refine x_then ?_
          refine c_region ?_
          refine o_yield rfl rfl rfl (y_val tok rfl) ?_
          refine o_yield rfl rfl rfl (y_val tok rfl) ?_
          refine o_yield rfl rfl rfl (y_val tok rfl) ?_
          refine o_end [7, 9, 10] rfl ?_
          refine x_then ?_
          rw [hwj]
          refine x_round (j + 1) (by omega) (by first | omega | (dsimp only; omega)) (by repeat (first | exact SubF.nil | refine SubF.cons rfl ?_)) (by repeat (first | exact SubO.nil | refine SubO.cons rfl ?_)) rfl (Vw.le.refl _)
        ·
          simp only [Bool.or_eq_false_iff, Bool.not_eq_false'] at h
          obtain ⟨e1, e2⟩ := h
          have hxo : x ∈ o.H := hasH_iff.1 e1
          have hxn : x ∉ t.H := fun hm => by rw [hasH_iff.2 hm] at e2; cases e2
          refine c_skip ?_
          refine x_then ?_
          refine c_seq ?_
          refine c_region ?_
          refine o_yield rfl rfl rfl (y_val tok rfl) ?_
          refine o_end [7, 9, 10, 11] rfl ?_
          refine x_then ?_
          refine c_block ?_
          refine c_loopK [7, 9, 10] [] rfl rfl (σ := Nat) (fun k => [(11, .a (.v (I k)))]) (fun k => []) (fun k => k ≤ j) (fun k => j - k) (0) (by omega) (by repeat (first | exact SubF.nil | refine SubF.cons rfl ?_)) (by repeat (first | exact SubO.nil | refine SubO.cons rfl ?_)) rfl ?_
          rintro k hk
          refine c_seq ?_
          refine c_seq ?_
          refine c_region ?_
          refine o_yield rfl rfl rfl (y_val tok rfl) ?_
          refine o_yield rfl rfl rfl (y_val tok rfl) ?_
          refine o_yield rfl rfl rfl (y_val tok rfl) ?_
          refine o_end [7, 9, 10, 11, 93] rfl ?_
          refine x_then ?_
          refine c_cond rfl (fun h => ?_) (fun h => ?_)
          ·
            simp only [Bool.and_eq_true, Bool.or_eq_true, Bool.not_eq_true', Bool.or_eq_false_iff, Bool.and_eq_false_iff, decide_eq_true_eq, decide_eq_false_iff_not, beq_iff_eq, bne_iff_ne, Bool.not_eq_false', beq_eq_false_iff_ne, bne_eq_false_iff_eq, ne_eq, Decidable.not_not, Int.not_lt, Int.not_le] at h
            refine c_skip ?_
            refine x_then ?_
            refine c_seq ?_
            refine c_block ?_
            refine c_seq ?_
            refine c_draw mixed (by kernel_rfl) ?_
            refine d_yield rfl rfl rfl (y_val tok rfl) rfl ?_
            refine d_yield rfl rfl rfl (y_val tok rfl) rfl ?_
            refine d_yield rfl rfl rfl (y_val tok rfl) rfl ?_
            refine d_yield rfl rfl rfl (y_val tok rfl) rfl ?_
            refine d_yield rfl rfl rfl (y_val tok rfl) rfl ?_
            have hlt3 : k < t.Q.length := by omega
            obtain ⟨y, h_y⟩ := hQ.at (k := k) (by omega)
            have hlt_y := lt_of_at h_y
            refine d_yield rfl rfl rfl (y_idx tok rfl (fun hg => hQ.sl) (fun hg => ⟨by omega, by omega⟩)) rfl ?_
            refine d_yield rfl rfl rfl (y_lel tok (k) 0 (y) rfl (fun hg => hQ) (fun hg => h_y) rfl rfl) rfl ?_
            refine d_call (.a (.v _)) rfl rfl fnok18 rfl rfl rfl (fun hg E w1 hm => by exact has11_c (vw w1) _ o.Q y _ (Vw.le.refl _) (oQ.mono hm.leV) (by omega)) ?_
            refine d_yield rfl rfl rfl (y_val tok rfl) rfl ?_
            refine d_yield rfl rfl rfl (y_val tok rfl) rfl ?_
            refine d_yield rfl rfl rfl (y_val tok rfl) rfl ?_
            refine d_yield rfl rfl rfl (y_val tok rfl) rfl ?_
            have hlt_x := lt_of_at h_x
            refine d_yield rfl rfl rfl (y_idx tok rfl (fun hg => hQ.sl) (fun hg => ⟨by omega, by omega⟩)) rfl ?_
            refine d_yield rfl rfl rfl (y_lel tok (j) 0 (x) rfl (fun hg => hQ) (fun hg => h_x) rfl rfl) rfl ?_
            refine d_yield rfl rfl rfl (y_val tok rfl) rfl ?_
            refine d_yield rfl rfl rfl (y_val tok rfl) rfl ?_
            refine d_yield rfl rfl rfl (y_val tok rfl) rfl ?_
            have hlt_y := lt_of_at h_y
            refine d_yield rfl rfl rfl (y_idx tok rfl (fun hg => hQ.sl) (fun hg => ⟨by omega, by omega⟩)) rfl ?_
            refine d_yield rfl rfl rfl (y_lel tok (k) 0 (y) rfl (fun hg => hQ) (fun hg => h_y) rfl rfl) rfl ?_
            refine d_call (.a (.v _)) rfl rfl fnok19 rfl rfl rfl (fun hg E w1 hm => by exact spRtogether_c x y _) ?_
            refine d_yield rfl rfl rfl (y_val tok rfl) rfl ?_
            refine d_yield rfl rfl rfl (y_val tok rfl) rfl ?_
            refine d_end [7, 9, 10, 11, 117] rfl ?_
            refine x_then ?_
            refine c_cond rfl (fun h => ?_) (fun h => ?_)
            ·
              refine c_seq ?_
              refine c_region ?_
              refine o_yield rfl rfl rfl (y_val tok rfl) ?_
              refine o_end [6] rfl ?_
              refine x_then ?_
              refine c_ret ?_
              refine x_block_ret ?_
              refine x_then_ret ?_
              refine x_then_ret ?_
              refine x_block_ret ?_
              refine x_block_ret ?_
              refine x_then_ret ?_
              refine x_then_ret ?_
              refine x_block_ret ?_
              refine x_then_ret ?_
              refine b_ret tok rfl ?_
              exfalso
              simp only [Bool.and_eq_true, Bool.not_eq_true'] at h
              have := hqu (by omega) h_x h_y hxo hxn (hasH_iff.1 h.1)
              rw [this] at h
              exact absurd h.2 (by simp)
            ·
              refine c_skip ?_
              refine x_block ?_
              refine x_then ?_
              refine c_region ?_
              refine o_yield rfl rfl rfl (y_val tok rfl) ?_
              refine o_yield rfl rfl rfl (y_val tok rfl) ?_
              refine o_yield rfl rfl rfl (y_val tok rfl) ?_
              refine o_end [7, 9, 10, 11] rfl ?_
              refine x_then ?_
              rw [wrapI (by omega) (by omega)]
              refine x_round (k + 1) (by omega) (by first | omega | (dsimp only; omega)) (by repeat (first | exact SubF.nil | refine SubF.cons rfl ?_)) (by repeat (first | exact SubO.nil | refine SubO.cons rfl ?_)) rfl (Vw.le.refl _)
          ·
            simp only [Bool.and_eq_true, Bool.or_eq_true, Bool.not_eq_true', Bool.or_eq_false_iff, Bool.and_eq_false_iff, decide_eq_true_eq, decide_eq_false_iff_not, beq_iff_eq, bne_iff_ne, Bool.not_eq_false', beq_eq_false_iff_ne, bne_eq_false_iff_eq, ne_eq, Decidable.not_not, Int.not_lt, Int.not_le] at h
            refine c_exit ?_
            refine x_then_exit ?_
            refine x_then_exit ?_
            refine x_block_hit ?_
            refine x_block ?_
            refine x_then ?_
            refine c_region ?_
            refine o_yield rfl rfl rfl (y_val tok rfl) ?_
            refine o_yield rfl rfl rfl (y_val tok rfl) ?_
            refine o_yield rfl rfl rfl (y_val tok rfl) ?_
            refine o_end [7, 9, 10] rfl ?_
            refine x_then ?_
            rw [hwj]
            refine x_round (j + 1) (by omega) (by first | omega | (dsimp only; omega)) (by repeat (first | exact SubF.nil | refine SubF.cons rfl ?_)) (by repeat (first | exact SubO.nil | refine SubO.cons rfl ?_)) rfl (Vw.le.refl _)
      ·
        simp only [Bool.and_eq_true, Bool.or_eq_true, Bool.not_eq_true', Bool.or_eq_false_iff, Bool.and_eq_false_iff, decide_eq_true_eq, decide_eq_false_iff_not, beq_iff_eq, bne_iff_ne, Bool.not_eq_false', beq_eq_false_iff_ne, bne_eq_false_iff_eq, ne_eq, Decidable.not_not, Int.not_lt, Int.not_le] at h
        refine c_exit ?_
        refine x_then_exit ?_
        refine x_then_exit ?_
        refine x_block_hit ?_
        refine x_then ?_
        refine c_seq ?_
        refine c_region ?_
        refine o_call (.a (.v _)) rfl rfl fnok11 rfl rfl rfl (fun hg E w1 hm => by exact wakes11_c _) ?_
        refine o_yield rfl rfl rfl (y_val tok rfl) ?_
        refine o_end [6] rfl ?_
        refine x_then ?_
        refine c_ret ?_
        refine b_ret tok rfl ?_
        intro E w' hm _
        refine ⟨?_, hm.below (hle.trans hle2)⟩
        rfl
end Go.Proofs.Ytiapfhcimekdkaa

/- THE LAW TableOthers: a command of a key takes away no hold of another key, unless it purges that key. -/
set_option linter.unusedVariables false
set_option linter.unusedSimpArgs false
set_option maxRecDepth 100000
namespace Go.Proofs.Ytiapfhcimekdkaa
open Go Go.Eng Go.RowKit

/-- What a command leaves of other keys. -/
structure Others (gone : Int) (t o : Tb) : Prop where
  n : o.S.length = t.S.length
  h : ∀ x ∈ t.H, x.key ≠ gone → x ∈ o.H
  q : ∀ x ∈ t.Q, x.key ≠ gone → x ∈ o.H ∨ x ∈ o.Q
  s : ∀ (i : Nat) (x : Slot), t.S[i]? = some x → x.key ≠ 0 → x.key ≠ gone → ∃ y, o.S[i]? = some y ∧ y.key = x.key

theorem Others.refl (gone : Int) (t : Tb) : Others gone t t := ⟨rfl, fun x hx _ => hx, fun x hx _ => .inr hx, fun i x hx _ _ => ⟨x, hx, rfl⟩⟩

theorem Others.grant {gone : Int} {t o : Tb} (h : Others gone t o) : Others gone t o.grant := by
  have hp := grant_perm o.Q o.H []
  rw [List.append_nil] at hp
  have hm : ∀ x, x ∈ o.H ∨ x ∈ o.Q → x ∈ o.grant.H ∨ x ∈ o.grant.Q := fun x hx => List.mem_append.1 (hp.mem_iff.2 (List.mem_append.2 hx))
  exact ⟨h.n, fun x hx hk => grant_keepsH _ _ _ (h.h x hx hk), fun x hx hk => hm x (h.q x hx hk), h.s⟩

theorem others_clear (t : Tb) {k : Nat} {x : Slot} (hx : t.S[k]? = some x) : Others x.key t (t.clear k) := by
  refine Others.grant ⟨by simp, fun y hy hk => List.mem_filter.2 ⟨hy, by rw [slotKey_at hx]; simpa using hk⟩, fun y hy hk => .inr (List.mem_filter.2 ⟨hy, by rw [slotKey_at hx]; simpa using hk⟩), fun i y hy _ hk => ?_⟩
  have hne : k ≠ i := fun e => by subst e; rw [hx] at hy; cases hy; exact hk rfl
  exact ⟨y, by dsimp only; rw [List.getElem?_set, if_neg hne]; exact hy, rfl⟩

theorem erase_mem {l : List Hold} {pr : Hold → Bool} {i : Nat} (h : l.findIdx? pr = some i) {x : Hold} (hx : x ∈ l) (hp : pr x = false) : x ∈ l.take i ++ l.drop (i + 1) := by
  rcases findIdx_cases pr l with ⟨h1, _⟩ | ⟨k, y, h1, hy, hpy, _⟩
  · rw [h1] at h; cases h
  · rw [h1] at h
    cases h
    obtain ⟨j, hj⟩ := List.mem_iff_getElem?.1 hx
    rw [List.mem_append]
    rcases Nat.lt_trichotomy j i with hji | hji | hji
    · exact .inl (List.mem_iff_getElem?.2 ⟨j, by rw [List.getElem?_take, if_pos hji]; exact hj⟩)
    · subst hji
      rw [hy] at hj
      cases hj
      rw [hpy] at hp
      cases hp
    · exact .inr (List.mem_iff_getElem?.2 ⟨j - (i + 1), by rw [List.getElem?_drop, show i + 1 + (j - (i + 1)) = j by omega]; exact hj⟩)

theorem justB_other {key lo hi : Int} {x : Hold} (h : x.key ≠ key) : justB key lo hi x = false := by
  simp [justB, h]

theorem apply_others (blocks : Int) (t : Tb) (c : Cmd) {gone : Int} (h5 : c.kind = 5 → gone = c.dead) (hn5 : c.kind ≠ 5 → gone = c.by_) : Others gone t (t.apply blocks c) := by
  unfold Tb.apply
  split
  · rename_i hk
    unfold Tb.mount
    split
    · exact Others.refl _ _
    · split
      · exact Others.refl _ _
      · rename_i k hq
        refine ⟨by simp, fun x hx _ => hx, fun x hx _ => .inr hx, fun i x hx h0 _ => ?_⟩
        rcases findIdx_cases (fun x : Slot => x.key == 0) t.S with ⟨h1, _⟩ | ⟨k', y, h1, hy, hpy, _⟩
        · rw [h1] at hq; cases hq
        · rw [h1] at hq
          cases hq
          have hne : k ≠ i := fun e => by subst e; rw [hy] at hx; cases hx; exact h0 (by simpa using hpy)
          exact ⟨x, by dsimp only; rw [List.getElem?_set, if_neg hne]; exact hx, rfl⟩
  · split
    · rename_i hk
      rw [hn5 (by omega)]
      unfold Tb.leave
      split
      · rename_i k hq
        obtain ⟨_, x, hx, he⟩ := slot_some hq
        rw [← he]
        exact others_clear t hx
      · exact Others.refl _ _
    · split
      · unfold Tb.ask
        split
        · exact Others.grant ⟨rfl, fun x hx _ => hx, fun x hx _ => .inr (List.mem_append_left _ hx), fun i x hx _ _ => ⟨x, hx, rfl⟩⟩
        · exact Others.refl _ _
      · split
        · rename_i hk
          rw [hn5 (by omega)]
          unfold Tb.free
          split
          · rename_i i hi
            exact Others.grant ⟨rfl, fun x hx hn => erase_mem hi hx (justB_other hn), fun x hx _ => .inr hx, fun i x hx _ _ => ⟨x, hx, rfl⟩⟩
          · split
            · rename_i i hi
              exact Others.grant ⟨rfl, fun x hx _ => hx, fun x hx hn => .inr (erase_mem hi hx (justB_other hn)), fun i x hx _ _ => ⟨x, hx, rfl⟩⟩
            · exact Others.refl _ _
        · split
          · unfold Tb.claim
            split
            · rename_i k hq
              split
              · obtain ⟨_, y, hy, _⟩ := slot_some hq
                refine ⟨by simp, fun x hx _ => hx, fun x hx _ => .inr hx, fun i x hx _ _ => ?_⟩
                by_cases e : k = i
                · subst e
                  rw [hy] at hx
                  cases hx
                  exact ⟨_, by dsimp only; rw [List.getElem?_set_self (lt_of_at hy)], by rw [slotKey_at hy]⟩
                · exact ⟨x, by dsimp only; rw [List.getElem?_set, if_neg e]; exact hx, rfl⟩
              · exact Others.refl _ _
            · exact Others.refl _ _
          · split
            · rename_i hk
              rw [h5 hk]
              unfold Tb.purge
              split
              · rename_i k hq
                split
                · obtain ⟨_, x, hx, he⟩ := slot_some hq
                  rw [← he]
                  exact others_clear t hx
                · exact Others.refl _ _
              · exact Others.refl _ _
            · exact Others.refl _ _

def greatT (t : Tb) : Bool := (decide (40 < (t.S.length : Int)) || decide (100 < (t.H.length : Int))) || decide (100 < (t.Q.length : Int))

theorem great11_c (V : Vw) (tv : Value) (t : Tb) (w : World) (hV : V.le (vw w)) (h : TbIs V tv t) :
    Calls Try.prog 20 #[tv] w fun e w' => e = .returned (.bool (greatT t)) ∧ Below w.heap.size w w' := by
  obtain ⟨a, n, c, a2, n2, c2, a3, n3, c3, rfl, h1, h2, h3⟩ := h
  refine enter (E := E0) (O := []) (nl := 0) (V := vw w) [.a (.v (.agg #[.slice a n c, .slice a2 n2 c2, .slice a3 n3 c3]))] Try.func20 rfl rfl (mem0 E0 0 w) rfl rfl ?_
  refine c_seq ?_
  refine c_region ?_
  refine o_new tok rfl rfl rfl rfl ?_
  refine o_yield rfl rfl rfl (y_val tok rfl) ?_
  refine o_end [1] rfl ?_
  refine x_then ?_
  refine c_seq ?_
  refine c_region ?_
  refine o_yield rfl rfl rfl (y_val tok rfl) ?_
  refine o_yield rfl rfl rfl (y_val tok rfl) ?_
  refine o_yield rfl rfl rfl (y_len tok rfl (fun hg => (h1.mono hV).sl)) ?_
  refine o_yield rfl rfl rfl (y_val tok rfl) ?_
  refine o_yield rfl rfl rfl (y_val tok rfl) ?_
  refine o_yield rfl rfl rfl (y_val tok rfl) ?_
  refine o_yield rfl rfl rfl (y_val tok rfl) ?_
  refine o_yield rfl rfl rfl (y_len tok rfl (fun hg => (h2.mono hV).sl)) ?_
  refine o_yield rfl rfl rfl (y_val tok rfl) ?_
  refine o_yield rfl rfl rfl (y_val tok rfl) ?_
  refine o_yield rfl rfl rfl (y_val tok rfl) ?_
  refine o_yield rfl rfl rfl (y_val tok rfl) ?_
  refine o_yield rfl rfl rfl (y_val tok rfl) ?_
  refine o_yield rfl rfl rfl (y_len tok rfl (fun hg => (h3.mono hV).sl)) ?_
  refine o_yield rfl rfl rfl (y_val tok rfl) ?_
  refine o_yield rfl rfl rfl (y_val tok rfl) ?_
  refine o_yield rfl rfl rfl (y_val tok rfl) ?_
  refine o_end [2] rfl ?_
  refine x_then ?_
  refine c_ret ?_
  refine b_ret tok rfl ?_
  intro E w' hm _
  refine ⟨?_, hm.below (Vw.le.refl _)⟩
  rfl

theorem great_fit {t : Tb} (h : greatT t = false) : t.Fit ∧ (t.S.length ≤ 40 ∧ t.H.length ≤ 100 ∧ t.Q.length ≤ 100) := by
  simp only [greatT, Bool.or_eq_false_iff, decide_eq_false_iff_not] at h
  exact ⟨⟨by omega, by omega, by omega⟩, by omega⟩

/-- A table that came in. -/
def Table.tb (a : Table) : Tb := ⟨a.slots.l, a.holds.l, a.queue.l⟩

theorem Table.Ok.is {V : Vw} {a : Table} (h : Table.Ok V a) : TbIs V a.val a.tb := by
  obtain ⟨x1, x2, x3, e1⟩ := sl_shape h.slots.sl.sl
  obtain ⟨y1, y2, y3, e2⟩ := sl_shape h.holds.sl.sl
  obtain ⟨z1, z2, z3, e3⟩ := sl_shape h.queue.sl.sl
  refine ⟨x1, x2, x3, y1, y2, y3, z1, z2, z3, ?_, ?_, ?_, ?_⟩
  · rw [Table.val, e1, e2, e3]
  · rw [← e1]; exact h.slots.sl
  · rw [← e2]; exact h.holds.sl
  · rw [← e3]; exact h.queue.sl
end Go.Proofs.Ytiapfhcimekdkaa

/- THE LAW TableOthers. -/
set_option linter.unusedVariables false
set_option linter.unusedSimpArgs false
set_option maxRecDepth 100000
namespace Go.Proofs.Ytiapfhcimekdkaa
open Go Go.Eng Go.RowKit

theorem tableOthers_law (w : World) {v0 v1 v2 : Value} (R0 : ∃ g : Geo, v0 = g.val ∧ g.Ok) (R1 : ∃ a : Table, v1 = a.val ∧ Table.Ok (vw w) a) (R2 : ∃ c : Cmd, v2 = c.val ∧ c.Ok) :
    Calls Try.prog 5 #[v0, v1, v2] w fun e w' => e = .returned (.bool true) ∧ Below w.heap.size w w' := by
  obtain ⟨g, rfl, ok⟩ := R0
  obtain ⟨ta, rfl, taok⟩ := R1
  obtain ⟨c, rfl, cok⟩ := R2
  have hT := taok.is
  generalize ta.val = tv at hT ⊢
  generalize ta.tb = t at hT
  clear taok
  obtain ⟨a, n, c0, a2, n2, c2, a3, n3, c3, rfl, tS, tH, tQ⟩ := id hT
  have hck := cok.kind
  have hlim : lim = 4398046511104 := rfl
  refine enter (E := E0) (O := []) (nl := 0) (V := vw w) [.a (.v g.val), .a (.v (.agg #[.slice a n c0, .slice a2 n2 c2, .slice a3 n3 c3])), .a (.v c.val)] Try.func5 rfl rfl (mem0 E0 0 w) rfl rfl ?_
  refine c_seq ?_
  refine c_region ?_
  refine o_new tok rfl rfl rfl rfl ?_
  refine o_new tok rfl rfl rfl rfl ?_
  refine o_new tok rfl rfl rfl rfl ?_
  refine o_yield rfl rfl rfl (y_val tok rfl) ?_
  refine o_end [3, 4, 5] rfl ?_
  refine x_then ?_
  refine c_seq ?_
  refine c_seq ?_
  refine c_region ?_
  refine o_yield rfl rfl rfl (y_val tok rfl) ?_
  refine o_call (.a (.v _)) rfl rfl fnok20 rfl rfl rfl (fun hg E w1 hm => by exact great11_c (vw w) _ t _ hm.leV hT) ?_
  refine o_yield rfl rfl rfl (y_val tok rfl) ?_
  refine o_yield rfl rfl rfl (y_val tok rfl) ?_
  refine o_yield rfl rfl rfl (y_val tok rfl) ?_
  refine o_call (.a (.v _)) rfl rfl fnok15 rfl rfl rfl (fun hg E w1 hm => by exact rMay_c (vw w) g _ t _ (great_fit (by simpa using hg)).1 hm.leV hT) ?_
  refine o_yield rfl rfl rfl (y_val tok rfl) ?_
  refine o_yield rfl rfl rfl (y_val tok rfl) ?_
  refine o_yield rfl rfl rfl (y_val tok rfl) ?_
  refine o_yield rfl rfl rfl (y_val tok rfl) ?_
  refine o_call (.a (.v _)) rfl rfl fnok13 rfl rfl rfl (fun hg E w1 hm => by exact refCmdMay_c c _) ?_
  refine o_yield rfl rfl rfl (y_val tok rfl) ?_
  refine o_yield rfl rfl rfl (y_val tok rfl) ?_
  refine o_end [3, 4, 5, 25] rfl ?_
  refine x_then ?_
  refine c_cond rfl (fun h => ?_) (fun h => ?_)
  ·
    refine c_seq ?_
    refine c_region ?_
    refine o_call (.a (.v _)) rfl rfl fnok11 rfl rfl rfl (fun hg E w1 hm => by exact wakes11_c _) ?_
    refine o_yield rfl rfl rfl (y_val tok rfl) ?_
    refine o_end [6] rfl ?_
    refine x_then ?_
    refine c_ret ?_
    refine x_then_ret ?_
    refine b_ret tok rfl ?_
    intro E w' hm _
    refine ⟨?_, hm.below (Vw.le.refl _)⟩
    rfl
  ·
    simp only [Bool.or_eq_false_iff, Bool.not_eq_false'] at h
    obtain ⟨⟨e1, e2⟩, e3⟩ := h
    obtain ⟨hfit, hz1, hz2, hz3⟩ := great_fit e1
    have happ := fun w1 hw1 => apply_c (vw w) g _ t hfit (by omega) c hck w1 hw1 hT
    have hoth := fun {gone : Int} => apply_others g.blocks t c (gone := gone)
    have hsum := apply_sum g.blocks t c
    obtain ⟨o, ho⟩ : ∃ o, o = t.apply g.blocks c := ⟨_, rfl⟩
    rw [← ho] at happ hoth hsum
    have hlen : o.S.length = t.S.length := (@hoth (if c.kind = 5 then c.dead else c.by_) (fun h => by rw [if_pos h]) (fun h => by rw [if_neg h])).n
    refine c_skip ?_
    refine x_then ?_
    refine c_seq ?_
    refine c_region ?_
    refine o_yield rfl rfl rfl (y_val tok rfl) ?_
    refine o_yield rfl rfl rfl (y_val tok rfl) ?_
    refine o_yield rfl rfl rfl (y_val tok rfl) ?_
    refine o_callV (fun v V' => TbIs V' v o) rfl rfl fnok14 rfl rfl (fun hg E w1 hm => by exact happ _ hm.leV) ?_
    rintro v2 W2 hle2 hv2
    obtain ⟨x1, y1, z1, x2, y2, z2, x3, y3, z3, rfl, oS, oH, oQ⟩ := hv2 rfl
    have hS := tS.mono hle2
    have hH := tH.mono hle2
    have hQ := tQ.mono hle2
    refine o_new tok rfl rfl rfl rfl ?_
    refine o_store tok rfl rfl rfl (by first | exact ⟨trivial, trivial⟩ | (repeat' first | exact trivial | exact rfl | apply And.intro); done | simp [onesP, oneP, lk, Value.oneCell']) ?_
    refine o_end [4, 5, 7] rfl ?_
    refine x_then ?_
    refine c_seq ?_
    refine c_seq ?_
    refine c_region ?_
    refine o_yield rfl rfl rfl (y_val tok rfl) ?_
    refine o_yield rfl rfl rfl (y_val tok rfl) ?_
    refine o_yield rfl rfl rfl (y_len tok rfl (fun hg => oS.sl)) ?_
    refine o_yield rfl rfl rfl (y_val tok rfl) ?_
    refine o_yield rfl rfl rfl (y_val tok rfl) ?_
    refine o_yield rfl rfl rfl (y_len tok rfl (fun hg => hS.sl)) ?_
    refine o_yield rfl rfl rfl (y_val tok rfl) ?_
    refine o_end [4, 5, 7, 37] rfl ?_
    refine x_then ?_
    refine c_cond rfl (fun h => ?_) (fun h => ?_)
    ·
      refine c_seq ?_
      refine c_region ?_
      refine o_yield rfl rfl rfl (y_val tok rfl) ?_
      refine o_end [6] rfl ?_
      refine x_then ?_
      refine c_ret ?_
      refine x_then_ret ?_
      refine b_ret tok rfl ?_
      exfalso
      rw [hlen] at h
      simp at h
    ·
      refine c_skip ?_
      refine x_then ?_
      refine c_seq ?_
      refine c_region ?_
      refine o_yield rfl rfl rfl (y_val tok rfl) ?_
      refine o_yield rfl rfl rfl (y_val tok rfl) ?_
      refine o_yield rfl rfl rfl (y_val tok rfl) ?_
      refine o_end [4, 5, 7, 8] rfl ?_
      refine x_then ?_
      refine c_cut (σ := Int) (fun gone => [(4, .a (.ptr 1 0)), (7, .a (.ptr 3 0)), (8, .a (.v (I gone)))]) (fun gone => [(1, .lit [.v (.slice a n c0), .v (.slice a2 n2 c2), .v (.slice a3 n3 c3)] 29), (3, .lit [.v (.slice x1 y1 z1), .v (.slice x2 y2 z2), .v (.slice x3 y3 z3)] 29)]) (4) (fun gone => W2) (fun gone => Others gone t o) ?_ ?_
      ·
        refine c_seq ?_
        refine c_region ?_
        refine o_yield rfl rfl rfl (y_val tok rfl) ?_
        refine o_yield rfl rfl rfl (y_val tok rfl) ?_
        refine o_yield rfl rfl rfl (y_val tok rfl) ?_
        refine o_end [4, 5, 7, 8, 42] rfl ?_
        refine x_then ?_
        refine c_cond rfl (fun h => ?_) (fun h => ?_)
        ·
          refine c_region ?_
          refine o_yield rfl rfl rfl (y_val tok rfl) ?_
          refine o_yield rfl rfl rfl (y_val tok rfl) ?_
          refine o_yield rfl rfl rfl (y_val tok rfl) ?_
          refine o_end [4, 7, 8] rfl ?_
          refine x_then ?_
          exact x_meet (c.dead) (hoth (fun _ => rfl) (fun hn => absurd (by simpa using h) hn)) (by repeat (first | exact SubF.nil | refine SubF.cons rfl ?_)) (by repeat (first | exact SubO.nil | refine SubO.cons rfl ?_)) rfl (by repeat (first | exact Vw.le.refl _ | assumption | (refine Vw.le.trans ?_ (by assumption))))
        ·
          refine c_skip ?_
          refine x_then ?_
          exact x_meet (c.by_) (hoth (fun he => absurd he (by simpa using h)) (fun _ => rfl)) (by repeat (first | exact SubF.nil | refine SubF.cons rfl ?_)) (by repeat (first | exact SubO.nil | refine SubO.cons rfl ?_)) rfl (by repeat (first | exact Vw.le.refl _ | assumption | (refine Vw.le.trans ?_ (by assumption))))
      · rintro gone hO
        refine c_seq ?_
        refine c_seq ?_
        refine c_region ?_
        refine o_yield rfl rfl rfl (y_val tok rfl) ?_
        refine o_end [4, 7, 8, 9] rfl ?_
        refine x_then ?_
        refine c_block ?_
        refine c_loopK [4, 7, 8] [] rfl rfl (σ := Nat) (fun i => [(9, .a (.v (I i)))]) (fun i => []) (fun i => i ≤ t.H.length) (fun i => t.H.length - i) (0) (by omega) (by repeat (first | exact SubF.nil | refine SubF.cons rfl ?_)) (by repeat (first | exact SubO.nil | refine SubO.cons rfl ?_)) rfl ?_
        rintro j hj
        refine c_seq ?_
        refine c_seq ?_
        refine c_region ?_
        refine o_yield rfl rfl rfl (y_val tok rfl) ?_
        refine o_yield rfl rfl rfl (y_val tok rfl) ?_
        refine o_yield rfl rfl rfl (y_val tok rfl) ?_
        refine o_yield rfl rfl rfl (y_len tok rfl (fun hg => hH.sl)) ?_
        refine o_yield rfl rfl rfl (y_val tok rfl) ?_
        refine o_end [4, 7, 8, 9, 49] rfl ?_
        refine x_then ?_
        refine c_cond rfl (fun h => ?_) (fun h => ?_)
        ·
          simp only [Bool.and_eq_true, Bool.or_eq_true, Bool.not_eq_true', Bool.or_eq_false_iff, Bool.and_eq_false_iff, decide_eq_true_eq, decide_eq_false_iff_not, beq_iff_eq, bne_iff_ne, Bool.not_eq_false', beq_eq_false_iff_ne, bne_eq_false_iff_eq, ne_eq, Decidable.not_not, Int.not_lt, Int.not_le] at h
          refine c_skip ?_
          refine x_then ?_
          refine c_seq ?_
          refine c_block ?_
          refine c_seq ?_
          refine c_draw mixed (by kernel_rfl) ?_
          refine d_yield rfl rfl rfl (y_val tok rfl) rfl ?_
          refine d_yield rfl rfl rfl (y_val tok rfl) rfl ?_
          refine d_yield rfl rfl rfl (y_val tok rfl) rfl ?_
          obtain ⟨x, h_x⟩ := hH.at (k := j) (by omega)
          have hlt_x := lt_of_at h_x
          refine d_yield rfl rfl rfl (y_idx tok rfl (fun hg => hH.sl) (fun hg => ⟨by omega, by omega⟩)) rfl ?_
          refine d_yield rfl rfl rfl (y_fel tok rfl (fun hg => hH.sl) (fun hg => by omega)) rfl ?_
          refine d_yield rfl rfl rfl (y_lel tok (j) 0 (x) rfl (fun hg => hH) (fun hg => h_x) rfl rfl) rfl ?_
          refine d_yield rfl rfl rfl (y_val tok rfl) rfl ?_
          refine d_yield rfl rfl rfl (y_val tok rfl) rfl ?_
          refine d_yield rfl rfl rfl (y_val tok rfl) rfl ?_
          refine d_yield rfl rfl rfl (y_val tok rfl) rfl ?_
          refine d_yield rfl rfl rfl (y_val tok rfl) rfl ?_
          refine d_yield rfl rfl rfl (y_val tok rfl) rfl ?_
          refine d_yield rfl rfl rfl (y_val tok rfl) rfl ?_
          refine d_yield rfl rfl rfl (y_val tok rfl) rfl ?_
          have hlt_x := lt_of_at h_x
          refine d_yield rfl rfl rfl (y_idx tok rfl (fun hg => hH.sl) (fun hg => ⟨by omega, by omega⟩)) rfl ?_
          refine d_yield rfl rfl rfl (y_lel tok (j) 0 (x) rfl (fun hg => hH) (fun hg => h_x) rfl rfl) rfl ?_
          refine d_call (.a (.v _)) rfl rfl fnok18 rfl rfl rfl (fun hg E w1 hm => by exact has11_c (vw w1) _ o.H x _ (Vw.le.refl _) (oH.mono hm.leV) (by omega)) ?_
          refine d_yield rfl rfl rfl (y_val tok rfl) rfl ?_
          refine d_yield rfl rfl rfl (y_val tok rfl) rfl ?_
          refine d_end [4, 7, 8, 9, 70] rfl ?_
          refine x_then ?_
          refine c_cond rfl (fun h => ?_) (fun h => ?_)
          ·
            refine c_seq ?_
            refine c_region ?_
            refine o_yield rfl rfl rfl (y_val tok rfl) ?_
            refine o_end [6] rfl ?_
            refine x_then ?_
            refine c_ret ?_
            refine x_block_ret ?_
            refine x_then_ret ?_
            refine x_then_ret ?_
            refine x_block_ret ?_
            refine x_then_ret ?_
            refine b_ret tok rfl ?_
            exfalso
            simp only [Bool.and_eq_true, Bool.not_eq_true', bne_iff_ne, ne_eq, beq_eq_false_iff_ne] at h
            have := hasH_iff.2 (hO.h x (List.mem_of_getElem? h_x) h.1)
            rw [this] at h
            exact absurd h.2 (by simp)
          ·
            refine c_skip ?_
            refine x_block ?_
            refine x_then ?_
            refine c_region ?_
            refine o_yield rfl rfl rfl (y_val tok rfl) ?_
            refine o_yield rfl rfl rfl (y_val tok rfl) ?_
            refine o_yield rfl rfl rfl (y_val tok rfl) ?_
            refine o_end [4, 7, 8, 9] rfl ?_
            refine x_then ?_
            rw [wrapI (by omega) (by omega)]
            refine x_round (j + 1) (by omega) (by first | omega | (dsimp only; omega)) (by repeat (first | exact SubF.nil | refine SubF.cons rfl ?_)) (by repeat (first | exact SubO.nil | refine SubO.cons rfl ?_)) rfl (Vw.le.refl _)
        ·
          simp only [Bool.and_eq_true, Bool.or_eq_true, Bool.not_eq_true', Bool.or_eq_false_iff, Bool.and_eq_false_iff, decide_eq_true_eq, decide_eq_false_iff_not, beq_iff_eq, bne_iff_ne, Bool.not_eq_false', beq_eq_false_iff_ne, bne_eq_false_iff_eq, ne_eq, Decidable.not_not, Int.not_lt, Int.not_le] at h
          refine c_exit ?_
          refine x_then_exit ?_
          refine x_then_exit ?_
          refine x_block_hit ?_
          refine x_then ?_
          refine c_seq ?_
          refine c_seq ?_
          refine c_region ?_
          refine o_yield rfl rfl rfl (y_val tok rfl) ?_
          refine o_end [4, 7, 8, 10] rfl ?_
          refine x_then ?_
          refine c_block ?_
          refine c_loopK [4, 7, 8] [] rfl rfl (σ := Nat) (fun i => [(10, .a (.v (I i)))]) (fun i => []) (fun i => i ≤ t.Q.length) (fun i => t.Q.length - i) (0) (by omega) (by repeat (first | exact SubF.nil | refine SubF.cons rfl ?_)) (by repeat (first | exact SubO.nil | refine SubO.cons rfl ?_)) rfl ?_
          rintro j hj
          refine c_seq ?_
          refine c_seq ?_
          refine c_region ?_
          refine o_yield rfl rfl rfl (y_val tok rfl) ?_
          refine o_yield rfl rfl rfl (y_val tok rfl) ?_
          refine o_yield rfl rfl rfl (y_val tok rfl) ?_
          refine o_yield rfl rfl rfl (y_len tok rfl (fun hg => hQ.sl)) ?_
          refine o_yield rfl rfl rfl (y_val tok rfl) ?_
          refine o_end [4, 7, 8, 10, 75] rfl ?_
          refine x_then ?_
          refine c_cond rfl (fun h => ?_) (fun h => ?_)
          ·
            simp only [Bool.and_eq_true, Bool.or_eq_true, Bool.not_eq_true', Bool.or_eq_false_iff, Bool.and_eq_false_iff, decide_eq_true_eq, decide_eq_false_iff_not, beq_iff_eq, bne_iff_ne, Bool.not_eq_false', beq_eq_false_iff_ne, bne_eq_false_iff_eq, ne_eq, Decidable.not_not, Int.not_lt, Int.not_le] at h
            refine c_skip ?_
            refine x_then ?_
            refine c_seq ?_
            refine c_block ?_
            refine c_seq ?_
            refine c_draw mixed (by kernel_rfl) ?_
            refine d_yield rfl rfl rfl (y_val tok rfl) rfl ?_
            refine d_yield rfl rfl rfl (y_val tok rfl) rfl ?_
            refine d_yield rfl rfl rfl (y_val tok rfl) rfl ?_
            obtain ⟨x, h_x⟩ := hQ.at (k := j) (by omega)
            have hlt_x := lt_of_at h_x
            refine d_yield rfl rfl rfl (y_idx tok rfl (fun hg => hQ.sl) (fun hg => ⟨by omega, by omega⟩)) rfl ?_
            refine d_yield rfl rfl rfl (y_fel tok rfl (fun hg => hQ.sl) (fun hg => by omega)) rfl ?_
            refine d_yield rfl rfl rfl (y_lel tok (j) 0 (x) rfl (fun hg => hQ) (fun hg => h_x) rfl rfl) rfl ?_
            refine d_yield rfl rfl rfl (y_val tok rfl) rfl ?_
            refine d_yield rfl rfl rfl (y_val tok rfl) rfl ?_
            refine d_yield rfl rfl rfl (y_val tok rfl) rfl ?_
            refine d_yield rfl rfl rfl (y_val tok rfl) rfl ?_
            refine d_yield rfl rfl rfl (y_val tok rfl) rfl ?_
            refine d_yield rfl rfl rfl (y_val tok rfl) rfl ?_
            refine d_yield rfl rfl rfl (y_val tok rfl) rfl ?_
            refine d_yield rfl rfl rfl (y_val tok rfl) rfl ?_
            have hlt_x := lt_of_at h_x
            refine d_yield rfl rfl rfl (y_idx tok rfl (fun hg => hQ.sl) (fun hg => ⟨by omega, by omega⟩)) rfl ?_
            refine d_yield rfl rfl rfl (y_lel tok (j) 0 (x) rfl (fun hg => hQ) (fun hg => h_x) rfl rfl) rfl ?_
            refine d_call (.a (.v _)) rfl rfl fnok18 rfl rfl rfl (fun hg E w1 hm => by exact has11_c (vw w1) _ o.H x _ (Vw.le.refl _) (oH.mono hm.leV) (by omega)) ?_
            refine d_yield rfl rfl rfl (y_val tok rfl) rfl ?_
            refine d_yield rfl rfl rfl (y_val tok rfl) rfl ?_
            refine d_yield rfl rfl rfl (y_val tok rfl) rfl ?_
            refine d_yield rfl rfl rfl (y_val tok rfl) rfl ?_
            refine d_yield rfl rfl rfl (y_val tok rfl) rfl ?_
            refine d_yield rfl rfl rfl (y_val tok rfl) rfl ?_
            refine d_yield rfl rfl rfl (y_val tok rfl) rfl ?_
            refine d_yield rfl rfl rfl (y_val tok rfl) rfl ?_
            have hlt_x := lt_of_at h_x
            refine d_yield rfl rfl rfl (y_idx tok rfl (fun hg => hQ.sl) (fun hg => ⟨by omega, by omega⟩)) rfl ?_
            refine d_yield rfl rfl rfl (y_lel tok (j) 0 (x) rfl (fun hg => hQ) (fun hg => h_x) rfl rfl) rfl ?_
            refine d_call (.a (.v _)) rfl rfl fnok18 rfl rfl rfl (fun hg E w1 hm => by exact has11_c (vw w1) _ o.Q x _ (Vw.le.refl _) (oQ.mono hm.leV) (by omega)) ?_
            refine d_yield rfl rfl rfl (y_val tok rfl) rfl ?_
            refine d_yield rfl rfl rfl (y_val tok rfl) rfl ?_
            refine d_end [4, 7, 8, 10, 107] rfl ?_
            refine x_then ?_
            refine c_cond rfl (fun h => ?_) (fun h => ?_)
            ·
              refine c_seq ?_
              refine c_region ?_
              refine o_yield rfl rfl rfl (y_val tok rfl) ?_
              refine o_end [6] rfl ?_
              refine x_then ?_
              refine c_ret ?_
              refine x_block_ret ?_
              refine x_then_ret ?_
              refine x_then_ret ?_
              refine x_block_ret ?_
              refine x_then_ret ?_
              refine b_ret tok rfl ?_
              exfalso
              simp only [Bool.and_eq_true, Bool.not_eq_true', bne_iff_ne, ne_eq, beq_eq_false_iff_ne] at h
              obtain ⟨⟨e1, e2⟩, e3⟩ := h
              rcases hO.q x (List.mem_of_getElem? h_x) e1 with hm | hm
              · rw [hasH_iff.2 hm] at e2; cases e2
              · rw [hasH_iff.2 hm] at e3; cases e3
            ·
              refine c_skip ?_
              refine x_block ?_
              refine x_then ?_
              refine c_region ?_
              refine o_yield rfl rfl rfl (y_val tok rfl) ?_
              refine o_yield rfl rfl rfl (y_val tok rfl) ?_
              refine o_yield rfl rfl rfl (y_val tok rfl) ?_
              refine o_end [4, 7, 8, 10] rfl ?_
              refine x_then ?_
              rw [wrapI (by omega) (by omega)]
              refine x_round (j + 1) (by omega) (by first | omega | (dsimp only; omega)) (by repeat (first | exact SubF.nil | refine SubF.cons rfl ?_)) (by repeat (first | exact SubO.nil | refine SubO.cons rfl ?_)) rfl (Vw.le.refl _)
          ·
            simp only [Bool.and_eq_true, Bool.or_eq_true, Bool.not_eq_true', Bool.or_eq_false_iff, Bool.and_eq_false_iff, decide_eq_true_eq, decide_eq_false_iff_not, beq_iff_eq, bne_iff_ne, Bool.not_eq_false', beq_eq_false_iff_ne, bne_eq_false_iff_eq, ne_eq, Decidable.not_not, Int.not_lt, Int.not_le] at h
            refine c_exit ?_
            refine x_then_exit ?_
            refine x_then_exit ?_
            refine x_block_hit ?_
            refine x_then ?_
            refine c_seq ?_
            refine c_seq ?_
            refine c_region ?_
            refine o_yield rfl rfl rfl (y_val tok rfl) ?_
            refine o_end [4, 7, 8, 11] rfl ?_
            refine x_then ?_
            refine c_block ?_
            refine c_loopK [4, 7, 8] [] rfl rfl (σ := Nat) (fun i => [(11, .a (.v (I i)))]) (fun i => []) (fun i => i ≤ t.S.length) (fun i => t.S.length - i) (0) (by omega) (by repeat (first | exact SubF.nil | refine SubF.cons rfl ?_)) (by repeat (first | exact SubO.nil | refine SubO.cons rfl ?_)) rfl ?_
            rintro j hj
            refine c_seq ?_
            refine c_seq ?_
            refine c_region ?_
            refine o_yield rfl rfl rfl (y_val tok rfl) ?_
            refine o_yield rfl rfl rfl (y_val tok rfl) ?_
            refine o_yield rfl rfl rfl (y_val tok rfl) ?_
            refine o_yield rfl rfl rfl (y_len tok rfl (fun hg => hS.sl)) ?_
            refine o_yield rfl rfl rfl (y_val tok rfl) ?_
            refine o_end [4, 7, 8, 11, 112] rfl ?_
            refine x_then ?_
            refine c_cond rfl (fun h => ?_) (fun h => ?_)
            ·
              simp only [Bool.and_eq_true, Bool.or_eq_true, Bool.not_eq_true', Bool.or_eq_false_iff, Bool.and_eq_false_iff, decide_eq_true_eq, decide_eq_false_iff_not, beq_iff_eq, bne_iff_ne, Bool.not_eq_false', beq_eq_false_iff_ne, bne_eq_false_iff_eq, ne_eq, Decidable.not_not, Int.not_lt, Int.not_le] at h
              refine c_skip ?_
              refine x_then ?_
              refine c_seq ?_
              refine c_block ?_
              refine c_seq ?_
              refine c_region ?_
              refine o_yield rfl rfl rfl (y_val tok rfl) ?_
              refine o_yield rfl rfl rfl (y_val tok rfl) ?_
              refine o_yield rfl rfl rfl (y_val tok rfl) ?_
              obtain ⟨x, h_x⟩ := hS.at (k := j) (by omega)
              have hlt_x := lt_of_at h_x
              refine o_yield rfl rfl rfl (y_idx tok rfl (fun hg => hS.sl) (fun hg => ⟨by omega, by omega⟩)) ?_
              refine o_yield rfl rfl rfl (y_fel tok rfl (fun hg => hS.sl) (fun hg => by omega)) ?_
              refine o_yield rfl rfl rfl (y_lel tok (j) 0 (x) rfl (fun hg => hS) (fun hg => h_x) rfl rfl) ?_
              refine o_yield rfl rfl rfl (y_val tok rfl) ?_
              refine o_end [4, 7, 8, 11, 12] rfl ?_
              refine x_then ?_
              refine c_seq ?_
              refine c_region ?_
              refine o_yield rfl rfl rfl (y_val tok rfl) ?_
              refine o_yield rfl rfl rfl (y_val tok rfl) ?_
              refine o_yield rfl rfl rfl (y_val tok rfl) ?_
              refine o_yield rfl rfl rfl (y_val tok rfl) ?_
              refine o_yield rfl rfl rfl (y_val tok rfl) ?_
              refine o_yield rfl rfl rfl (y_val tok rfl) ?_
              refine o_yield rfl rfl rfl (y_val tok rfl) ?_
              refine o_yield rfl rfl rfl (y_val tok rfl) ?_
              refine o_yield rfl rfl rfl (y_val tok rfl) ?_
              refine o_yield rfl rfl rfl (y_val tok rfl) ?_
              refine o_yield rfl rfl rfl (y_val tok rfl) ?_
              obtain ⟨y, h_y⟩ : ∃ y, o.S[j]? = some y := ⟨_, List.getElem?_eq_getElem (by omega)⟩
              have hlt_y := lt_of_at h_y
              refine o_yield rfl rfl rfl (y_idx tok rfl (fun hg => oS.sl) (fun hg => ⟨by omega, by omega⟩)) ?_
              refine o_yield rfl rfl rfl (y_fel tok rfl (fun hg => oS.sl) (fun hg => by omega)) ?_
              refine o_yield rfl rfl rfl (y_lel tok (j) 0 (y) rfl (fun hg => oS) (fun hg => h_y) rfl rfl) ?_
              refine o_yield rfl rfl rfl (y_val tok rfl) ?_
              refine o_yield rfl rfl rfl (y_val tok rfl) ?_
              refine o_yield rfl rfl rfl (y_val tok rfl) ?_
              refine o_end [4, 7, 8, 11, 137] rfl ?_
              refine x_then ?_
              refine c_cond rfl (fun h => ?_) (fun h => ?_)
              ·
                refine c_seq ?_
                refine c_region ?_
                refine o_yield rfl rfl rfl (y_val tok rfl) ?_
                refine o_end [6] rfl ?_
                refine x_then ?_
                refine c_ret ?_
                refine x_block_ret ?_
                refine x_then_ret ?_
                refine x_then_ret ?_
                refine x_block_ret ?_
                refine x_then_ret ?_
                refine b_ret tok rfl ?_
                exfalso
                simp only [Bool.and_eq_true, Bool.not_eq_true', bne_iff_ne, ne_eq, beq_eq_false_iff_ne] at h
                obtain ⟨⟨e1, e2⟩, e3⟩ := h
                obtain ⟨z, hz, hzk⟩ := hO.s j x h_x e1 e2
                rw [h_y] at hz
                cases hz
                exact e3 hzk
              ·
                refine c_skip ?_
                refine x_block ?_
                refine x_then ?_
                refine c_region ?_
                refine o_yield rfl rfl rfl (y_val tok rfl) ?_
                refine o_yield rfl rfl rfl (y_val tok rfl) ?_
                refine o_yield rfl rfl rfl (y_val tok rfl) ?_
                refine o_end [4, 7, 8, 11] rfl ?_
                refine x_then ?_
                rw [wrapI (by omega) (by omega)]
                refine x_round (j + 1) (by omega) (by first | omega | (dsimp only; omega)) (by repeat (first | exact SubF.nil | refine SubF.cons rfl ?_)) (by repeat (first | exact SubO.nil | refine SubO.cons rfl ?_)) rfl (Vw.le.refl _)
            ·
              simp only [Bool.and_eq_true, Bool.or_eq_true, Bool.not_eq_true', Bool.or_eq_false_iff, Bool.and_eq_false_iff, decide_eq_true_eq, decide_eq_false_iff_not, beq_iff_eq, bne_iff_ne, Bool.not_eq_false', beq_eq_false_iff_ne, bne_eq_false_iff_eq, ne_eq, Decidable.not_not, Int.not_lt, Int.not_le] at h
              refine c_exit ?_
              refine x_then_exit ?_
              refine x_then_exit ?_
              refine x_block_hit ?_
              refine x_then ?_
              refine c_seq ?_
              refine c_region ?_
              refine o_call (.a (.v _)) rfl rfl fnok11 rfl rfl rfl (fun hg E w1 hm => by exact wakes11_c _) ?_
              refine o_yield rfl rfl rfl (y_val tok rfl) ?_
              refine o_end [6] rfl ?_
              refine x_then ?_
              refine c_ret ?_
              refine b_ret tok rfl ?_
              intro E w' hm _
              refine ⟨?_, hm.below (hle2)⟩
              rfl
end Go.Proofs.Ytiapfhcimekdkaa
