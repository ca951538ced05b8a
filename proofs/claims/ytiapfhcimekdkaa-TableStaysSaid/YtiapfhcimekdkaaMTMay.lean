import Derived.Test.YtiapfhcimekdkaaMRTb
import Derived.Test.YtiapfhcimekdkaaEng37
/- Tables: whether one may be, of those that may. -/
set_option linter.unusedVariables false
set_option linter.unusedSimpArgs false
set_option maxRecDepth 100000
namespace Go.Proofs.Ytiapfhcimekdkaa
open Go Go.Eng Go.RowKit

theorem bMembers_c (V : Vw) (b : Nat) (sv hv qv : Value) (g : Geo) (S : List Slot) (w : World) (hV : V.le (vw w)) (hb : V.get b = some (.cells (bkC sv hv qv g).toArray 91 (0, 0))) (hs0 : SlOf V Slot.cells 2 sv S) (hn : S.length ≤ 1000) (hok : SlotsOk S) (hlen : (S.length : Int) = g.slots) :
    Calls Try.prog 66 #[.pointer (some ⟨b, 0, none⟩)] w fun e w' => e = .returned (.bool true) ∧ Below w.heap.size w w' := by
  obtain ⟨a, n, c, rfl⟩ := sl_shape hs0.sl
  have hs1 := hs0.mono hV
  rw [slotsOk_iff] at hok
  refine enter (E := E0) (O := []) (nl := 0) (V := vw w) [.a (.v (.pointer (some ⟨b, 0, none⟩)))] Try.func66 rfl rfl (mem0 E0 0 w) rfl rfl ?_
  refine c_seq ?_
  refine c_region ?_
  refine o_yield rfl rfl rfl (y_val tok rfl) ?_
  refine o_end [0] rfl ?_
  refine x_then ?_
  refine c_seq ?_
  refine c_region ?_
  refine o_step rfl rfl rfl rfl rfl (s_mkMapV rfl) (fun mb hmb => ?_)
  have hle1 : ∀ es, (vw w).le ((vw w).put mb (mvOb es)) := fun es => Vw.put_le (Vw.le.refl _) hmb
  have hbk : ∀ es, ((vw w).put mb (mvOb es)).get b = some (.cells (bkC (.slice a n c) hv qv g).toArray 91 (0, 0)) := fun es => (hle1 es).get _ _ (hV.get _ _ hb)
  have hs : ∀ es, SlOf ((vw w).put mb (mvOb es)) Slot.cells 2 (.slice a n c) S := fun es => hs1.mono (hle1 es)
  refine o_yield rfl rfl rfl (y_val tok rfl) ?_
  refine o_end [0, 3] rfl ?_
  refine x_then ?_
  refine c_seq ?_
  refine c_seq ?_
  refine c_region ?_
  refine o_yield rfl rfl rfl (y_val tok rfl) ?_
  refine o_yield rfl rfl rfl (y_val tok rfl) ?_
  refine o_yield rfl rfl rfl (y_val tok rfl) ?_
  refine o_yield rfl rfl rfl (y_val tok rfl) ?_
  refine o_yield rfl rfl rfl (y_ldp (cs := bkC (.slice a n c) hv qv g) tok rfl (fun hg => hbk _) rfl) ?_
  refine o_yield rfl rfl rfl (y_len tok rfl (fun hg => (hs _).sl)) ?_
  refine o_yield rfl rfl rfl (y_val tok rfl) ?_
  refine o_end [0, 3, 11, 12, 13] rfl ?_
  refine x_then ?_
  refine c_block ?_
  refine c_loopV [0, 3, 11, 12] [] rfl rfl (σ := Nat × List (Int × Value)) (fun (k, es) => [(13, .a (.v (I k)))]) (fun (k, es) => []) (fun (k, es) => (vw w).put mb (mvOb es)) (fun (k, es) => k ≤ S.length ∧ ∀ key, (∀ (j : Nat) (y : Slot), j < k → S[j]? = some y → y.key ≠ key) → mvGet es key = none) (fun (k, es) => S.length - k) ((0, [])) (⟨by omega, fun key _ => rfl⟩) (by repeat (first | exact SubF.nil | refine SubF.cons rfl ?_)) (by repeat (first | exact SubO.nil | refine SubO.cons rfl ?_)) rfl (Vw.le.refl _) ?_
  rintro ⟨k, es⟩ ⟨hk, hes⟩
  dsimp only at hk hes ⊢
  refine c_seq ?_
  refine c_region ?_
  refine o_yield rfl rfl rfl (y_val tok rfl) ?_
  refine o_end [0, 3, 11, 12, 13, 14] rfl ?_
  refine x_then ?_
  refine c_seq ?_
  refine c_cond rfl (fun h => ?_) (fun h => ?_)
  ·
    simp only [Bool.and_eq_true, Bool.or_eq_true, Bool.not_eq_true', Bool.or_eq_false_iff, Bool.and_eq_false_iff, decide_eq_true_eq, decide_eq_false_iff_not, beq_iff_eq, bne_iff_ne, Bool.not_eq_false', beq_eq_false_iff_ne, bne_eq_false_iff_eq, ne_eq, Decidable.not_not, Int.not_lt, Int.not_le] at h
    refine c_skip ?_
    refine x_then ?_
    refine c_seq ?_
    refine c_block ?_
    refine c_seq ?_
    refine c_region ?_
    have hes0 := hs es
    obtain ⟨x, h_x⟩ := hes0.at (k := k) (by omega)
    have hlt_x := lt_of_at h_x
    refine o_yield rfl rfl rfl (y_idx tok rfl (fun hg => hes0.sl) (fun hg => ⟨by omega, by omega⟩)) ?_
    refine o_yield rfl rfl rfl (y_lel tok (k) 0 (x) rfl (fun hg => hes0) (fun hg => h_x) rfl rfl) ?_
    refine o_new tok rfl rfl rfl rfl ?_
    refine o_store tok rfl rfl rfl (by first | exact ⟨trivial, trivial⟩ | (repeat' first | exact trivial | exact rfl | apply And.intro); done | simp [onesP, oneP, lk, Value.oneCell']) ?_
    refine o_end [0, 3, 5, 11, 12, 13] rfl ?_
    refine x_then ?_
    refine c_seq ?_
    refine c_seq ?_
    refine c_region ?_
    refine o_yield rfl rfl rfl (y_val tok rfl) ?_
    refine o_yield rfl rfl rfl (y_val tok rfl) ?_
    refine o_yield rfl rfl rfl (y_val tok rfl) ?_
    refine o_yield rfl rfl rfl (y_val tok rfl) ?_
    refine o_yield rfl rfl rfl (y_val tok rfl) ?_
    refine o_yield rfl rfl rfl (y_val tok rfl) ?_
    refine o_yield rfl rfl rfl (y_val tok rfl) ?_
    refine o_yield rfl rfl rfl (y_val tok rfl) ?_
    refine o_yield rfl rfl rfl (y_val tok rfl) ?_
    refine o_yield rfl rfl rfl (y_val tok rfl) ?_
    refine o_yield rfl rfl rfl (y_val tok rfl) ?_
    refine o_yield rfl rfl rfl (y_val tok rfl) ?_
    refine o_yield rfl rfl rfl (y_val tok rfl) ?_
    refine o_yield rfl rfl rfl (y_val tok rfl) ?_
    refine o_yield rfl rfl rfl (y_val tok rfl) ?_
    refine o_yield rfl rfl rfl (y_val tok rfl) ?_
    refine o_yield rfl rfl rfl (y_val tok rfl) ?_
    refine o_yield rfl rfl rfl (y_val tok rfl) ?_
    refine o_yield rfl rfl rfl (y_val tok rfl) ?_
    refine o_yield rfl rfl rfl (y_val tok rfl) ?_
    refine o_yield rfl rfl rfl (y_val tok rfl) ?_
    refine o_yield rfl rfl rfl (y_val tok rfl) ?_
    refine o_yield rfl rfl rfl (y_val tok rfl) ?_
    refine o_yield rfl rfl rfl (y_val tok rfl) ?_
    refine o_yield rfl rfl rfl (y_val tok rfl) ?_
    refine o_yield rfl rfl rfl (y_val tok rfl) ?_
    have hgood := (hok k x h_x).1
    have hnot : x.key ≠ 0 → mvGet es x.key = none := fun h0 => hes x.key fun j y hj hy => (hok k x h_x).2 j y hj hy h0
    refine o_yield rfl rfl rfl (y_lkpV es (.bool false) rfl Try.underlying135 Try.underlying3 (fun w => Try.zeroValue4 w) (fun hg => Vw.put_get _ _ _) (fun hg => (Decidable.em (x.key = 0)).elim (fun h0 => by simp [h0] at hg) (fun h0 => by rw [hnot h0]; rfl))) ?_
    refine o_yield rfl rfl rfl (y_val tok rfl) ?_
    refine o_yield rfl rfl rfl (y_val tok rfl) ?_
    refine o_end [0, 3, 5, 11, 12, 13, 45] rfl ?_
    refine x_then ?_
    refine c_cond rfl (fun h => ?_) (fun h => ?_)
    ·
      refine c_seq ?_
      refine c_region ?_
      refine o_yield rfl rfl rfl (y_val tok rfl) ?_
      refine o_end [2] rfl ?_
      refine x_then ?_
      refine c_ret ?_
      refine x_then_ret ?_
      refine x_block_ret ?_
      refine x_then_ret ?_
      refine x_then_ret ?_
      refine x_block_ret ?_
      refine x_then_ret ?_
      refine b_ret tok rfl ?_
      exfalso
      obtain ⟨g1, g2, g3⟩ := hgood
      simp only [Bool.or_eq_true, Bool.and_eq_true, decide_eq_true_eq, beq_iff_eq, Bool.not_eq_true', beq_eq_false_iff_ne, bne_iff_ne, ne_eq, Bool.and_false, Bool.or_false] at h
      omega
    ·
      refine c_skip ?_
      refine x_then ?_
      refine c_region ?_
      refine o_yield rfl rfl rfl (y_val tok rfl) ?_
      refine o_yield rfl rfl rfl (y_val tok rfl) ?_
      refine o_yield rfl rfl rfl (y_val tok rfl) ?_
      refine o_stepN rfl rfl rfl rfl (s_mapPut es rfl rfl Try.underlying135 Try.underlying3 (Vw.put_get _ _ _)) (fun _ _ => ?_)
      refine o_end [0, 3, 11, 12, 13] rfl ?_
      refine x_block ?_
      refine x_then ?_
      refine c_region ?_
      refine o_yield rfl rfl rfl (y_val tok rfl) ?_
      refine o_yield rfl rfl rfl (y_val tok rfl) ?_
      refine o_end [0, 3, 11, 12, 13] rfl ?_
      refine x_then ?_
      have hes2 : ∀ key, (∀ (j : Nat) (y : Slot), j < k + 1 → S[j]? = some y → y.key ≠ key) → mvGet (mvPut es x.key (.bool true)) key = none := by
        intro key hk2
        rw [mvGet_put, if_neg (hk2 k x (by omega) h_x)]
        exact hes key fun j y hj hy => hk2 j y (by omega) hy
      rw [wrapI (by omega) (by omega)]
      refine x_round ((k + 1, mvPut es x.key (.bool true))) (⟨by dsimp only; omega, hes2⟩) (by first | omega | (dsimp only; omega)) (by repeat (first | exact SubF.nil | refine SubF.cons rfl ?_)) (by repeat (first | exact SubO.nil | refine SubO.cons rfl ?_)) rfl (by rw [Vw.put_put]; exact Vw.le.refl _)
  ·
    simp only [Bool.and_eq_true, Bool.or_eq_true, Bool.not_eq_true', Bool.or_eq_false_iff, Bool.and_eq_false_iff, decide_eq_true_eq, decide_eq_false_iff_not, beq_iff_eq, bne_iff_ne, Bool.not_eq_false', beq_eq_false_iff_ne, bne_eq_false_iff_eq, ne_eq, Decidable.not_not, Int.not_lt, Int.not_le] at h
    refine c_exit ?_
    refine x_then_exit ?_
    refine x_then_exit ?_
    refine x_block_hit ?_
    refine x_then ?_
    refine c_seq ?_
    refine c_draw mixed (by kernel_rfl) ?_
    refine d_yield rfl rfl rfl (y_val tok rfl) rfl ?_
    refine d_yield rfl rfl rfl (y_val tok rfl) rfl ?_
    refine d_yield rfl rfl rfl (y_val tok rfl) rfl ?_
    refine d_yield rfl rfl rfl (y_val tok rfl) rfl ?_
    have hkl : k = S.length := by omega
    refine d_yield rfl rfl rfl (y_ldp (cs := bkC (.slice a n c) hv qv g) tok rfl (fun hg => hbk _) rfl) rfl ?_
    refine d_yield rfl rfl rfl (y_len tok rfl (fun hg => (hs _).sl)) rfl ?_
    refine d_yield rfl rfl rfl (y_val tok rfl) rfl ?_
    refine d_yield rfl rfl rfl (y_val tok rfl) rfl ?_
    refine d_yield rfl rfl rfl (y_val tok rfl) rfl ?_
    refine d_yield rfl rfl rfl (y_val tok rfl) rfl ?_
    refine d_yield rfl rfl rfl (y_ldp (cs := bkC (.slice a n c) hv qv g) tok rfl (fun hg => hbk _) rfl) rfl ?_
    refine d_yield rfl rfl rfl (y_val tok rfl) rfl ?_
    refine d_yield rfl rfl rfl (y_val tok rfl) rfl ?_
    refine d_end [2] rfl ?_
    refine x_then ?_
    refine c_ret ?_
    refine b_ret tok rfl ?_
    intro E w' hm _
    refine ⟨?_, hm.below (hle1 _)⟩
    rw [hlen, beq_self_eq_true]; rfl

theorem tMay_c (V : Vw) (g : Geo) (tv : Value) (t : Tb) (w : World) (ht : t.Fit) (hV : V.le (vw w)) (h : TbIs V tv t) (hok : TbOk g.slots g.blocks t) :
    Calls Try.prog 17 #[g.val, tv] w fun e w' => e = .returned (.bool true) ∧ Below w.heap.size w w' := by
  have h0 := h
  obtain ⟨a, n, c, a2, n2, c2, a3, n3, c3, rfl, h1, h2, h3⟩ := h
  have hss := ht.s
  have hh := ht.h
  have hq := ht.q
  have hlim : lim = 4398046511104 := rfl
  have hQ := h3.mono hV
  have hal : (t.H ++ t.Q).length ≤ 200000 := by rw [List.length_append]; omega
  have hpi := (pre_iff.1 hok.toTbPre).2
  refine enter (E := E0) (O := []) (nl := 0) (V := vw w) [.a (.v g.val), .a (.v (.agg #[.slice a n c, .slice a2 n2 c2, .slice a3 n3 c3]))] Try.func17 rfl rfl (mem0 E0 0 w) rfl rfl ?_
  refine c_seq ?_
  refine c_region ?_
  refine o_new tok rfl rfl rfl rfl ?_
  refine o_new tok rfl rfl rfl rfl ?_
  refine o_yield rfl rfl rfl (y_val tok rfl) ?_
  refine o_end [2, 3] rfl ?_
  refine x_then ?_
  refine c_seq ?_
  refine c_region ?_
  refine o_yield rfl rfl rfl (y_val tok rfl) ?_
  refine o_yield rfl rfl rfl (y_val tok rfl) ?_
  refine o_step rfl rfl rfl rfl rfl (s_bookNew (e0 := 91) (gs := g.cells) (R1 := slR t.S) (R2 := hoR t.H) (R3 := hoR t.Q) rfl fnok56 (fun E w1 hm => open_c V g _ t ht w1 (hV.trans hm.leV) h0)) (fun _ _ => ?_)
  refine o_yield rfl rfl rfl (y_val tok rfl) ?_
  refine o_end [2, 3, 5] rfl ?_
  refine x_then ?_
  refine c_seq ?_
  refine c_heldR mixed rfl (by repeat (first | exact SubO.nil | refine SubO.cons rfl ?_)) (by first | rfl | simp [okCels, allOk_plain]) ?_
  refine t_take 0 rfl (by kernel_rfl) rfl rfl rfl (y_val tok rfl) rfl ?_
  refine t_take 1 rfl (by kernel_rfl) rfl rfl rfl (y_val tok rfl) rfl ?_
  refine t_take 2 rfl (by kernel_rfl) rfl rfl rfl (y_val tok rfl) rfl ?_
  refine t_take 3 rfl (by kernel_rfl) rfl rfl rfl (y_val tok rfl) rfl ?_
  refine t_take 4 rfl (by kernel_rfl) rfl rfl rfl (y_val tok rfl) rfl ?_
  refine t_take 5 rfl (by kernel_rfl) rfl rfl rfl (y_val tok rfl) rfl ?_
  refine t_take 6 rfl (by kernel_rfl) rfl rfl rfl (y_val tok rfl) rfl ?_
  refine t_take 7 rfl (by kernel_rfl) rfl rfl rfl (y_val tok rfl) rfl ?_
  refine t_take 8 rfl (by kernel_rfl) rfl rfl rfl (y_val tok rfl) rfl ?_
  refine t_take 9 rfl (by kernel_rfl) rfl rfl rfl (y_val tok rfl) rfl ?_
  refine t_go ?_
  refine h_one 10 (by kernel_rfl) ?_
  refine h_to 10 rfl rfl rfl rfl rfl rfl (s_bsA tok rfl) (.inr fun x hx => ⟨(by repeat (first | exact SubO.nil | refine SubO.cons rfl ?_)), rfl, (by first | exact Vw.le.refl _ | exact hx.1)⟩) (fun xb hxb => ?_)
  refine h_one 11 (by kernel_rfl) ?_
  refine h_to 11 rfl rfl rfl rfl rfl rfl (s_callRow 43 4 (t.H ++ t.Q).length ((t.H ++ t.Q).flatMap Hold.cells) rfl fnok62 (fun E w1 hm => concat2_c xb (E.κ 4) (E.κ 5) t.H t.Q w1 (by rw [← (hm.pin 7 6 xb rfl).1]; exact hm.lit 6 _ _ rfl) (hm.rowOf 4 rfl (fun _ => rfl)) (hm.rowOf 5 rfl (fun _ => rfl)) (by omega))) (.inr fun _ _ => ⟨(by repeat (first | exact SubO.nil | refine SubO.cons rfl ?_)), rfl, (by first | exact Vw.le.refl _ | assumption)⟩) (fun _ _ => ?_)
  refine h_one 12 (by kernel_rfl) ?_
  refine h_yield 12 rfl rfl rfl rfl (y_val tok rfl) ?_
  refine h_done [2, 3, 5, 6] (by kernel_rfl) rfl ?_
  refine x_then ?_
  refine c_seq ?_
  refine k_freeze 8 rfl (fun lv V1 hle1 hsl1 _ => ?_)
  have hL1 : SlOf V1 Hold.cells 4 lv (t.H ++ t.Q) := ⟨hsl1, fun _ => rfl⟩
  obtain ⟨L, hLe⟩ : ∃ L, L = t.H ++ t.Q := ⟨_, rfl⟩
  rw [← hLe] at hal hL1 hpi
  clear hsl1
  refine c_region ?_
  refine o_step rfl rfl rfl rfl rfl (s_mkMapV rfl) (fun mb hmb => ?_)
  have hle2 : ∀ es, V1.le (V1.put mb (mvOb es)) := fun es => Vw.put_le (Vw.le.refl _) hmb
  have hL : ∀ es, SlOf (V1.put mb (mvOb es)) Hold.cells 4 lv L := fun es => hL1.mono (hle2 es)
  refine o_yield rfl rfl rfl (y_val tok rfl) ?_
  refine o_end [2, 3, 5, 6, 7] rfl ?_
  refine x_then ?_
  refine c_seq ?_
  refine c_seq ?_
  refine c_region ?_
  refine o_yield rfl rfl rfl (y_val tok rfl) ?_
  refine o_yield rfl rfl rfl (y_len tok rfl (fun hg => (hL _).sl)) ?_
  refine o_yield rfl rfl rfl (y_val tok rfl) ?_
  refine o_end [2, 3, 5, 6, 7, 28, 29, 30] rfl ?_
  refine x_then ?_
  refine c_block ?_
  refine c_loopV [2, 3, 5, 6, 7, 28, 29] [] rfl rfl (σ := Nat × List (Int × Value)) (fun (k, es) => [(30, .a (.v (I k)))]) (fun (k, es) => []) (fun (k, es) => V1.put mb (mvOb es)) (fun (k, es) => k ≤ L.length ∧ ∀ key, (mvGet es key).getD (I 0) = I (ownN (L.take k) key)) (fun (k, es) => L.length - k) ((0, [])) (⟨by omega, fun key => rfl⟩) (by repeat (first | exact SubF.nil | refine SubF.cons rfl ?_)) (by repeat (first | exact SubO.nil | refine SubO.cons rfl ?_)) rfl (Vw.le.refl _) ?_
  rintro ⟨k, es⟩ ⟨hk, hes⟩
  dsimp only at hk hes ⊢
  refine c_seq ?_
  refine c_region ?_
  refine o_yield rfl rfl rfl (y_val tok rfl) ?_
  refine o_end [2, 3, 5, 6, 7, 28, 29, 30, 31] rfl ?_
  refine x_then ?_
  refine c_seq ?_
  refine c_cond rfl (fun h => ?_) (fun h => ?_)
  ·
    simp only [Bool.and_eq_true, Bool.or_eq_true, Bool.not_eq_true', Bool.or_eq_false_iff, Bool.and_eq_false_iff, decide_eq_true_eq, decide_eq_false_iff_not, beq_iff_eq, bne_iff_ne, Bool.not_eq_false', beq_eq_false_iff_ne, bne_eq_false_iff_eq, ne_eq, Decidable.not_not, Int.not_lt, Int.not_le] at h
    refine c_skip ?_
    refine x_then ?_
    refine c_seq ?_
    refine c_block ?_
    refine c_seq ?_
    refine c_region ?_
    refine o_yield rfl rfl rfl (y_val tok rfl) ?_
    have hL0 := hL es
    obtain ⟨x, h_x⟩ := hL0.at (k := k) (by omega)
    have hlt_x := lt_of_at h_x
    refine o_yield rfl rfl rfl (y_idx tok rfl (fun hg => hL0.sl) (fun hg => ⟨by omega, by omega⟩)) ?_
    refine o_yield rfl rfl rfl (y_lel tok (k) 0 (x) rfl (fun hg => hL0) (fun hg => h_x) rfl rfl) ?_
    refine o_new tok rfl rfl rfl rfl ?_
    refine o_yield rfl rfl rfl (y_val tok rfl) ?_
    refine o_store tok rfl rfl rfl (by first | exact ⟨trivial, trivial⟩ | (repeat' first | exact trivial | exact rfl | apply And.intro); done | simp [onesP, oneP, lk, Value.oneCell']) ?_
    refine o_end [2, 3, 5, 6, 7, 8, 9, 28, 29, 30] rfl ?_
    refine x_then ?_
    refine c_seq ?_
    refine c_region ?_
    refine o_yield rfl rfl rfl (y_val tok rfl) ?_
    refine o_yield rfl rfl rfl (y_val tok rfl) ?_
    refine o_yield rfl rfl rfl (y_val tok rfl) ?_
    obtain ⟨⟨g1, g2⟩, g3, g4⟩ := hpi k x h_x
    have hown := ownN_take x.key h_x
    rw [if_pos (by simp)] at hown
    have hole : ownN (L.take k) x.key ≤ k := Nat.le_trans (ownN_le _ _) (by rw [List.length_take]; omega)
    have hsub : ownN (L.take (k + 1)) x.key ≤ ownN L x.key := ownN_sub (List.take_sublist _ _) _
    have hwo : IntKind.i64.wrap ((ownN (L.take k) x.key : Int) + 1) = (ownN (L.take (k + 1)) x.key : Int) := by rw [hown, wrapI (by omega) (by omega)]; omega
    refine o_yield rfl rfl rfl (y_lkpV es (I (ownN (L.take k) x.key)) rfl Try.underlying96 Try.underlying3 (fun w => Try.zeroValue3 w) (fun hg => Vw.put_get _ _ _) (fun hg => hes x.key)) ?_
    refine o_yield rfl rfl rfl (y_val tok rfl) ?_
    rw [hwo]
    obtain ⟨es2, hes2⟩ : ∃ es2, es2 = mvPut es x.key (I (ownN (L.take (k + 1)) x.key)) := ⟨_, rfl⟩
    have hget2 : ∀ key, (mvGet es2 key).getD (I 0) = I (ownN (L.take (k + 1)) key) := by
      intro key
      rw [hes2, mvGet_put]
      by_cases e : x.key = key
      · subst e; rw [if_pos rfl]; rfl
      · rw [if_neg e, hes key, ownN_take key h_x, if_neg (by simpa using e)]; rfl
    have hcut := (hL es2).cut (lo := 0) (hi := k) (by omega) hk
    simp only [List.drop_zero, Nat.sub_zero] at hcut
    have hLs := hL es2
    refine o_stepN rfl rfl rfl rfl (s_mapPut es rfl rfl Try.underlying96 Try.underlying3 (Vw.put_get _ _ _)) (fun _ _ => ?_)
    refine o_end [2, 3, 5, 6, 7, 8, 9, 28, 29, 30] rfl ?_
    refine x_then ?_
    refine c_seq ?_
    refine c_region ?_
    refine o_yield rfl rfl rfl (y_val tok rfl) ?_
    refine o_yield rfl rfl rfl (y_val tok rfl) ?_
    refine o_yield rfl rfl rfl (y_val tok rfl) ?_
    rw [Vw.put_put, ← hes2]
    refine o_call (.a (.v _)) rfl rfl fnok63 rfl rfl rfl (fun hg E w1 hm => by exact bSlot_c (vw w1) (E.ρ 2) (E.κ 3) (E.κ 4) (E.κ 5) g t.S x.key _ (Vw.le.refl _) (hm.lit 2 _ _ rfl) (hm.rowOf 3 rfl (fun _ => rfl)) (by omega)) ?_
    refine o_yield rfl rfl rfl (y_val tok rfl) ?_
    refine o_yield rfl rfl rfl (y_val tok rfl) ?_
    refine o_yield rfl rfl rfl (y_val tok rfl) ?_
    refine o_yield rfl rfl rfl (y_val tok rfl) ?_
    refine o_yield rfl rfl rfl (y_val tok rfl) ?_
    refine o_end [2, 3, 5, 6, 7, 8, 9, 11, 28, 29, 30] rfl ?_
    refine x_then ?_
    refine c_seq ?_
    refine c_draw mixed (by kernel_rfl) ?_
    refine d_yield rfl rfl rfl (y_val tok rfl) rfl ?_
    refine d_yield rfl rfl rfl (y_val tok rfl) rfl ?_
    refine d_yield rfl rfl rfl (y_val tok rfl) rfl ?_
    refine d_yield rfl rfl rfl (y_val tok rfl) rfl ?_
    refine d_yield rfl rfl rfl (y_val tok rfl) rfl ?_
    refine d_call (.a (.v _)) rfl rfl fnok64 rfl rfl rfl (fun hg E w1 hm => by exact spHold_c g x _) ?_
    refine d_yield rfl rfl rfl (y_val tok rfl) rfl ?_
    refine d_yield rfl rfl rfl (y_val tok rfl) rfl ?_
    refine d_yield rfl rfl rfl (y_val tok rfl) rfl ?_
    refine d_yield rfl rfl rfl (y_val tok rfl) rfl ?_
    refine d_yield rfl rfl rfl (y_val tok rfl) rfl ?_
    refine d_yield rfl rfl rfl (y_sl tok rfl (fun hg => hLs.sl) (fun hg => ⟨by dsimp only [Option.getD]; omega, by dsimp only [Option.getD]; omega, by dsimp only [Option.getD]; omega⟩)) rfl ?_
    refine d_yield rfl rfl rfl (y_val tok rfl) rfl ?_
    refine d_yield rfl rfl rfl (y_val tok rfl) rfl ?_
    refine d_yield rfl rfl rfl (y_val tok rfl) rfl ?_
    refine d_yield rfl rfl rfl (y_val tok rfl) rfl ?_
    refine d_call (.a (.v _)) rfl rfl fnok65 rfl rfl rfl (fun hg E w1 hm => by exact spTouches_c (vw w1) _ (L.take k) x.key x.lo x.hi _ (Vw.le.refl _) (hcut.mono hm.leV) (by rw [List.length_take]; omega)) ?_
    refine d_yield rfl rfl rfl (y_val tok rfl) rfl ?_
    refine d_yield rfl rfl rfl (y_val tok rfl) rfl ?_
    refine d_yield rfl rfl rfl (y_val tok rfl) rfl ?_
    refine d_yield rfl rfl rfl (y_val tok rfl) rfl ?_
    refine d_yield rfl rfl rfl (y_val tok rfl) rfl ?_
    refine d_yield rfl rfl rfl (y_lkpV es2 (I (ownN (L.take (k + 1)) x.key)) rfl Try.underlying96 Try.underlying3 (fun w => Try.zeroValue3 w) (fun hg => Vw.put_get _ _ _) (fun hg => hget2 x.key)) rfl ?_
    refine d_yield rfl rfl rfl (y_val tok rfl) rfl ?_
    refine d_yield rfl rfl rfl (y_val tok rfl) rfl ?_
    refine d_end [2, 3, 5, 6, 7, 28, 29, 30, 71] rfl ?_
    refine x_then ?_
    refine c_cond rfl (fun h => ?_) (fun h => ?_)
    ·
      refine c_seq ?_
      refine c_region ?_
      refine o_yield rfl rfl rfl (y_val tok rfl) ?_
      refine o_end [4] rfl ?_
      refine x_then ?_
      refine c_ret ?_
      refine x_block_ret ?_
      refine x_then_ret ?_
      refine x_then_ret ?_
      refine x_block_ret ?_
      refine x_then_ret ?_
      refine b_ret tok rfl ?_
      exfalso
      rw [g2, g3, decide_eq_true g1, decide_eq_false (show ¬ (64 < (ownN (L.take (k + 1)) x.key : Int)) by omega)] at h
      simp at h
    ·
      refine c_skip ?_
      refine x_block ?_
      refine x_then ?_
      refine c_region ?_
      refine o_yield rfl rfl rfl (y_val tok rfl) ?_
      refine o_yield rfl rfl rfl (y_val tok rfl) ?_
      refine o_end [2, 3, 5, 6, 7, 28, 29, 30] rfl ?_
      refine x_then ?_
      rw [wrapI (by omega) (by omega)]
      refine x_round ((k + 1, es2)) (⟨by dsimp only; omega, hget2⟩) (by first | omega | (dsimp only; omega)) (by repeat (first | exact SubF.nil | refine SubF.cons rfl ?_)) (by repeat (first | exact SubO.nil | refine SubO.cons rfl ?_)) rfl (Vw.le.refl _)
  ·
    simp only [Bool.and_eq_true, Bool.or_eq_true, Bool.not_eq_true', Bool.or_eq_false_iff, Bool.and_eq_false_iff, decide_eq_true_eq, decide_eq_false_iff_not, beq_iff_eq, bne_iff_ne, Bool.not_eq_false', beq_eq_false_iff_ne, bne_eq_false_iff_eq, ne_eq, Decidable.not_not, Int.not_lt, Int.not_le] at h
    clear h
    refine c_exit ?_
    refine x_then_exit ?_
    refine x_then_exit ?_
    refine x_block_hit ?_
    refine x_then ?_
    refine c_seq ?_
    refine c_seq ?_
    refine c_region ?_
    refine o_yield rfl rfl rfl (y_val tok rfl) ?_
    refine o_call (.a (.v _)) rfl rfl fnok66 rfl rfl rfl (fun hg E w1 hm => by exact bMembers_c (vw w1) (E.ρ 2) (E.κ 3) (E.κ 4) (E.κ 5) g t.S _ (Vw.le.refl _) (hm.lit 2 _ _ rfl) (hm.rowOf 3 rfl (fun _ => rfl)) hss hok.slots hok.n) ?_
    refine o_yield rfl rfl rfl (y_val tok rfl) ?_
    refine o_yield rfl rfl rfl (y_val tok rfl) ?_
    refine o_yield rfl rfl rfl (y_val tok rfl) ?_
    refine o_yield rfl rfl rfl (y_val tok rfl) ?_
    refine o_yield rfl rfl rfl (y_val tok rfl) ?_
    refine o_yield rfl rfl rfl (y_val tok rfl) ?_
    refine o_yield rfl rfl rfl (y_val tok rfl) ?_
    refine o_call (.a (.v _)) rfl rfl fnok67 rfl rfl rfl (fun hg E w1 hm => by exact spAll_c (vw w1) (E.κ 4) t.H _ (Vw.le.refl _) (hm.rowOf 4 rfl (fun _ => rfl)) (by omega)) ?_
    refine o_yield rfl rfl rfl (y_val tok rfl) ?_
    refine o_yield rfl rfl rfl (y_val tok rfl) ?_
    refine o_end [3, 5, 84] rfl ?_
    refine x_then ?_
    refine c_cond rfl (fun h => ?_) (fun h => ?_)
    ·
      refine c_seq ?_
      refine c_region ?_
      refine o_yield rfl rfl rfl (y_val tok rfl) ?_
      refine o_end [4] rfl ?_
      refine x_then ?_
      refine c_ret ?_
      refine x_then_ret ?_
      refine b_ret tok rfl ?_
      exfalso
      rw [hok.all] at h
      simp at h
    ·
      refine c_skip ?_
      refine x_then ?_
      refine c_seq ?_
      refine c_region ?_
      refine o_yield rfl rfl rfl (y_val tok rfl) ?_
      refine o_step rfl rfl rfl rfl rfl (s_bookW (lo := 2) (a := 3) (b := 4) (c := 5) (fun _ => True) (slR t.S) (hoR t.grant.H) (hoR t.grant.Q) rfl fnok68 rfl rfl rfl rfl ⟨⟨by decide, by decide⟩, by decide⟩ (fun E w hm hin hle => grant_c g t ht (bkE E 2 3 4 5) _ w hin)) (fun _ _ => ?_)
      refine o_end [3, 5] rfl ?_
      refine x_then ?_
      refine c_seq ?_
      refine c_draw mixed (by kernel_rfl) ?_
      refine d_yield rfl rfl rfl (y_val tok rfl) rfl ?_
      refine d_yield rfl rfl rfl (y_val tok rfl) rfl ?_
      refine d_yield rfl rfl rfl (y_val tok rfl) rfl ?_
      refine d_yield rfl rfl rfl (y_val tok rfl) rfl ?_
      refine d_yield rfl rfl rfl (y_val tok rfl) rfl ?_
      refine d_yield rfl rfl rfl (y_own (s := .a (.v (I t.grant.Q.length))) 11 rfl rfl (fun v V' hv => y_len tok rfl (fun hg => hv))) rfl ?_
      refine d_yield rfl rfl rfl (y_val tok rfl) rfl ?_
      refine d_yield rfl rfl rfl (y_val tok rfl) rfl ?_
      refine d_yield rfl rfl rfl (y_len tok rfl (fun hg => (hQ.mono (hle1.trans (hle2 es))).sl)) rfl ?_
      refine d_yield rfl rfl rfl (y_val tok rfl) rfl ?_
      refine d_yield rfl rfl rfl (y_val tok rfl) rfl ?_
      refine d_end [4] rfl ?_
      refine x_then ?_
      refine c_ret ?_
      refine b_ret tok rfl ?_
      intro E w' hm _
      refine ⟨?_, hm.below (hle1.trans (hle2 es))⟩
      rw [hok.still, beq_self_eq_true]; rfl
end Go.Proofs.Ytiapfhcimekdkaa

/- What the document says of a hold that is freed. -/
set_option linter.unusedVariables false
set_option linter.unusedSimpArgs false
set_option maxRecDepth 100000
namespace Go.Proofs.Ytiapfhcimekdkaa
open Go Go.Eng Go.RowKit

theorem repZ_slots : ∀ k : Nat, repZ k [I 0, I 0] = (List.replicate k (⟨0, 0⟩ : Slot)).flatMap Slot.cells
  | 0 => rfl
  | k + 1 => by rw [List.replicate_succ, List.flatMap_cons, ← repZ_slots k]; rfl

def newN (slots : Int) : Nat := (min (max slots 0) 16).toNat
def newT (slots : Int) : Tb := ⟨List.replicate (newN slots) ⟨0, 0⟩, [], []⟩

theorem new_c (V : Vw) (g : Geo) (w : World) (hV : V.le (vw w)) : Calls Try.prog 12 #[g.val] w (TbOut V (newT g.slots) w) := by
  have hk : min (max g.slots 0) 16 = ((newN g.slots : Nat) : Int) := by rw [newN]; omega
  have hk16 : newN g.slots ≤ 16 := by rw [newN]; omega
  refine enter (E := E0) (O := []) (nl := 0) (V := vw w) [.a (.v g.val)] Try.func12 rfl rfl (mem0 E0 0 w) rfl rfl ?_
  refine c_seq ?_
  refine c_region ?_
  refine o_new tok rfl rfl rfl rfl ?_
  refine o_new tok rfl rfl rfl rfl ?_
  refine o_end [1, 2] rfl ?_
  refine x_then ?_
  refine c_seq ?_
  refine c_region ?_
  refine o_yield rfl rfl rfl (y_val tok rfl) ?_
  refine o_yield rfl rfl rfl (y_val tok rfl) ?_
  refine o_yield rfl rfl rfl (y_mm rfl) ?_
  refine o_yield rfl rfl rfl (y_mm rfl) ?_
  rw [show (bif false then max (bif true then max g.slots 0 else min g.slots 0) 16 else min (bif true then max g.slots 0 else min g.slots 0) 16) = ((newN g.slots : Nat) : Int) from hk]
  refine o_step rfl rfl rfl rfl rfl (s_mk tok (newN g.slots) (newN g.slots) rfl rfl rfl (Nat.le_refl _) (by show 16 * newN g.slots ≤ _; omega) (by simp only [maxLen]; omega)) (fun _ _ => ?_)
  refine o_yield rfl rfl rfl (y_val tok rfl) ?_
  refine o_store tok rfl rfl rfl (by first | exact ⟨trivial, trivial⟩ | (repeat' first | exact trivial | exact rfl | apply And.intro); done | simp [onesP, oneP, lk, Value.oneCell']) ?_
  refine o_end [2] rfl ?_
  refine x_then ?_
  refine c_ret ?_
  refine b_ret tok rfl ?_
  intro E' w' hm _
  have hrow := hm.rowFresh (Vw.le.refl _) (l := 2) rfl
  rw [show repZ (newN g.slots) _ = _ from repZ_slots (newN g.slots)] at hrow
  exact TbIs.out (t := newT g.slots) hV (hm.below (Vw.le.refl _)) (by show World.ownsRow _ _ _ _ _ (List.replicate (newN g.slots) (⟨0, 0⟩ : Slot)).length _; rw [List.length_replicate]; exact hrow) (World.ownsRow_nil w' w.heap.size _ _) (World.ownsRow_nil w' w.heap.size _ _)

theorem hold11_c (h : Hold) (w : World) : Calls Try.prog 53 #[I h.key, I h.lo, I h.hi, I8 h.mode] w fun e w' => e = .returned h.val ∧ Below w.heap.size w w' := by
  refine enter (E := E0) (O := []) (nl := 0) (V := vw w) [.a (.v (I h.key)), .a (.v (I h.lo)), .a (.v (I h.hi)), .a (.v (I8 h.mode))] Try.func53 rfl rfl (mem0 E0 0 w) rfl rfl ?_
  refine c_seq ?_
  refine c_region ?_
  refine o_new tok rfl rfl rfl rfl ?_
  refine o_end [0, 1, 2, 3, 8] rfl ?_
  refine x_then ?_
  refine c_seq ?_
  refine c_region ?_
  refine o_yield rfl rfl rfl (y_val tok rfl) ?_
  refine o_yield rfl rfl rfl (y_val tok rfl) ?_
  refine o_yield rfl rfl rfl (y_val tok rfl) ?_
  refine o_yield rfl rfl rfl (y_val tok rfl) ?_
  refine o_yield rfl rfl rfl (y_val tok rfl) ?_
  refine o_yield rfl rfl rfl (y_val tok rfl) ?_
  refine o_store tok rfl rfl rfl (by first | exact ⟨trivial, trivial⟩ | (repeat' first | exact trivial | exact rfl | apply And.intro); done | simp [onesP, oneP, lk, Value.oneCell']) ?_
  refine o_end [8] rfl ?_
  refine x_then ?_
  refine c_ret ?_
  refine b_ret tok rfl ?_
  intro E w' hm _
  refine ⟨?_, hm.below (Vw.le.refl _)⟩
  rfl

abbrev gW : Geo := ⟨0, 3, 4, 0, 0, 0, 0, 0⟩
abbrev tW : Tb := ⟨[⟨16, 0⟩, ⟨17, 0⟩, ⟨18, 0⟩], [⟨16, 0, 3, 2⟩], [⟨17, 0, 1, 2⟩, ⟨18, 1, 1, 1⟩]⟩
abbrev cW : Cmd := ⟨3, 16, 0, 0, 0, 0, 3, 0⟩

abbrev hd17 : Hold := ⟨17, 0, 1, 2⟩
abbrev hd18 : Hold := ⟨18, 1, 1, 1⟩

theorem applyW : tW.apply gW.blocks cW = ⟨[⟨16, 0⟩, ⟨17, 0⟩, ⟨18, 0⟩], [⟨17, 0, 1, 2⟩], [⟨18, 1, 1, 1⟩]⟩ := rfl

theorem okW : TbOk gW.slots gW.blocks tW := by
  refine ok_iff.2 ⟨pre_iff.2 ⟨⟨rfl, ?_, rfl⟩, ?_⟩, rfl⟩
  · refine ⟨?_, ?_⟩
    · intro x hx
      simp only [List.mem_cons, List.not_mem_nil, or_false] at hx
      rcases hx with rfl | rfl | rfl <;> decide
    · simp
  · intro i x hx
    match i with
    | 0 => cases hx; exact ⟨⟨by decide, by decide⟩, by decide, by decide⟩
    | 1 => cases hx; exact ⟨⟨by decide, by decide⟩, by decide, by decide⟩
    | 2 => cases hx; exact ⟨⟨by decide, by decide⟩, by decide, by decide⟩
    | i + 3 => simp at hx

theorem wakes11_c (w : World) : Calls Try.prog 11 #[] w fun e w' => e = .returned (.bool true) ∧ Below w.heap.size w w' := by
  refine enter (E := E0) (O := []) (nl := 0) (V := vw w) [] Try.func11 rfl rfl (mem0 E0 0 w) rfl rfl ?_
  refine c_seq ?_
  refine c_region ?_
  refine o_yield rfl rfl rfl (y_val tok rfl) ?_
  refine o_end [] rfl ?_
  refine x_then ?_
  refine c_seq ?_
  refine c_region ?_
  refine o_yield rfl rfl rfl (y_val tok rfl) ?_
  refine o_new tok rfl rfl rfl rfl ?_
  refine o_store tok rfl rfl rfl (by first | exact ⟨trivial, trivial⟩ | (repeat' first | exact trivial | exact rfl | apply And.intro); done | simp [onesP, oneP, lk, Value.oneCell']) ?_
  refine o_end [1] rfl ?_
  refine x_then ?_
  refine c_seq ?_
  refine c_region ?_
  refine o_yield rfl rfl rfl (y_val tok rfl) ?_
  refine o_yield rfl rfl rfl (y_val tok rfl) ?_
  refine o_yield rfl rfl rfl (y_val tok rfl) ?_
  refine o_bs tok rfl rfl rfl rfl (fun b1 W1 hlw1 hb1 => ?_)
  refine o_call (.agg [.v (I 16), .v (I 0), .v (I 3), .v (I8 2)]) rfl rfl fnok53 rfl rfl rfl (fun hg E w1 hm => by exact hold11_c ⟨16, 0, 3, 2⟩ _) ?_
  refine o_bs tok rfl rfl rfl rfl (fun b2 W2 hlw2 hb2 => ?_)
  refine o_call (.agg [.v (I 17), .v (I 0), .v (I 1), .v (I8 2)]) rfl rfl fnok53 rfl rfl rfl (fun hg E w1 hm => by exact hold11_c ⟨17, 0, 1, 2⟩ _) ?_
  refine o_call (.agg [.v (I 18), .v (I 1), .v (I 1), .v (I8 1)]) rfl rfl fnok53 rfl rfl rfl (fun hg E w1 hm => by exact hold11_c ⟨18, 1, 1, 1⟩ _) ?_
  refine o_bs tok rfl rfl rfl rfl (fun b3 W3 hlw3 hb3 => ?_)
  refine o_yield rfl rfl rfl (y_val tok rfl) ?_
  refine o_new tok rfl rfl rfl rfl ?_
  refine o_store tok rfl rfl rfl (by first | exact ⟨trivial, trivial⟩ | (repeat' first | exact trivial | exact rfl | apply And.intro); done | simp [onesP, oneP, lk, Value.oneCell']) ?_
  refine o_end [1, 2] rfl ?_
  refine x_then ?_
  refine c_seq ?_
  refine c_region ?_
  refine o_yield rfl rfl rfl (y_val tok rfl) ?_
  refine o_yield rfl rfl rfl (y_val tok rfl) ?_
  refine o_yield rfl rfl rfl (y_val tok rfl) ?_
  refine o_yield rfl rfl rfl (y_val tok rfl) ?_
  have hS : SlOf W1 Slot.cells 2 (.slice (some ⟨b1, 0, none⟩) 3 3) tW.S := SlOf.ofBlock (enc := Slot.cells) (sz := 2) (l := tW.S) (hb1 rfl) rfl (fun _ => rfl) (Nat.le_refl _)
  have hH : SlOf W2 Hold.cells 4 (.slice (some ⟨b2, 0, none⟩) 1 1) tW.H := SlOf.ofBlock (enc := Hold.cells) (sz := 4) (l := tW.H) (hb2 rfl) rfl (fun _ => rfl) (Nat.le_refl _)
  have hQ : SlOf W3 Hold.cells 4 (.slice (some ⟨b3, 0, none⟩) 2 2) tW.Q := SlOf.ofBlock (enc := Hold.cells) (sz := 4) (l := tW.Q) (hb3 rfl) rfl (fun _ => rfl) (Nat.le_refl _)
  have hT : TbIs W3 (.agg #[.slice (some ⟨b1, 0, none⟩) 3 3, .slice (some ⟨b2, 0, none⟩) 1 1, .slice (some ⟨b3, 0, none⟩) 2 2]) tW := ⟨_, _, _, _, _, _, _, _, _, rfl, hS.mono (hlw2.trans hlw3), hH.mono hlw3, hQ⟩
  have hF : tW.Fit := ⟨by decide, by decide, by decide⟩
  clear hS hH hb1 hb2 hb3
  refine o_callV (fun v V' => TbIs V' v (tW.apply gW.blocks cW)) rfl rfl fnok14 rfl rfl (fun hg E w1 hm => by exact apply_c W3 gW _ tW hF (by decide) cW (by decide) _ hm.leV hT) ?_
  rintro v4 W4 hlw4 hv4
  have hv := hv4 rfl
  rw [applyW] at hv
  obtain ⟨a1, n1, c1, a2, n2, c2, a3, n3, c3, rfl, k1, k2, k3⟩ := hv
  clear hv4
  refine o_new tok rfl rfl rfl rfl ?_
  refine o_store tok rfl rfl rfl (by first | exact ⟨trivial, trivial⟩ | (repeat' first | exact trivial | exact rfl | apply And.intro); done | simp [onesP, oneP, lk, Value.oneCell']) ?_
  refine o_end [1, 2, 3] rfl ?_
  refine x_then ?_
  refine c_seq ?_
  refine c_region ?_
  refine o_yield rfl rfl rfl (y_val tok rfl) ?_
  refine o_yield rfl rfl rfl (y_val tok rfl) ?_
  refine o_call (.a (.v _)) rfl rfl fnok17 rfl rfl rfl (fun hg E w1 hm => by exact tMay_c W3 gW _ tW _ hF (hlw4.trans hm.leV) hT okW) ?_
  refine o_yield rfl rfl rfl (y_val tok rfl) ?_
  refine o_yield rfl rfl rfl (y_val tok rfl) ?_
  refine o_yield rfl rfl rfl (y_val tok rfl) ?_
  have hx17 : ([hd17] : List Hold)[0]? = some hd17 := rfl
  have hx18 : ([hd18] : List Hold)[0]? = some hd18 := rfl
  refine o_yield rfl rfl rfl (y_len tok rfl (fun hg => k2.sl)) ?_
  refine o_yield rfl rfl rfl (y_val tok rfl) ?_
  refine o_yield rfl rfl rfl (y_val tok rfl) ?_
  refine o_yield rfl rfl rfl (y_val tok rfl) ?_
  refine o_yield rfl rfl rfl (y_val tok rfl) ?_
  refine o_yield rfl rfl rfl (y_val tok rfl) ?_
  have hlt_hd17 := lt_of_at hx17
  refine o_yield rfl rfl rfl (y_idx tok rfl (fun hg => k2.sl) (fun hg => ⟨by decide, by decide⟩)) ?_
  refine o_yield rfl rfl rfl (y_fel tok rfl (fun hg => k2.sl) (fun hg => by omega)) ?_
  refine o_yield rfl rfl rfl (y_lel tok (0) 0 (hd17) rfl (fun hg => k2) (fun hg => hx17) rfl rfl) ?_
  refine o_yield rfl rfl rfl (y_val tok rfl) ?_
  refine o_yield rfl rfl rfl (y_val tok rfl) ?_
  refine o_yield rfl rfl rfl (y_val tok rfl) ?_
  refine o_yield rfl rfl rfl (y_val tok rfl) ?_
  refine o_yield rfl rfl rfl (y_val tok rfl) ?_
  refine o_yield rfl rfl rfl (y_len tok rfl (fun hg => k3.sl)) ?_
  refine o_yield rfl rfl rfl (y_val tok rfl) ?_
  refine o_yield rfl rfl rfl (y_val tok rfl) ?_
  refine o_yield rfl rfl rfl (y_val tok rfl) ?_
  refine o_yield rfl rfl rfl (y_val tok rfl) ?_
  refine o_yield rfl rfl rfl (y_val tok rfl) ?_
  have hlt_hd18 := lt_of_at hx18
  refine o_yield rfl rfl rfl (y_idx tok rfl (fun hg => k3.sl) (fun hg => ⟨by decide, by decide⟩)) ?_
  refine o_yield rfl rfl rfl (y_fel tok rfl (fun hg => k3.sl) (fun hg => by omega)) ?_
  refine o_yield rfl rfl rfl (y_lel tok (0) 0 (hd18) rfl (fun hg => k3) (fun hg => hx18) rfl rfl) ?_
  refine o_yield rfl rfl rfl (y_val tok rfl) ?_
  refine o_yield rfl rfl rfl (y_val tok rfl) ?_
  refine o_yield rfl rfl rfl (y_val tok rfl) ?_
  refine o_yield rfl rfl rfl (y_val tok rfl) ?_
  refine o_yield rfl rfl rfl (y_val tok rfl) ?_
  refine o_yield rfl rfl rfl (y_len tok rfl (fun hg => (hQ.mono hlw4).sl)) ?_
  refine o_yield rfl rfl rfl (y_val tok rfl) ?_
  refine o_yield rfl rfl rfl (y_val tok rfl) ?_
  refine o_yield rfl rfl rfl (y_val tok rfl) ?_
  refine o_yield rfl rfl rfl (y_val tok rfl) ?_
  refine o_callV (fun v V' => TbIs V' v (newT gW.slots)) rfl rfl fnok12 rfl rfl (fun hg E w1 hm => by exact new_c W4 gW _ hm.leV) ?_
  rintro v5 W5 hlw5 hv5
  obtain ⟨d1, m1, e1, d2, m2, e2, d3, m3, e3, rfl, j1, j2, j3⟩ := hv5 rfl
  refine o_yield rfl rfl rfl (y_val tok rfl) ?_
  refine o_yield rfl rfl rfl (y_len tok rfl (fun hg => j1.sl)) ?_
  refine o_yield rfl rfl rfl (y_val tok rfl) ?_
  refine o_yield rfl rfl rfl (y_val tok rfl) ?_
  refine o_yield rfl rfl rfl (y_val tok rfl) ?_
  refine o_end [0] rfl ?_
  refine x_then ?_
  refine c_ret ?_
  refine b_ret tok rfl ?_
  intro E w' hm _
  refine ⟨?_, hm.below (by repeat (first | exact Vw.le.refl _ | assumption | (refine Vw.le.trans ?_ (by assumption))))⟩
  rfl
end Go.Proofs.Ytiapfhcimekdkaa

/- THE LAW TableStays: of a new table, and commands that may be, what comes may be. -/
set_option linter.unusedVariables false
set_option linter.unusedSimpArgs false
set_option maxRecDepth 100000
namespace Go.Proofs.Ytiapfhcimekdkaa
open Go Go.Eng Go.RowKit

theorem grant_sum (t : Tb) : t.grant.H.length + t.grant.Q.length = t.H.length + t.Q.length := by
  have := grant_len' t.Q t.H []
  simp only [List.length_nil, Nat.add_zero] at this
  exact this

theorem clear_sum (t : Tb) (k : Nat) : (t.clear k).H.length + (t.clear k).Q.length ≤ t.H.length + t.Q.length := by
  rw [Tb.clear, grant_sum]
  have h1 := List.length_filter_le (fun h : Hold => !(h.key == slotKey t.S k)) t.H
  have h2 := List.length_filter_le (fun h : Hold => !(h.key == slotKey t.S k)) t.Q
  dsimp only
  omega

/-- A command brings one hold at most. -/
theorem apply_sum (blocks : Int) (t : Tb) (c : Cmd) : (t.apply blocks c).H.length + (t.apply blocks c).Q.length ≤ t.H.length + t.Q.length + 1 := by
  unfold Tb.apply
  split
  · unfold Tb.mount
    split
    · omega
    · split <;> first | omega | (dsimp only; omega)
  · split
    · unfold Tb.leave
      split
      · have := clear_sum t (by assumption); omega
      · omega
    · split
      · unfold Tb.ask
        split
        · rw [grant_sum]; dsimp only; rw [List.length_append]; dsimp only [List.length]; omega
        · omega
      · split
        · unfold Tb.free
          split
          · rw [grant_sum]; dsimp only; have := (erase_sub t.H (by assumption)).length_le; omega
          · split
            · rw [grant_sum]; dsimp only; have := (erase_sub t.Q (by assumption)).length_le; omega
            · omega
        · split
          · unfold Tb.claim
            split
            · split <;> first | omega | (dsimp only; omega)
            · omega
          · split
            · unfold Tb.purge
              split
              · split
                · have := clear_sum t (by assumption); omega
                · omega
              · omega
            · omega

theorem TbOk.fitS {n blocks : Int} {t : Tb} (h : TbOk n blocks t) (hn : n ≤ 16) (hs : t.H.length + t.Q.length ≤ 1000) : t.Fit ∧ t.Q.length + 1 ≤ 100000 := by
  have := h.n
  exact ⟨⟨by omega, by omega, by omega⟩, by omega⟩

theorem cmdB_key {c : Cmd} (h : cmdB c = true) : 16 ≤ c.by_ := by
  simp only [cmdB, Bool.and_eq_true] at h
  have := h.1.1.1
  simp only [keyB, Bool.and_eq_true, decide_eq_true_eq] at this
  exact this.1

theorem new_ok {g : Geo} (h1 : 1 ≤ g.slots) (h2 : g.slots ≤ 16) : TbOk g.slots g.blocks (newT g.slots) := by
  have := TbOk.new (newN g.slots) g.blocks
  rwa [show ((newN g.slots : Nat) : Int) = g.slots by rw [newN]; omega] at this

theorem tableStays_law (w : World) {v0 v1 : Value} (R0 : ∃ g : Geo, v0 = g.val ∧ g.Ok) (R1 : ∃ l : List Cmd, SlOf (vw w) Cmd.cells 8 v1 l ∧ l.length ≤ maxLen ∧ ∀ a ∈ l, Cmd.Ok a) :
    Calls Try.prog 3 #[v0, v1] w fun e w' => e = .returned (.bool true) ∧ Below w.heap.size w w' := by
  obtain ⟨g, rfl, ok⟩ := R0
  obtain ⟨l, hs, hn, hlok⟩ := R1
  obtain ⟨a0, n0, c0, rfl⟩ := sl_shape hs.sl
  simp only [maxLen] at hn
  refine enter (E := E0) (O := []) (nl := 0) (V := vw w) [.a (.v g.val), .a (.v (.slice a0 n0 c0))] Try.func3 rfl rfl (mem0 E0 0 w) rfl rfl ?_
  refine c_seq ?_
  refine c_region ?_
  refine o_new tok rfl rfl rfl rfl ?_
  refine o_yield rfl rfl rfl (y_val tok rfl) ?_
  refine o_end [1, 2] rfl ?_
  refine x_then ?_
  refine c_seq ?_
  refine c_seq ?_
  refine c_region ?_
  refine o_yield rfl rfl rfl (y_val tok rfl) ?_
  refine o_yield rfl rfl rfl (y_len tok rfl (fun hg => hs.sl)) ?_
  refine o_yield rfl rfl rfl (y_val tok rfl) ?_
  refine o_yield rfl rfl rfl (y_val tok rfl) ?_
  refine o_yield rfl rfl rfl (y_val tok rfl) ?_
  refine o_yield rfl rfl rfl (y_val tok rfl) ?_
  refine o_yield rfl rfl rfl (y_val tok rfl) ?_
  refine o_yield rfl rfl rfl (y_val tok rfl) ?_
  refine o_yield rfl rfl rfl (y_val tok rfl) ?_
  refine o_yield rfl rfl rfl (y_val tok rfl) ?_
  refine o_yield rfl rfl rfl (y_val tok rfl) ?_
  refine o_yield rfl rfl rfl (y_val tok rfl) ?_
  refine o_yield rfl rfl rfl (y_val tok rfl) ?_
  refine o_yield rfl rfl rfl (y_val tok rfl) ?_
  refine o_yield rfl rfl rfl (y_val tok rfl) ?_
  refine o_yield rfl rfl rfl (y_val tok rfl) ?_
  refine o_yield rfl rfl rfl (y_val tok rfl) ?_
  refine o_yield rfl rfl rfl (y_val tok rfl) ?_
  refine o_yield rfl rfl rfl (y_val tok rfl) ?_
  refine o_yield rfl rfl rfl (y_val tok rfl) ?_
  refine o_yield rfl rfl rfl (y_val tok rfl) ?_
  refine o_yield rfl rfl rfl (y_val tok rfl) ?_
  refine o_yield rfl rfl rfl (y_val tok rfl) ?_
  refine o_end [1, 2, 29] rfl ?_
  refine x_then ?_
  refine c_cond rfl (fun h => ?_) (fun h => ?_)
  ·
    simp only [Bool.and_eq_true, Bool.or_eq_true, Bool.not_eq_true', Bool.or_eq_false_iff, Bool.and_eq_false_iff, decide_eq_true_eq, decide_eq_false_iff_not, beq_iff_eq, bne_iff_ne, Bool.not_eq_false', beq_eq_false_iff_ne, bne_eq_false_iff_eq, ne_eq, Decidable.not_not, Int.not_lt, Int.not_le] at h
    refine c_seq ?_
    refine c_region ?_
    refine o_call (.a (.v _)) rfl rfl fnok11 rfl rfl rfl (fun hg E w1 hm => by exact wakes11_c _) ?_
    refine o_yield rfl rfl rfl (y_val tok rfl) ?_
    refine o_end [4] rfl ?_
    refine x_then ?_
    refine c_ret ?_
    refine x_then_ret ?_
    refine b_ret tok rfl ?_
    intro E w' hm _
    refine ⟨?_, hm.below (Vw.le.refl _)⟩
    rfl
  ·
    simp only [Bool.and_eq_true, Bool.or_eq_true, Bool.not_eq_true', Bool.or_eq_false_iff, Bool.and_eq_false_iff, decide_eq_true_eq, decide_eq_false_iff_not, beq_iff_eq, bne_iff_ne, Bool.not_eq_false', beq_eq_false_iff_ne, bne_eq_false_iff_eq, ne_eq, Decidable.not_not, Int.not_lt, Int.not_le] at h
    obtain ⟨⟨⟨⟨h1, h2⟩, h3⟩, h4⟩, h5⟩ := h
    refine c_skip ?_
    refine x_then ?_
    refine c_seq ?_
    refine c_region ?_
    refine o_yield rfl rfl rfl (y_val tok rfl) ?_
    refine o_callV (fun v V' => TbIs V' v (newT g.slots)) rfl rfl fnok12 rfl rfl (fun hg E w1 hm => by exact new_c (vw w) g _ hm.leV) ?_
    rintro v1 W1 hle1 hv1
    have hT1 := hv1 rfl
    obtain ⟨d1, m1, e1, d2, m2, e2, d3, m3, e3, rfl, _⟩ := id hT1
    refine o_new tok rfl rfl rfl rfl ?_
    refine o_store tok rfl rfl rfl (by first | exact ⟨trivial, trivial⟩ | (repeat' first | exact trivial | exact rfl | apply And.intro); done | simp [onesP, oneP, lk, Value.oneCell']) ?_
    refine o_end [1, 2, 5] rfl ?_
    refine x_then ?_
    refine c_seq ?_
    refine c_seq ?_
    refine c_region ?_
    refine o_yield rfl rfl rfl (y_val tok rfl) ?_
    refine o_end [1, 2, 5, 6] rfl ?_
    refine x_then ?_
    refine c_block ?_
    refine c_loopV [1, 2, 5] [1] rfl rfl (σ := Nat × Value × Value × Value × Tb × Vw) (fun (i, s, u, q, t, W) => [(6, .a (.v (I i)))]) (fun (i, s, u, q, t, W) => [(1, .lit [.v s, .v u, .v q] 29)]) (fun (i, s, u, q, t, W) => W) (fun (i, s, u, q, t, W) => (i ≤ l.length ∧ t.H.length + t.Q.length ≤ i) ∧ (vw w).le W ∧ TbIs W (.agg #[s, u, q]) t ∧ TbOk g.slots g.blocks t) (fun (i, s, u, q, t, W) => l.length - i) ((0, _, _, _, newT g.slots, W1)) (⟨⟨by omega, Nat.le_refl _⟩, hle1, hT1, new_ok h2 h3⟩) (by repeat (first | exact SubF.nil | refine SubF.cons rfl ?_)) (by repeat (first | exact SubO.nil | refine SubO.cons rfl ?_)) rfl (Vw.le.refl _) ?_
    rintro ⟨i, s, u, q, t, W⟩ ⟨⟨hi, hsum⟩, hle, hT, hok⟩
    dsimp only at hi hsum hle hT hok ⊢
    have hs' := hs.mono hle
    have hfit := hok.fitS h3 (by omega)
    refine c_seq ?_
    refine c_seq ?_
    refine c_region ?_
    refine o_yield rfl rfl rfl (y_val tok rfl) ?_
    refine o_yield rfl rfl rfl (y_val tok rfl) ?_
    refine o_yield rfl rfl rfl (y_len tok rfl (fun hg => hs'.sl)) ?_
    refine o_yield rfl rfl rfl (y_val tok rfl) ?_
    refine o_end [1, 2, 5, 6, 36] rfl ?_
    refine x_then ?_
    refine c_cond rfl (fun h => ?_) (fun h => ?_)
    ·
      simp only [Bool.and_eq_true, Bool.or_eq_true, Bool.not_eq_true', Bool.or_eq_false_iff, Bool.and_eq_false_iff, decide_eq_true_eq, decide_eq_false_iff_not, beq_iff_eq, bne_iff_ne, Bool.not_eq_false', beq_eq_false_iff_ne, bne_eq_false_iff_eq, ne_eq, Decidable.not_not, Int.not_lt, Int.not_le] at h
      refine c_skip ?_
      refine x_then ?_
      refine c_seq ?_
      refine c_block ?_
      refine c_seq ?_
      refine c_seq ?_
      refine c_region ?_
      refine o_yield rfl rfl rfl (y_val tok rfl) ?_
      refine o_yield rfl rfl rfl (y_val tok rfl) ?_
      obtain ⟨c, h_c⟩ := hs'.at (k := i) (by omega)
      have hlt_c := lt_of_at h_c
      refine o_yield rfl rfl rfl (y_idx tok rfl (fun hg => hs'.sl) (fun hg => ⟨by omega, by omega⟩)) ?_
      refine o_yield rfl rfl rfl (y_lel tok (i) 0 (c) rfl (fun hg => hs') (fun hg => h_c) rfl rfl) ?_
      have hck := (hlok c (List.mem_of_getElem? h_c)).kind
      have hwi : IntKind.i64.wrap ((i : Int) + 1) = ((i + 1 : Nat) : Int) := wrapI (by omega) (by omega)
      refine o_call (.a (.v _)) rfl rfl fnok13 rfl rfl rfl (fun hg E w1 hm => by exact refCmdMay_c c _) ?_
      refine o_yield rfl rfl rfl (y_val tok rfl) ?_
      refine o_end [1, 2, 5, 6, 44] rfl ?_
      refine x_then ?_
      refine c_cond rfl (fun h => ?_) (fun h => ?_)
      ·
        refine c_exit ?_
        refine x_then_exit ?_
        refine x_block_hit ?_
        refine x_then ?_
        refine c_region ?_
        refine o_yield rfl rfl rfl (y_val tok rfl) ?_
        refine o_yield rfl rfl rfl (y_val tok rfl) ?_
        refine o_yield rfl rfl rfl (y_val tok rfl) ?_
        refine o_end [1, 2, 5, 6] rfl ?_
        refine x_then ?_
        rw [hwi]
        refine x_round ((i + 1, s, u, q, t, W)) (⟨⟨by dsimp only; omega, by dsimp only; omega⟩, hle, hT, hok⟩) (by first | omega | (dsimp only; omega)) (by repeat (first | exact SubF.nil | refine SubF.cons rfl ?_)) (by repeat (first | exact SubO.nil | refine SubO.cons rfl ?_)) rfl (Vw.le.refl _)
      ·
        have hcm : cmdB c = true := by simpa using h
        clear h
        have hok2 := hok.apply (c := c) (cmdB_key hcm)
        have hsum2 := apply_sum g.blocks t c
        refine c_skip ?_
        refine x_then ?_
        refine c_seq ?_
        refine c_heldS [7] mixed rfl (by repeat (first | exact SubO.nil | refine SubO.cons rfl ?_)) (by first | rfl | simp [okCels, allOk_plain]) ?_
        refine t_takeD 0 rfl (by kernel_rfl) rfl rfl rfl (y_val tok rfl) rfl ?_
        refine t_takeD 1 rfl (by kernel_rfl) rfl rfl rfl (y_val tok rfl) rfl ?_
        refine t_takeD 2 rfl (by kernel_rfl) rfl rfl rfl (y_val tok rfl) rfl ?_
        refine t_takeD 3 rfl (by kernel_rfl) rfl rfl rfl (y_val tok rfl) rfl ?_
        have hlt_c := lt_of_at h_c
        refine t_takeD 4 rfl (by kernel_rfl) rfl rfl rfl (y_idx tok rfl (fun hg => hs'.sl) (fun hg => ⟨by omega, by omega⟩)) rfl ?_
        refine t_takeD 5 rfl (by kernel_rfl) rfl rfl rfl (y_lel tok (i) 0 (c) rfl (fun hg => hs') (fun hg => h_c) rfl rfl) rfl ?_
        refine t_go ?_
        refine h_one 6 (by kernel_rfl) ?_
        refine h_callV 6 (fun v V' => TbIs V' v (t.apply g.blocks c)) rfl rfl rfl fnok14 rfl rfl (fun hg E w1 hm => by exact apply_c W g _ t hfit.1 hfit.2 c hck _ hm.leV hT) ?_
        rintro v2 W2 hle2 hv2
        have hT2 := hv2 rfl
        obtain ⟨x1, y1, z1, x2, y2, z2, x3, y3, z3, rfl, _, k2, _⟩ := id hT2
        have hfit2 := hok2.fitS h3 (by omega)
        have hlim : lim = 4398046511104 := rfl
        have hhl := hfit2.1.h
        refine h_one 7 (by kernel_rfl) ?_
        refine h_store 7 tok rfl rfl rfl rfl (by first | exact ⟨trivial, trivial⟩ | (repeat' first | exact trivial | exact rfl | apply And.intro); done | simp [onesP, oneP, lk, Value.oneCell']) (.inl rfl) ?_
        refine h_done [1, 2, 5, 6] (by kernel_rfl) rfl ?_
        refine x_then ?_
        refine c_seq ?_
        refine c_region ?_
        refine o_yield rfl rfl rfl (y_val tok rfl) ?_
        refine o_yield rfl rfl rfl (y_val tok rfl) ?_
        refine o_call (.a (.v _)) rfl rfl fnok15 rfl rfl rfl (fun hg E w1 hm => by exact rMay_c (vw w1) g _ (t.apply g.blocks c) _ hfit2.1 (Vw.le.refl _) (hT2.mono hm.leV)) ?_
        refine o_yield rfl rfl rfl (y_val tok rfl) ?_
        refine o_yield rfl rfl rfl (y_val tok rfl) ?_
        refine o_yield rfl rfl rfl (y_val tok rfl) ?_
        refine o_yield rfl rfl rfl (y_val tok rfl) ?_
        refine o_call (.a (.v _)) rfl rfl fnok16 rfl rfl rfl (fun hg E w1 hm => by exact spRall_c (vw w1) _ (t.apply g.blocks c).H _ (Vw.le.refl _) (k2.mono hm.leV) (by omega)) ?_
        refine o_yield rfl rfl rfl (y_val tok rfl) ?_
        refine o_yield rfl rfl rfl (y_val tok rfl) ?_
        refine o_end [1, 2, 5, 6, 61] rfl ?_
        refine x_then ?_
        refine c_cond rfl (fun h => ?_) (fun h => ?_)
        ·
          refine c_seq ?_
          refine c_region ?_
          refine o_yield rfl rfl rfl (y_val tok rfl) ?_
          refine o_end [4] rfl ?_
          refine x_then ?_
          refine c_ret ?_
          refine x_block_ret ?_
          refine x_then_ret ?_
          refine x_then_ret ?_
          refine x_block_ret ?_
          refine x_then_ret ?_
          refine b_ret tok rfl ?_
          exfalso
          rw [cdec_true hok2, hok2.all] at h
          simp at h
        ·
          refine c_skip ?_
          refine x_block ?_
          refine x_then ?_
          refine c_region ?_
          refine o_yield rfl rfl rfl (y_val tok rfl) ?_
          refine o_yield rfl rfl rfl (y_val tok rfl) ?_
          refine o_yield rfl rfl rfl (y_val tok rfl) ?_
          refine o_end [1, 2, 5, 6] rfl ?_
          refine x_then ?_
          rw [hwi]
          refine x_round ((i + 1, _, _, _, t.apply g.blocks c, W2)) (⟨⟨by dsimp only; omega, by dsimp only; omega⟩, hle.trans hle2, hT2, hok2⟩) (by first | omega | (dsimp only; omega)) (by repeat (first | exact SubF.nil | refine SubF.cons rfl ?_)) (by repeat (first | exact SubO.nil | refine SubO.cons rfl ?_)) rfl (Vw.le.refl _)
    ·
      simp only [Bool.and_eq_true, Bool.or_eq_true, Bool.not_eq_true', Bool.or_eq_false_iff, Bool.and_eq_false_iff, decide_eq_true_eq, decide_eq_false_iff_not, beq_iff_eq, bne_iff_ne, Bool.not_eq_false', beq_eq_false_iff_ne, bne_eq_false_iff_eq, ne_eq, Decidable.not_not, Int.not_lt, Int.not_le] at h
      clear h
      refine c_exit ?_
      refine x_then_exit ?_
      refine x_then_exit ?_
      refine x_block_hit ?_
      refine x_then ?_
      refine c_seq ?_
      refine c_region ?_
      refine o_yield rfl rfl rfl (y_val tok rfl) ?_
      refine o_yield rfl rfl rfl (y_val tok rfl) ?_
      refine o_call (.a (.v _)) rfl rfl fnok17 rfl rfl rfl (fun hg E w1 hm => by exact tMay_c (vw w1) g _ t _ hfit.1 (Vw.le.refl _) (hT.mono hm.leV) hok) ?_
      refine o_yield rfl rfl rfl (y_val tok rfl) ?_
      refine o_call (.a (.v _)) rfl rfl fnok11 rfl rfl rfl (fun hg E w1 hm => by exact wakes11_c _) ?_
      refine o_yield rfl rfl rfl (y_val tok rfl) ?_
      refine o_yield rfl rfl rfl (y_val tok rfl) ?_
      refine o_end [4] rfl ?_
      refine x_then ?_
      refine c_ret ?_
      refine b_ret tok rfl ?_
      intro E w' hm _
      refine ⟨?_, hm.below (hle)⟩
      rfl
end Go.Proofs.Ytiapfhcimekdkaa
