import Derived.Test.YtlafboeohojcbaaGreatMRw6
import Derived.Test.YtlafboeohojcbaaGreatEng44
/- A block as it stands, by the law's own reading; what stands where. -/
set_option linter.unusedVariables false
set_option linter.unusedSimpArgs false
set_option maxRecDepth 100000
namespace Go.Proofs.YtlafboeohojcbaaGreat
open Go Go.Eng Go.RowKit
theorem what_cV (V : Vw) (g : Geo) (ok : g.Ok) (hG : geoB g = true) (q : Nat) (hq : (q : Int) < totV g) (w : World) (hV : V.le (vw w)) :
  Calls Tryz.prog 8 #[g.val, I q] w fun e w' => ∃ x V', e = .returned x ∧ Below w.heap.size w w' ∧ Vext w.heap.size V V' w' ∧ ∃ k a b, x = .tuple #[I8 k, I a, I b] ∧ WhatP g q k a b := by
 refine (what_c g ok hG q hq w).mono ?_
 rintro e w' ⟨k, a, b, ⟨rfl, h⟩, hbl⟩
 exact ⟨_, V, rfl, hbl, Vext.same hV hbl, k, a, b, rfl, h⟩
theorem refCof_c (n : Int) (w : World) : Calls Tryz.prog 36 #[I n] w fun e w' => e = .returned (I (seatOf n)) ∧ Below w.heap.size w w' := by
 refine enter (E := E0) (O := []) (nl := 0) (V := vw w) [.a (.v (I n))] Tryz.func36 rfl rfl (mem0 E0 0 w) rfl rfl ?_
 refine c_seq (c_region ?_)
 refine yO rfl rfl rfl rfl ?_
 refine o_end [0] rfl ?_
 refine x_then (c_seq (c_seq (c_region ?_)))
 refine yO rfl rfl rfl rfl ?_
 refine o_call (.a (.v _)) rfl rfl fnok35 rfl rfl rfl (fun hg E w1 hm => by exact refKey_c _ _) ?_
 refine yO rfl rfl rfl rfl ?_
 refine o_end [0, 5] rfl ?_
 refine x_then ?_
 refine c_cond rfl (fun h => ?_) (fun h => ?_)
 ·
  refine c_seq (c_region ?_)
  refine yO rfl rfl rfl rfl ?_
  refine o_end [2] rfl ?_
  refine x_then (c_ret (x_then_ret ?_))
  refine b_ret tok rfl ?_
  intro E w' hm _
  refine ⟨?_, hm.below (Vw.le.refl _)⟩
  rw [seatOf, if_neg (by simpa using h)]; rfl
 ·
  refine c_skip (x_then (c_seq (c_region ?_)))
  refine yO rfl rfl rfl rfl ?_
  refine o_yield rfl rfl rfl (y_rem rfl (fun hg => by decide)) ?_
  refine yO rfl rfl rfl rfl ?_
  refine o_end [2] rfl ?_
  refine x_then (c_ret ?_)
  refine b_ret tok rfl ?_
  intro E w' hm _
  refine ⟨?_, hm.below (Vw.le.refl _)⟩
  rw [seatOf, if_pos (by simpa using h)]; rfl
theorem rbegin21_c (g : Geo) (ok : g.Ok) (slot key : Int) (w : World) :
  Calls Tryz.prog 11 #[g.val, I slot, I key] w fun e w' => e = .returned (.tuple #[rpV (if begP g slot key = true then slot else 0) (if begP g slot key = true then key else 0) 0 0 (.slice none 0 0) (.slice none 0 0) 0 0, I (if begP g slot key = true then 0 else 2)]) ∧ Below w.heap.size w w' := by
 refine enter (E := E0) (O := []) (nl := 0) (V := vw w) [.a (.v g.val), .a (.v (I slot)), .a (.v (I key))] Tryz.func11 rfl rfl (mem0 E0 0 w) rfl rfl ?_
 refine c_seq (c_region ?_)
 iterate 2 refine o_new tok rfl rfl rfl rfl ?_
 refine yO rfl rfl rfl rfl ?_
 refine o_end [1, 2, 3, 6] rfl ?_
 refine x_then (c_seq (c_seq (c_region ?_)))
 iterate 2 refine yO rfl rfl rfl rfl ?_
 refine o_call (.a (.v _)) rfl rfl fnok26 rfl rfl rfl (fun hg E w1 hm => by exact refHead_c g ok slot _) ?_
 iterate 3 refine yO rfl rfl rfl rfl ?_
 refine o_call (.a (.v _)) rfl rfl fnok35 rfl rfl rfl (fun hg E w1 hm => by exact refKey_c key _) ?_
 iterate 4 refine yO rfl rfl rfl rfl ?_
 refine o_call (.a (.v _)) rfl rfl fnok36 rfl rfl rfl (fun hg E w1 hm => by exact refCof_c key _) ?_
 iterate 2 refine yO rfl rfl rfl rfl ?_
 refine o_end [1, 2, 6, 21] rfl ?_
 refine x_then ?_
 refine c_cond rfl (fun h => ?_) (fun h => ?_)
 ·
  simp only [Xa, Xb, Xc, Xd, Xe, Xf, Xg, Xh, Xi, Xj, Xk, Xl, Xm, Xn, Xo, Xp] at h
  refine c_seq (c_region ?_)
  refine yO rfl rfl rfl rfl ?_
  refine o_store tok rfl rfl rfl (by first | (repeat' first | exact trivial | exact rfl | apply And.intro); done | simp [onesP, oneP, lk, Value.oneCell']) ?_
  refine yO rfl rfl rfl rfl ?_
  refine o_end [6, 7] rfl ?_
  refine x_then (c_ret (x_then_ret ?_))
  refine b_ret tok rfl ?_
  have hb : begP g slot key = false := by
   rw [begP]
   rcases h with (h | h) | h
   · rw [decide_eq_false (by omega)]; rfl
   · rw [h, Bool.and_false]; rfl
   · rw [decide_eq_false (p := 0 ≤ seatOf key) (by omega), Bool.and_false]
  intro E w' hm _
  refine ⟨?_, hm.below (Vw.le.refl _)⟩
  rw [hb]
  rfl
 ·
  simp only [Xa, Xb, Xc, Xd, Xe, Xf, Xg, Xh, Xi, Xj, Xk, Xl, Xm, Xn, Xo, Xp] at h
  refine c_skip (x_then (c_seq (c_region ?_)))
  iterate 3 refine yO rfl rfl rfl rfl ?_
  refine o_store tok rfl rfl rfl (by first | (repeat' first | exact trivial | exact rfl | apply And.intro); done | simp [onesP, oneP, lk, Value.oneCell']) ?_
  refine yO rfl rfl rfl rfl ?_
  refine o_end [6, 7] rfl ?_
  refine x_then (c_ret ?_)
  refine b_ret tok rfl ?_
  have hb : begP g slot key = true := by
   rw [begP, h.1.2, decide_eq_true (by omega), decide_eq_true (by omega)]
   rfl
  intro E w' hm _
  refine ⟨?_, hm.below (Vw.le.refl _)⟩
  rw [hb]
  rfl
theorem smost_c (g : Geo) (hG : geoB g = true) (w : World) : Calls Tryz.prog 14 #[g.val] w fun e w' => e = .returned (I (2 + g.journal + g.blocks * g.per)) ∧ Below w.heap.size w w' := by
 have hf := geo_facts hG
 have hz := geo_sizes hG
 refine enter (E := E0) (O := []) (nl := 0) (V := vw w) [.a (.v g.val)] Tryz.func14 rfl rfl (mem0 E0 0 w) rfl rfl ?_
 refine c_seq (c_region ?_)
 refine o_new tok rfl rfl rfl rfl ?_
 refine yO rfl rfl rfl rfl ?_
 refine o_end [1] rfl ?_
 refine x_then (c_seq (c_region ?_))
 iterate 10 refine yO rfl rfl rfl rfl ?_
 refine o_end [2] rfl ?_
 refine x_then (c_ret ?_)
 refine b_ret tok rfl ?_
 intro E w' hm _
 refine ⟨?_, hm.below (Vw.le.refl _)⟩
 rw [wrapI (n := 2 + g.journal) (by omega) (by omega), wrapI (n := g.blocks * g.per) (by omega) (by omega), wrapI (by omega) (by omega)]
 rfl
theorem nowS_size {S : List ByteArray} (hS : ∀ x ∈ S, x.size ≤ 512) (g : Geo) (n : Int) : ∀ k, (nowS S g n k).size ≤ 512 * k
 | 0 => by simp [nowS]
 | k + 1 => by
  have := nowS_size hS g n k
  have h2 : (S.getD (dataV g n (k : Int)).toNat ByteArray.empty).size ≤ 512 := by
   rw [List.getD]
   cases h : S[(dataV g n (k : Int)).toNat]? with
   | none => simp
   | some x => exact hS x (List.mem_of_getElem? h)
  rw [nowS, ByteArray.size_append]
  omega
theorem now21_c (V : Vw) (g : Geo) (ok : g.Ok) (hG : geoB g = true) (a : Option Addr) (n c : Nat) (D : List ByteArray) (hD : (D.length : Int) = totV g) (hz : ∀ x ∈ D, x.size ≤ 512) (blk : Int) (h0 : 0 ≤ blk) (h1 : blk < g.blocks) (w : World) (hV : V.le (vw w)) (hs0 : SlOf V encS 1 (.slice a n c) D) :
  Calls Tryz.prog 16 #[g.val, .slice a n c, I blk] w fun e w' => e = .returned (S (nowS D g blk g.per.toNat)) ∧ Below w.heap.size w w' := by
 have hs := hs0.mono hV
 have hf := geo_facts hG
 have hgs := geo_sizes hG
 have htt : totV g = dataAt g + g.blocks * g.per := by rw [totV, if_pos hG]
 obtain ⟨per, hper⟩ : ∃ per : Nat, g.per = per := ⟨g.per.toNat, by omega⟩
 have hpn : g.per.toNat = per := by omega
 rw [hpn]
 refine enter (E := E0) (O := []) (nl := 0) (V := vw w) [.a (.v g.val), .a (.v (.slice a n c)), .a (.v (I blk))] Tryz.func16 rfl rfl (mem0 E0 0 w) rfl rfl ?_
 refine c_seq (c_region ?_)
 refine o_new tok rfl rfl rfl rfl ?_
 refine yO rfl rfl rfl rfl ?_
 refine o_end [1, 2, 3] rfl ?_
 refine x_then (c_seq (c_region ?_))
 refine yO rfl rfl rfl rfl ?_
 refine o_end [1, 2, 3, 7] rfl ?_
 refine x_then (c_seq (c_seq (c_region ?_)))
 refine yO rfl rfl rfl rfl ?_
 refine o_end [1, 2, 3, 7, 8] rfl ?_
 refine x_then (c_block ?_)
 have e0 : nowS D g blk 0 = ByteArray.empty := rfl
 refine c_loopK [1, 2, 3] [] rfl rfl (σ := Nat) (fun k => [(7, .a (.v (.string (nowS D g blk k)))), (8, .a (.v (I k)))]) (fun k => []) (fun k => k ≤ per) (fun k => per - k) (0) (by omega) (by repeat (first | exact SubF.nil | refine SubF.cons rfl ?_ | refine SubF.cons (by simp only [e0]; first | done | rfl) ?_)) (by repeat (first | exact SubO.nil | refine SubO.cons rfl ?_ | refine SubO.cons (by simp only [e0]; first | done | rfl) ?_)) rfl ?_
 rintro k hk
 iterate 2 refine c_seq ?_
 refine c_region ?_
 iterate 4 refine yO rfl rfl rfl rfl ?_
 refine o_end [1, 2, 3, 7, 8, 12] rfl ?_
 refine x_then ?_
 refine c_cond rfl (fun h => ?_) (fun h => ?_)
 ·
  simp only [Xa, Xb, Xc, Xd, Xe, Xf, Xg, Xh, Xi, Xj, Xk, Xl, Xm, Xn, Xo, Xp] at h
  refine c_skip (x_then (c_seq (c_block (c_region ?_))))
  iterate 5 refine yO rfl rfl rfl rfl ?_
  have hd := data_lt (n := blk) (k := (k : Int)) hG h0 h1 (by omega) (by omega)
  obtain ⟨q, hq⟩ : ∃ q : Nat, dataV g blk (k : Int) = q := ⟨(dataV g blk (k : Int)).toNat, by omega⟩
  obtain ⟨x, hx⟩ : ∃ x, D[q]? = some x := ⟨_, List.getElem?_eq_getElem (by omega)⟩
  have hdc := fun w => refData_c g ok blk (k : Int) w
  rw [hq] at hdc
  have hxz := hz x (List.mem_of_getElem? hx)
  have hnz := nowS_size hz g blk k
  have hsucc : nowS D g blk (k + 1) = nowS D g blk k ++ x := by rw [nowS, hq, Int.toNat_natCast, List.getD, hx]; rfl
  refine o_call (.a (.v _)) rfl rfl fnok19 rfl rfl rfl (fun hg E w1 hm => by exact hdc _) ?_
  have hlt_x := lt_of_at hx
  refine o_yield rfl rfl rfl (y_idx tok rfl (fun hg => hs.sl) (fun hg => ⟨by omega, by omega⟩)) ?_
  refine o_yield rfl rfl rfl (y_lel tok (q) 0 (x) rfl (fun hg => hs) (fun hg => hx) rfl rfl) ?_
  refine o_yield rfl rfl rfl (y_cat rfl (fun hg => by omega)) ?_
  refine yO rfl rfl rfl rfl ?_
  refine o_end [1, 2, 3, 7, 8] rfl ?_
  refine x_block (x_then (c_region ?_))
  iterate 3 refine yO rfl rfl rfl rfl ?_
  refine o_end [1, 2, 3, 7, 8] rfl ?_
  refine x_then ?_
  rw [← hsucc, wrapI (n := (k : Int) + 1) (by omega) (by omega)]
  refine x_round (k + 1) (by omega) (by first | omega | (dsimp only; omega)) (by repeat (first | exact fN | refine fC rfl ?_)) (by repeat (first | exact oN | refine oC rfl ?_)) rfl (Vw.le.refl _)
 ·
  simp only [Xa, Xb, Xc, Xd, Xe, Xf, Xg, Xh, Xi, Xj, Xk, Xl, Xm, Xn, Xo, Xp] at h
  refine c_exit (x_then_exit (x_then_exit (x_block_hit (x_then (c_seq ?_)))))
  refine c_region ?_
  iterate 2 refine yO rfl rfl rfl rfl ?_
  refine o_end [6] rfl ?_
  refine x_then (c_ret ?_)
  refine b_ret tok rfl ?_
  have hkp : k = per := by omega
  subst hkp
  intro E w' hm _
  refine ⟨?_, hm.below (Vw.le.refl _)⟩
  rfl
theorem acts_most {g : Geo} {slot key tail : Int} {D : List ByteArray} {A : List Record} (hJ : RowsOf g slot key tail D A) (hml : mayL g (scanB (A.take (whole A))) = true) : (actsN g A + (celL g A).length + 1 : Int) ≤ 2 + g.journal + g.blocks * g.per ∧ (celL g A).length ≤ 512 := by
 have hf := geo_facts hJ.geo
 have hz := geo_sizes hJ.geo
 have hfew := hJ.few
 have hlen := mayL_len hml
 have hN : (actsN g A : Int) ≤ g.journal + 1 := by
  unfold actsN
  split <;> omega
 have hc : ((celL g A).length : Int) ≤ g.blocks * g.per := by
  rw [celL, allCells, cellsN_len]
  have h1 : ((scanB (A.take (whole A))).length : Int) * g.per ≤ g.blocks * g.per := Int.mul_le_mul_of_nonneg_right hlen (by omega)
  have h2 : (((scanB (A.take (whole A))).length * g.per.toNat : Nat) : Int) = ((scanB (A.take (whole A))).length : Int) * g.per := by
   rw [Int.natCast_mul, Int.toNat_of_nonneg (by omega)]
  omega
 omega
theorem run_fin (g : Geo) (ok : g.Ok) (slot key tail : Int) (hkey : keyB key = true ∧ 0 ≤ seatOf key) (D : List ByteArray) (A : List Record) (hJ : RowsOf g slot key tail D A) (hA6 : ∀ r ∈ A, r.text.size ≤ 256) (hml : mayL g (scanB (A.take (whole A))) = true)
  (s0 : ByteArray) (hd0 : D[(headV g slot).toNat]? = some s0) (htl : tailOk s0 = some tail) (ht : tail + whole A ≤ 1099511627776) (M : Nat) (hM : (M : Int) = 2 + g.journal + g.blocks * g.per) (n : Nat) (hn : n ≤ actsN g A + (celL g A).length + 1) :
  ∃ N' : Int, 0 ≤ N' ∧ N' ≤ M ∧ ∀ (b cap e : Nat) (rest : List Value) (hcap : D.length ≤ cap) (w : World) (hb : w.heap[b]? = some (.cells (csOf (gD D (celL g A) (headV g slot).toNat (headS (tail + whole A)).1 (actsN g A) n) rest) e (0, 0))),
   Calls Tryz.prog 13 #[g.val, .slice (some ⟨b, 0, none⟩) D.length cap, I slot, I key, I M] w fun ex w' => ex = .returned (.tuple #[I N', .bool true, .bool true]) ∧ Go.Eng.Touch (· = b) w w' ∧
    w'.heap[b]? = some (.cells (csOf (gD D (celL g A) (headV g slot).toNat (headS (tail + whole A)).1 (actsN g A) (actsN g A + (celL g A).length + 1)) rest) e (0, 0)) := by
 have hf := geo_facts hJ.geo
 have hz := geo_sizes hJ.geo
 have ht0 := hJ.tl0
 obtain ⟨hmost, hcl⟩ := acts_most hJ hml
 have hcok : CellsOk (D.length : Int) (celL g A) := by
  have := cells_ok hml
  rw [← hJ.len] at this
  exact this
 have hcd : ∀ c ∈ celL g A, dataAt g ≤ c.sector := cells_from hml
 have hc2 : ∀ c ∈ celL g A, c.b.size ≤ 256 := cells_256 g _
 obtain ⟨hh0, hh1⟩ := headS_back (n := tail + whole A) (by omega)
 have hs1 : headS (tail + whole A) = ((headS (tail + whole A)).1, 0) := by rw [← hh0]
 have hs6 := headS_256 (tail + whole A)
 have hgl := gD_len D (celL g A) (headV g slot).toNat (headS (tail + whole A)).1 (actsN g A) n
 have hN0 := actsN_pos g A
 by_cases hlt : n < actsN g A + (celL g A).length + 1
 ·
  refine ⟨((actsN g A + (celL g A).length + 1 : Nat) : Int), by omega, by omega, fun b cap e rest hcap w hb => ?_⟩
  have hJ2 := rows_cut hJ hcd hc2 (headS (tail + whole A)).1 hs6 (actsN g A) n
  have hd2 := (gD_hd0 hJ.geo hJ.hd hcd D (headS (tail + whole A)).1 (actsN g A) n (by omega)).trans hd0
  have hr := runG_c g ok slot key tail hkey _ A hJ2 hA6 hml (by omega) (by rw [hgl]; exact hcok) s0 hd2 htl _ hs1 M b cap e rest (by omega) (by omega) w hb
  have hmin : min M (actsN g A + (celL g A).length + 1) = actsN g A + (celL g A).length + 1 := by omega
  rw [hmin, hgl, gD_anew hcok rfl _ _ _ _ _ _ (by omega) (by omega) (by omega), decide_eq_true (show actsN g A + (celL g A).length + 1 ≤ M by omega)] at hr
  exact hr
 ·
  have hne : n = actsN g A + (celL g A).length + 1 := by omega
  subst hne
  obtain ⟨D1, hD1⟩ : ∃ D1, gD D (celL g A) (headV g slot).toNat (headS (tail + whole A)).1 (actsN g A) (actsN g A + (celL g A).length + 1) = D1 := ⟨_, rfl⟩
  have hJ2 := rows_end hJ ht hcd hc2 (headS (tail + whole A)).1 hs6 (actsN g A) (actsN g A + (celL g A).length + 1)
  have hd2 := gD_hd1 (cs := celL g A) hJ.geo hJ.hd D hJ.len (headS (tail + whole A)).1 (actsN g A) (actsN g A + (celL g A).length + 1) (by omega)
  rw [hD1] at hJ2 hd2 hgl ⊢
  have hw0 := whole_rest A
  have hml2 : mayL g (scanB ((A.drop (whole A)).take (whole (A.drop (whole A))))) = true := by rw [hw0, List.take_zero, scan_nil]; exact may_nil hJ.geo
  have hce := cel_none (g := g) hw0
  have hs2 : headS (tail + whole A + (whole (A.drop (whole A)) : Nat)) = ((headS (tail + whole A)).1, 0) := by
   rw [hw0, show tail + (whole A : Int) + ((0 : Nat) : Int) = tail + whole A by omega]
   exact hs1
  have hN2 : (actsN g (A.drop (whole A)) : Int) ≤ g.journal + 1 := by
   have := hJ2.few
   unfold actsN
   split <;> omega
  have hbp : 0 ≤ g.blocks * g.per := by omega
  refine ⟨((actsN g (A.drop (whole A)) + 0 + 1 : Nat) : Int), by omega, by omega, fun b cap e rest hcap w hb => ?_⟩
  have hr := runG_c g ok slot key (tail + whole A) hkey D1 (A.drop (whole A)) hJ2 (fun r hr => hA6 r (List.mem_of_mem_drop hr)) hml2 (by rw [hce]; simp) (by rw [hce]; exact ⟨by simp, by simp⟩) _ hd2 hh1 _ hs2 M b cap e rest (by omega) (by omega) w hb
  rw [hce, List.length_nil] at hr
  have hmin : min M (actsN g (A.drop (whole A)) + 0 + 1) = actsN g (A.drop (whole A)) + 0 + 1 := by omega
  rw [hmin, hgl, gD_stay hd2 _ _ (by omega), decide_eq_true (show actsN g (A.drop (whole A)) + 0 + 1 ≤ M by omega)] at hr
  exact hr
theorem read_recB {s : ByteArray} (h : readB s = true) : recB (readV s) = true := by
 rw [readV, if_pos h]
 rw [readB] at h
 cases hq : fieldsR 6 s rWidths with
 | none => rw [hq] at h; cases h
 | some x =>
  rw [hq] at h
  exact h
theorem rows_256 {g : Geo} {slot key tail : Int} {D : List ByteArray} {A : List Record} (hJ : RowsOf g slot key tail D A) : ∀ r ∈ A, r.text.size ≤ 256 := by
 intro r hr
 obtain ⟨j, hj⟩ := List.mem_iff_getElem?.1 hr
 obtain ⟨s, _, h1, h2⟩ := hJ.at_ j r hj
 rw [isV, if_pos h1] at h2
 rw [isB, Bool.and_eq_true, Bool.and_eq_true] at h1
 have := (recOk (read_recB h1.1.1)).text
 rw [h2] at this
 exact this
theorem gD_diff {g : Geo} (hG : geoB g = true) {slot : Int} (hh : 0 ≤ headV g slot) {cs : List Cell} (hcs : ∀ c ∈ cs, dataAt g ≤ c.sector) (D : List ByteArray) (s1 : ByteArray) (N1 n : Nat) (hn : N1 + cs.length < n) {q : Nat} {k a b : Int} (hW : WhatP g q k a b) (hne : (gD D cs (headV g slot).toNat s1 N1 n)[q]? ≠ D[q]?) : k = 7 ∨ (k = 5 ∧ a = slot) := by
 by_cases hq : dataAt g ≤ (q : Int)
 · exact .inl (hW.dat hq)
 ·
  right
  rw [gD, if_neg (by omega)] at hne
  have hqh : (headV g slot).toNat = q := by
   by_cases e : (headV g slot).toNat = q
   · exact e
   ·
    rw [List.getElem?_set_ne e, wr_all hcs D (by omega)] at hne
    exact absurd rfl hne
  obtain ⟨k0, rfl, hk0⟩ := slot_nat hh
  have h5 : k = 5 := hW.head.2 ⟨k0, hk0, by omega⟩
  obtain ⟨i, rfl, hi, hie⟩ := hW.hda h5
  exact ⟨h5, by rw [head_inj hG hi hk0 (by omega)]⟩
theorem gD_data {g : Geo} {slot : Int} {cs : List Cell} (D : List ByteArray) (s1 : ByteArray) (N1 n : Nat) (hhd : headV g slot < dataAt g) (hh : 0 ≤ headV g slot) (hn : N1 + cs.length < n) : ∀ q : Nat, dataAt g ≤ (q : Int) → (q : Int) < totV g → (gD D cs (headV g slot).toNat s1 N1 n)[q]? = (wrA D cs)[q]? := by
 intro q h1 _
 rw [gD, if_neg (by omega), List.getElem?_set_ne (by omega)]
theorem gD_sz5 {D : List ByteArray} {cs : List Cell} {s1 : ByteArray} (hD : ∀ x ∈ D, x.size ≤ 512) (hc : ∀ c ∈ cs, c.b.size ≤ 256) (h1 : s1.size ≤ 256) (hq N1 n : Nat) : ∀ x ∈ gD D cs hq s1 N1 n, x.size ≤ 512 := by
 have hset : ∀ (l : List ByteArray) (q : Nat) (y : ByteArray), (∀ x ∈ l, x.size ≤ 512) → y.size ≤ 256 → ∀ x ∈ l.set q y, x.size ≤ 512 := fun l q y h hy x hx => by
  rcases List.mem_or_eq_of_mem_set hx with h2 | h2
  · exact h x h2
  · rw [h2]; omega
 have hwr : ∀ (l : List Cell) (T : List ByteArray), (∀ c ∈ l, c.b.size ≤ 256) → (∀ x ∈ T, x.size ≤ 512) → ∀ x ∈ wrA T l, x.size ≤ 512 := by
  intro l
  induction l with
  | nil => intro T _ h; exact h
  | cons c r ih =>
   intro T hl h
   rw [wrA, List.foldl_cons]
   exact ih _ (fun x hx => hl x (List.mem_cons_of_mem _ hx)) (hset _ _ _ h (hl c List.mem_cons_self))
 rw [gD]
 split
 · exact hwr _ _ (fun c hc' => hc c (List.mem_of_mem_take hc')) hD
 · exact hset _ _ _ (hwr _ _ hc hD) h1
theorem cut_in (cut : Int) (N : Nat) : ∃ n : Nat, n ≤ N ∧ ((cut.tmod (N + 1) + N + 1).tmod (N + 1) = (n : Int)) ∧ -((N : Int) + 1) < cut.tmod (N + 1) ∧ cut.tmod (N + 1) < N + 1 := by
 have h1 := Int.tmod_lt_of_pos cut (show (0 : Int) < N + 1 by omega)
 have h2 := Int.lt_tmod_of_pos cut (show (0 : Int) < N + 1 by omega)
 have h3 : 0 ≤ cut.tmod (N + 1) + N + 1 := by omega
 have h4 := Int.tmod_nonneg (N + 1 : Int) h3
 have h5 := Int.tmod_lt_of_pos (cut.tmod (N + 1) + N + 1) (show (0 : Int) < N + 1 by omega)
 exact ⟨((cut.tmod (N + 1) + N + 1).tmod (N + 1)).toNat, by omega, by omega, by omega, h1⟩
theorem row_cs {cs : Array Value} {D : List ByteArray} (h : cs.toList.take D.length = D.flatMap encS) : cs = csOf D (cs.toList.drop D.length) := by
 rw [csOf, ← flatS, ← h, List.take_append_drop]
set_option maxHeartbeats 16000000 in
theorem replayWhole_law (w : World) {v0 v1 v2 v3 v4 : Value} (R0 : ∃ g : Geo, v0 = g.val ∧ g.Ok) (R1 : ∃ d : Device, v1 = d.val ∧ Device.Ok (vw w) d) (R2 : ∃ n : Int, v2 = I n ∧ R64 n) (R3 : ∃ n : Int, v3 = I n ∧ R64 n) (R4 : ∃ n : Int, v4 = I n ∧ R64 n) :
  Calls Tryz.prog 3 #[v0, v1, v2, v3, v4] w fun e w' => e = .returned (.bool true) ∧ Below w.heap.size w w' := by
 obtain ⟨g, rfl, ok⟩ := R0
 obtain ⟨d, rfl, hd⟩ := R1
 obtain ⟨slot, rfl, _⟩ := R2
 obtain ⟨key, rfl, _⟩ := R3
 obtain ⟨cut, rfl, hcut⟩ := R4
 obtain ⟨⟨sv, D⟩, ⟨cv, Ca⟩, ⟨kv, Ka⟩, nx, ⟨fv, Fa⟩⟩ := d
 have hsl := hd.s.sl
 have hDz := hd.s.all
 have hcl := hd.cache.sl
 have hcg := fun x hx => (hd.cache.all x hx).sl
 obtain ⟨ka, kn, kc, rfl⟩ := sl_shape hd.keys.sl.sl
 obtain ⟨fa, fn, fc, rfl⟩ := sl_shape hd.fenced.sl.sl
 dsimp only at hsl hDz hcl hcg
 clear hd
 obtain ⟨a, n, c, rfl⟩ := sl_shape hsl.sl
 obtain ⟨ca, cn, cc, rfl⟩ := sl_shape hcl.sl
 obtain ⟨a', c', he, _⟩ := sl_cap hsl.sl
 cases he
 have hgr := fun w1 hV => great06_c (vw w) a ca ka fa D.length c cn cc kn kc fn fc nx D Ca w1 hV hsl hcl hcg
 have hnilB : ∀ V : Vw, SlOf V Record.cells 6 (.slice none 0 0) [] := fun V => slNil _ _ _ _ (fun _ => rfl)
 refine enter (E := E0) (O := []) (nl := 0) (V := vw w) [.a (.v g.val), .a (.v (devG a ca ka fa D.length c cn cc kn kc fn fc nx)), .a (.v (I slot)), .a (.v (I key)), .a (.v (I cut))] Tryz.func3 rfl rfl (mem0 E0 0 w) rfl rfl ?_
 refine c_seq (c_region ?_)
 iterate 2 refine o_new tok rfl rfl rfl rfl ?_
 refine yO rfl rfl rfl rfl ?_
 refine o_end [2, 3, 4, 5, 6] rfl ?_
 refine x_then (c_seq (c_seq ?_))
 refine c_draw mixed (by kernel_rfl) ?_
 refine d_yield rfl rfl rfl (yV rfl) rfl ?_
 refine d_call (.a (.v _)) rfl rfl fnok4 rfl rfl rfl (fun hg E w1 hm => by exact refMay_c g ok _) ?_
 iterate 3 refine d_yield rfl rfl rfl (yV rfl) rfl ?_
 refine d_call (.a (.v _)) rfl rfl fnok5 rfl rfl rfl (fun hg E w1 hm => by exact refTotal_c g ok _) ?_
 iterate 5 refine d_yield rfl rfl rfl (yV rfl) rfl ?_
 refine d_yield rfl rfl rfl (y_lenP tok rfl) rfl ?_
 refine d_yield rfl rfl rfl (yV rfl) rfl ?_
 refine d_call (.a (.v _)) rfl rfl fnok5 rfl rfl rfl (fun hg E w1 hm => by exact refTotal_c g ok _) ?_
 iterate 4 refine d_yield rfl rfl rfl (yV rfl) rfl ?_
 refine d_call (.a (.v _)) rfl rfl fnok6 rfl rfl rfl (fun hg E w1 hm => by exact hgr _ hm.leV) ?_
 refine d_yield rfl rfl rfl (yV rfl) rfl ?_
 refine d_end [2, 3, 4, 5, 6, 58] rfl ?_
 refine x_then ?_
 refine c_cond rfl (fun h => ?_) (fun h => ?_)
 ·
  refine c_seq (c_region ?_)
  refine o_call (.a (.v _)) rfl rfl fnok7 rfl rfl rfl (fun hg E w1 hm => by exact wakes21_c _) ?_
  refine yO rfl rfl rfl rfl ?_
  refine o_end [10] rfl ?_
  refine x_then (c_ret (x_then_ret ?_))
  refine b_ret tok rfl ?_
  intro E w' hm _
  refine ⟨?_, hm.below (Vw.le.refl _)⟩
  rfl
 ·
  have hpre : geoB g = true ∧ totV g ≤ 2000 ∧ (D.length : Int) = totV g ∧ greatD D Ca kn fn = false := by
   simp at h
   exact ⟨h.1.1.1, by omega, by omega, h.2⟩
  clear h
  obtain ⟨hG, hT2, hln, hgf⟩ := hpre
  have hf := geo_facts hG
  have hgz := geo_sizes hG
  have hD2 : D.length ≤ 200 := by
   simp only [greatD, Bool.or_eq_false_iff, decide_eq_false_iff_not] at hgf
   omega
  refine c_skip (x_then (c_seq (c_seq (c_region ?_))))
  refine yO rfl rfl rfl rfl ?_
  refine o_end [2, 3, 4, 5, 6, 11] rfl ?_
  refine x_then (c_block ?_)
  refine c_loopK [2, 3, 4, 5, 6] [] rfl rfl (σ := Nat) (fun i => [(11, .a (.v (I i)))]) (fun i => []) (fun i => i ≤ D.length ∧ ∀ j : Nat, j < i → ∀ x, D[j]? = some x → x.size ≤ 512) (fun i => D.length - i) (0) (⟨by omega, by omega⟩) (by repeat (first | exact fN | refine fC rfl ?_)) (by repeat (first | exact oN | refine oC rfl ?_)) rfl ?_
  rintro i ⟨hi, hsz⟩
  iterate 2 refine c_seq ?_
  refine c_region ?_
  iterate 3 refine yO rfl rfl rfl rfl ?_
  refine o_yield rfl rfl rfl (y_lenP tok rfl) ?_
  refine yO rfl rfl rfl rfl ?_
  refine o_end [2, 3, 4, 5, 6, 11, 64] rfl ?_
  refine x_then ?_
  refine c_cond rfl (fun h => ?_) (fun h => ?_)
  ·
   simp only [Xa, Xb, Xc, Xd, Xe, Xf, Xg, Xh, Xi, Xj, Xk, Xl, Xm, Xn, Xo, Xp] at h
   refine c_skip (x_then (c_seq (c_block (c_seq (c_region ?_)))))
   iterate 2 refine yO rfl rfl rfl rfl ?_
   refine o_callV (fun x V' => ∃ k a b, x = .tuple #[I8 k, I a, I b] ∧ WhatP g i k a b) rfl rfl fnok8 rfl rfl (fun hg E w1 hm => by exact what_cV (vw w) g ok hG i (by omega) _ hm.leV) ?_
   rintro x V1 hle1 hx
   obtain ⟨wk, wa, wb, rfl, hW⟩ := hx rfl
   have hs1 := hsl.mono hle1
   obtain ⟨y, h_y⟩ := hsl.at (k := i) (by omega)
   iterate 7 refine yO rfl rfl rfl rfl ?_
   refine o_end [2, 3, 4, 5, 6, 11, 12] rfl ?_
   refine x_then (c_seq (c_region ?_))
   iterate 3 refine yO rfl rfl rfl rfl ?_
   have hlt_y := lt_of_at h_y
   refine o_yield rfl rfl rfl (y_idx tok rfl (fun hg => hs1.sl) (fun hg => ⟨by omega, by omega⟩)) ?_
   refine o_yield rfl rfl rfl (y_lel tok (i) 0 (y) rfl (fun hg => hs1) (fun hg => h_y) rfl rfl) ?_
   iterate 9 refine yO rfl rfl rfl rfl ?_
   have hlt_y := lt_of_at h_y
   refine o_yield rfl rfl rfl (y_idx tok rfl (fun hg => hs1.sl) (fun hg => ⟨by omega, by omega⟩)) ?_
   refine o_yield rfl rfl rfl (y_lel tok (i) 0 (y) rfl (fun hg => hs1) (fun hg => h_y) rfl rfl) ?_
   iterate 4 refine yO rfl rfl rfl rfl ?_
   refine o_end [2, 3, 4, 5, 6, 11, 93] rfl ?_
   refine x_then ?_
   refine c_cond rfl (fun h => ?_) (fun h => ?_)
   ·
    clear h
    refine c_seq (c_region ?_)
    refine o_call (.a (.v _)) rfl rfl fnok7 rfl rfl rfl (fun hg E w1 hm => by exact wakes21_c _) ?_
    refine yO rfl rfl rfl rfl ?_
    refine o_end [10] rfl ?_
    refine x_then (c_ret (x_block_ret (x_then_ret (x_then_ret (x_block_ret ?_)))))
    refine x_then_ret ?_
    refine b_ret tok rfl ?_
    intro E w' hm _
    refine ⟨?_, hm.below (hle1)⟩
    rfl
   ·
    have hy5 : y.size ≤ 512 := by
     simp at h
     omega
    clear h
    have hsz1 : ∀ j : Nat, j < i + 1 → ∀ x, D[j]? = some x → x.size ≤ 512 := by
     intro j hj z hz9
     by_cases e : j < i
     · exact hsz j e z hz9
     ·
      have : j = i := by omega
      subst this
      rw [h_y] at hz9
      cases hz9
      exact hy5
    refine c_skip (x_block (x_then (c_region ?_)))
    iterate 3 refine yO rfl rfl rfl rfl ?_
    refine o_end [2, 3, 4, 5, 6, 11] rfl ?_
    refine x_then ?_
    rw [wrapI (n := (i : Int) + 1) (by omega) (by omega)]
    refine x_round (i + 1) (⟨by omega, hsz1⟩) (by first | omega | (dsimp only; omega)) (by repeat (first | exact fN | refine fC rfl ?_)) (by repeat (first | exact oN | refine oC rfl ?_)) rfl (hle1)
  ·
   simp only [Xa, Xb, Xc, Xd, Xe, Xf, Xg, Xh, Xi, Xj, Xk, Xl, Xm, Xn, Xo, Xp] at h
   have hz5 : ∀ x ∈ D, x.size ≤ 512 := by
    intro x hx
    obtain ⟨j, hj⟩ := List.mem_iff_getElem?.1 hx
    have := (List.getElem?_eq_some_iff.1 hj).1
    exact hsz j (by omega) x hj
   clear h hsz hi
   have hbg := rbegin21_c g ok slot key
   generalize hB : begP g slot key = bp at hbg
   by_cases hH : ∃ s, D[(headV g slot).toNat]? = some s ∧ 0 ≤ headV g slot ∧ tailE s = 0
   rotate_left
   ·
    have hte : ∃ te, te ≠ 0 ∧ ((headV g slot < 0 ∧ (0 : Int) = 0 ∧ te = 2) ∨ ∃ s, D[(headV g slot).toNat]? = some s ∧ 0 ≤ headV g slot ∧ (0 : Int) = tailV s ∧ te = tailE s) := by
     rcases Int.lt_or_le (headV g slot) 0 with h | h
     · exact ⟨2, by decide, .inl ⟨h, rfl, rfl⟩⟩
     ·
      have hlt := rh_in hG h
      obtain ⟨s, hs⟩ : ∃ s, D[(headV g slot).toNat]? = some s := ⟨_, List.getElem?_eq_getElem (by omega)⟩
      have hne : tailE s ≠ 0 := fun e => hH ⟨s, hs, h, e⟩
      refine ⟨tailE s, hne, .inr ⟨s, hs, h, ?_, rfl⟩⟩
      rw [tailE] at hne
      rw [tailV]
      cases hq : tailOk s with
      | none => rfl
      | some n => rw [hq] at hne; simp at hne
    obtain ⟨te, hte0, hte⟩ := hte
    refine c_exit (x_then_exit (x_then_exit (x_block_hit (x_then (c_seq ?_)))))
    refine c_region ?_
    iterate 4 refine yO rfl rfl rfl rfl ?_
    refine o_call (.a (.v _)) rfl rfl fnok9 rfl rfl rfl (fun hg E w1 hm => by exact gjournalE_c (vw w) g ok hG slot key _ _ _ _ _ _ _ _ _ _ _ _ _ D hDz _ hm.leV hsl hln 0 te hte hte0) ?_
    iterate 7 refine yO rfl rfl rfl rfl ?_
    refine o_end [2, 3, 4, 5, 6, 15, 16, 17] rfl ?_
    refine x_then (c_seq (c_region ?_))
    refine yO rfl rfl rfl rfl ?_
    refine o_callV (RowBV (scanB [])) rfl rfl fnok10 rfl rfl (fun hg E w1 hm => by exact rowB_V hm.leV (rblocks_c (vw w) _ [] _ hm.leV (hnilB _) (by simp) (by simp))) ?_
    rintro vb V2 hle2 hvb
    obtain ⟨b1, b2, b3, rfl, hsb⟩ := hvb rfl
    refine yO rfl rfl rfl rfl ?_
    refine o_end [2, 3, 4, 5, 6, 15, 16, 17, 18] rfl ?_
    refine x_then (c_seq (c_region ?_))
    iterate 3 refine yO rfl rfl rfl rfl ?_
    refine o_call (.a (.v _)) rfl rfl fnok11 rfl rfl rfl (fun hg E w1 hm => by exact hbg _) ?_
    iterate 3 refine yO rfl rfl rfl rfl ?_
    refine o_new tok rfl rfl rfl rfl ?_
    refine o_store tok rfl rfl rfl (by first | (repeat' first | exact trivial | exact rfl | apply And.intro); done | simp [onesP, oneP, lk, Value.oneCell']) ?_
    refine yO rfl rfl rfl rfl ?_
    refine o_end [2, 3, 4, 5, 6, 15, 16, 17, 18, 20] rfl ?_
    refine x_then (c_seq (c_seq (c_region ?_)))
    iterate 9 refine yO rfl rfl rfl rfl ?_
    refine o_call (.a (.v _)) rfl rfl fnok12 rfl rfl rfl (fun hg E w1 hm => by exact refBMay_c V2 g ok _ (scanB []) _ hm.leV hsb (by rw [scan_nil]; simp)) ?_
    iterate 5 refine yO rfl rfl rfl rfl ?_
    refine o_yield rfl rfl rfl (y_lenP tok rfl) ?_
    iterate 7 refine yO rfl rfl rfl rfl ?_
    refine o_end [2, 3, 4, 5, 6, 15, 16, 18, 135] rfl ?_
    refine x_then ?_
    refine c_cond rfl (fun h => ?_) (fun h => ?_)
    ·
     refine c_seq (c_region ?_)
     refine o_call (.a (.v _)) rfl rfl fnok7 rfl rfl rfl (fun hg E w1 hm => by exact wakes21_c _) ?_
     refine yO rfl rfl rfl rfl ?_
     refine o_end [10] rfl ?_
     refine x_then (c_ret (x_then_ret ?_))
     refine b_ret tok rfl ?_
     intro E w' hm _
     refine ⟨?_, hm.below (hle2)⟩
     rfl
    ·
     exfalso
     simp at h
     first | exact hte0 h.1.1.1.1 | exact hte0 h.1.1.1 | exact hte0 h.1.1 | exact hte0 h.1
   ·
    obtain ⟨s0, hd0, hh, hte⟩ := hH
    have htl := tail_some hte
    obtain ⟨hs0, ht0, ht1⟩ := tail_inv htl
    obtain ⟨tail, htail⟩ : ∃ tail, tailV s0 = tail := ⟨_, rfl⟩
    rw [htail] at htl hs0 ht0 ht1
    obtain ⟨A, hJ⟩ := rows_ex (key := key) hG hln hh ht0 ht1 hDz
    have hA6 := rows_256 hJ
    have hwt := whole_take A
    have hfew := hJ.few
    have hwl := whole_le A
    have hL6 : ∀ r ∈ A.take (whole A), r.text.size ≤ 256 := fun r hr => hA6 r (List.mem_of_mem_take hr)
    have hLl : (A.take (whole A)).length = whole A := by rw [List.length_take]; omega
    have hLL : (A.take (whole A)).take (whole (A.take (whole A))) = A.take (whole A) := by rw [hwt, List.take_take, Nat.min_self]
    refine c_exit (x_then_exit (x_then_exit (x_block_hit (x_then (c_seq ?_)))))
    refine c_region ?_
    iterate 4 refine yO rfl rfl rfl rfl ?_
    refine o_callV (fun v V' => ∃ a n c, v = .tuple #[.slice a n c, I tail, I 0] ∧ SlOf V' Record.cells 6 (.slice a n c) (A.take (whole A))) rfl rfl fnok9 rfl rfl (fun hg E w1 hm => by exact gjournal_cV (vw w) g ok slot key tail D A hJ ⟨s0, hd0, htail, hte⟩ _ _ _ _ _ _ _ _ _ _ _ _ _ _ hm.leV hsl) ?_
    rintro v V1 hle1 hv
    obtain ⟨a1, n1, c1, rfl, hsl1⟩ := hv rfl
    clear hv
    have hn1 := sl_cap hsl1.sl
    rw [hLl] at hn1
    obtain ⟨_, _, he, _⟩ := hn1
    cases he
    iterate 7 refine yO rfl rfl rfl rfl ?_
    refine o_end [2, 3, 4, 5, 6, 15, 16, 17] rfl ?_
    refine x_then (c_seq (c_region ?_))
    refine yO rfl rfl rfl rfl ?_
    refine o_callV (RowBV (scanB ((A.take (whole A)).take (whole (A.take (whole A)))))) rfl rfl fnok10 rfl rfl (fun hg E w1 hm => by exact rowB_V hm.leV (rblocks_c V1 _ (A.take (whole A)) _ hm.leV hsl1 (by rw [hLl]; omega) hL6)) ?_
    rw [hLL]
    rintro vb V2 hle2 hvb
    obtain ⟨b1, b2, b3, rfl, hsb⟩ := hvb rfl
    refine yO rfl rfl rfl rfl ?_
    refine o_end [2, 3, 4, 5, 6, 15, 16, 17, 18] rfl ?_
    refine x_then (c_seq (c_region ?_))
    iterate 3 refine yO rfl rfl rfl rfl ?_
    refine o_call (.a (.v _)) rfl rfl fnok11 rfl rfl rfl (fun hg E w1 hm => by exact hbg _) ?_
    iterate 3 refine yO rfl rfl rfl rfl ?_
    refine o_new tok rfl rfl rfl rfl ?_
    refine o_store tok rfl rfl rfl (by first | (repeat' first | exact trivial | exact rfl | apply And.intro); done | simp [onesP, oneP, lk, Value.oneCell']) ?_
    refine yO rfl rfl rfl rfl ?_
    refine o_end [2, 3, 4, 5, 6, 15, 16, 17, 18, 20] rfl ?_
    refine x_then (c_seq (c_seq (c_region ?_)))
    iterate 9 refine yO rfl rfl rfl rfl ?_
    refine o_call (.a (.v _)) rfl rfl fnok12 rfl rfl rfl (fun hg E w1 hm => by exact refBMay_c V2 g ok _ (scanB (A.take (whole A))) _ hm.leV hsb (by have := mkF_len (fun n => lastG n (A.take (whole A)) [] none) 64 0; rw [show scanB (A.take (whole A)) = mkF (fun n => lastG n (A.take (whole A)) [] none) 0 64 from rfl]; simp only [maxLen]; omega)) ?_
    iterate 5 refine yO rfl rfl rfl rfl ?_
    refine o_yield rfl rfl rfl (y_lenP tok rfl) ?_
    iterate 7 refine yO rfl rfl rfl rfl ?_
    refine o_end [2, 3, 4, 5, 6, 15, 16, 18, 135] rfl ?_
    refine x_then ?_
    refine c_cond rfl (fun h => ?_) (fun h => ?_)
    ·
     refine c_seq (c_region ?_)
     refine o_call (.a (.v _)) rfl rfl fnok7 rfl rfl rfl (fun hg E w1 hm => by exact wakes21_c _) ?_
     refine yO rfl rfl rfl rfl ?_
     refine o_end [10] rfl ?_
     refine x_then (c_ret (x_then_ret ?_))
     refine b_ret tok rfl ?_
     intro E w' hm _
     refine ⟨?_, hm.below ((hle1.trans hle2))⟩
     rfl
    ·
     have hfin : bp = true ∧ mayL g (scanB (A.take (whole A))) = true ∧ tail + whole A ≤ 1099511627776 ∧ tail ≤ 1099511627676 := by
      rw [wrapI (n := tail + (whole A : Int)) (by omega) (by omega)] at h
      cases bp with
      | false => simp at h
      | true =>
       simp at h
       exact ⟨rfl, h.1.1, by omega, by omega⟩
     clear h
     obtain ⟨rfl, hml, hen, htm⟩ := hfin
     have hkey : keyB key = true ∧ 0 ≤ seatOf key := by
      rw [begP, Bool.and_eq_true, Bool.and_eq_true, decide_eq_true_eq, decide_eq_true_eq] at hB
      exact ⟨hB.1.2, hB.2⟩
     have hDpos : 0 < D.length := by
      have := rh_in hG hh
      omega
     obtain ⟨hmost, hcl⟩ := acts_most hJ hml
     have hcok : CellsOk (D.length : Int) (celL g A) := by
      have := cells_ok hml
      rw [← hln] at this
      exact this
     have hcd : ∀ c ∈ celL g A, dataAt g ≤ c.sector := cells_from hml
     have hc2 : ∀ c ∈ celL g A, c.b.size ≤ 256 := cells_256 g _
     have hN0 := actsN_pos g A
     obtain ⟨hh0, hh1⟩ := headS_back (n := tail + whole A) (by omega)
     have hs1 : headS (tail + whole A) = ((headS (tail + whole A)).1, 0) := by rw [← hh0]
     have hs6 := headS_256 (tail + whole A)
     obtain ⟨s1, hs1e⟩ : ∃ s1, (headS (tail + whole A)).1 = s1 := ⟨_, rfl⟩
     have hsl2 := hsl.mono (hle1.trans hle2)
     obtain ⟨M, hM⟩ : ∃ M : Nat, 2 + g.journal + g.blocks * g.per = (M : Int) := ⟨(2 + g.journal + g.blocks * g.per).toNat, by omega⟩
     have hMM := fun w => smost_c g hG w
     rw [hM] at hMM hmost
     have hML : M ≤ 1000000 := by omega
     have hR1 := fun m b cap e rest hcap hm w hb => runG_c g ok slot key tail hkey D A hJ hA6 hml (by omega) hcok s0 hd0 htl _ hs1 m b cap e rest hcap hm w hb
     have hR2 := fun n hn => run_fin g ok slot key tail hkey D A hJ hA6 hml s0 hd0 htl hen M hM.symm n hn
     have hE := rows_end hJ hen hcd hc2 s1 (hs1e ▸ hs6) (actsN g A) (actsN g A + (celL g A).length + 1)
     have hEd := gD_hd1 (cs := celL g A) hG hh D hln s1 (actsN g A) (actsN g A + (celL g A).length + 1) (by omega)
     have hEq := fun q k a b hW => gD_diff hG hh hcd D s1 (actsN g A) (actsN g A + (celL g A).length + 1) (by omega) (q := q) (k := k) (a := a) (b := b) hW
     have hEn := gD_data (cs := celL g A) D s1 (actsN g A) (actsN g A + (celL g A).length + 1) (head_data hG hh) hh (by omega)
     have hgl := fun n => gD_len D (celL g A) (headV g slot).toNat s1 (actsN g A) n
     have hgz := fun n => gD_sz (fun x hx => hDz x hx) hc2 (hs1e ▸ hs6) (headV g slot).toNat (actsN g A) n
     rw [hs1e] at hR1 hR2 hh1 hs1
     obtain ⟨Nt, hNt⟩ : ∃ Nt, actsN g A + (celL g A).length + 1 = Nt := ⟨_, rfl⟩
     rw [hNt] at hR1 hR2 hE hEd hEq hEn
     obtain ⟨D1, hD1⟩ : ∃ D1, gD D (celL g A) (headV g slot).toNat s1 (actsN g A) Nt = D1 := ⟨_, rfl⟩
     rw [hD1] at hR2 hE hEd hEq hEn
     have hD1l : D1.length = D.length := by rw [← hD1]; exact gD_len _ _ _ _ _ _
     refine c_skip (x_then (c_seq (c_region ?_)))
     refine o_step rfl rfl rfl rfl rfl (s_bs tok 1 rfl rfl rfl) (fun _ _ => ?_)
     iterate 2 refine yO rfl rfl rfl rfl ?_
     refine o_step rfl rfl rfl rfl rfl (s_app tok (D.flatMap encS) rfl (fun E w hm => hsl2.sl.src hm.get) (fun _ _ _ => str_ones _) (by dsimp only; omega)) (fun _ _ => ?_)
     refine yO rfl rfl rfl rfl ?_
     refine o_end [2, 3, 4, 5, 6, 15, 16, 18, 21] rfl ?_
     refine x_then (c_seq ?_)
     rw [List.nil_append, Nat.zero_add D.length]
     refine k_freezeX 4 rfl (fun v V3 hle3 hsl3 hoff hex => ?_)
     obtain ⟨b, cap, cs, rfl, hb, hcap, hcsz, hctk⟩ := hex.resolve_left (by omega)
     clear hex
     rw [Nat.mul_one] at hcsz hctk
     have hcse : cs = csOf D (cs.toList.drop D.length) := row_cs hctk
     rw [hcse] at hb
     generalize hrest : cs.toList.drop D.length = rest at hb
     have hlow : V1.le V2 := hle2
     have hbN : V2.get b = none := hoff b rfl
     have hrun1 : ∀ w1 : World, w1.heap[b]? = some (.cells (csOf D rest) 9 (0,0)) → Calls Tryz.prog 13 #[g.val, .slice (some ⟨b, 0, none⟩) D.length cap, I slot, I key, I M] w1 fun ex w' => ∃ _ : Unit, ex = .returned (.tuple #[I (Nt : Int), .bool true, .bool true]) ∧ Go.Eng.Touch (· = b) w1 w' ∧ w'.heap[b]? = some (.cells (csOf D1 rest) 9 (0,0)) ∧ True := by
      intro w1 hb1
      have hmin : min M Nt = Nt := by omega
      have h9 := hR1 M b cap 9 rest hcap hML w1 hb1
      rw [hmin, hD1, decide_eq_true (show Nt ≤ M by omega)] at h9
      exact h9.mono (fun ex w' h => ⟨(), h.1, h.2.1, h.2.2, trivial⟩)
     refine weaken (l := [(2, .a (.v (I slot))), (3, .a (.v (I key))), (4, .a (.v (I cut))), (5, .a (.ptr 0 0)), (6, .a (.ptr 1 0)), (15, .a (.v (.slice a1 (whole A) c1))), (16, .a (.v (I tail))), (18, .a (.v (.slice b1 b2 b3))), (21, .a (.v (.slice (some ⟨b, 0, none⟩) D.length cap)))]) (O' := [(0, .lit (g.cells.map .v) 23), (1, .lit [.v (.slice a D.length c), .v (.slice ca cn cc), .v (.slice ka kn kc), .v (I nx), .v (.slice fa fn fc)] 28)]) (nl' := 5) ?_ (by repeat (first | exact fN | refine fC rfl ?_)) (by repeat (first | exact oN | refine oC rfl ?_)) rfl (Vw.le.refl _)
     refine c_heldS [6] mixed rfl (by repeat (first | exact oN | refine oC rfl ?_)) (by first | rfl | simp [okCels, allOk_plain]) ?_
     refine t_takeD 0 rfl (by kernel_rfl) rfl rfl rfl (yV rfl) rfl ?_
     refine t_takeD 1 rfl (by kernel_rfl) rfl rfl rfl (yV rfl) rfl ?_
     refine t_takeD 2 rfl (by kernel_rfl) rfl rfl rfl (yV rfl) rfl ?_
     refine t_takeD 3 rfl (by kernel_rfl) rfl rfl rfl (yV rfl) rfl ?_
     refine t_takeD 4 rfl (by kernel_rfl) rfl rfl rfl (yV rfl) rfl ?_
     refine t_go ?_
     refine h_one 5 (by kernel_rfl) ?_
     refine h_call 5 (.a (.v _)) rfl rfl rfl fnok14 rfl rfl rfl (fun hg E w1 hm => by exact hMM _) ?_
     refine h_one 6 (by kernel_rfl) ?_
     refine h_to 6 rfl rfl rfl rfl rfl rfl (s_callVw (σ := Unit) (fun _ => True) (fun _ => .a (.v (.tuple #[I (Nt : Int), .bool true, .bool true]))) b (fun _ => .cells (csOf D1 rest) 9 (0,0)) hb rfl fnok13 (fun _ => rfl) (fun E w1 hm1 => hrun1 w1 (hm1.get _ _ hb))) (.inl rfl) (fun _ _ => ?_)
     refine h_one 7 (by kernel_rfl) ?_
     refine yH 7 rfl rfl rfl rfl rfl ?_
     refine h_takeR 8 rfl (by kernel_rfl) rfl rfl rfl (fun _ => y_val tok rfl) rfl ?_
     refine h_takeR 9 rfl (by kernel_rfl) rfl rfl rfl (fun _ => y_val tok rfl) rfl ?_
     refine h_takeR 10 rfl (by kernel_rfl) rfl rfl rfl (fun _ => y_val tok rfl) rfl ?_
     refine h_one 11 (by kernel_rfl) ?_
     refine yH 11 rfl rfl rfl rfl rfl ?_
     refine h_one 12 (by kernel_rfl) ?_
     refine yH 12 rfl rfl rfl rfl rfl ?_
     refine h_one 13 (by kernel_rfl) ?_
     refine yH 13 rfl rfl rfl rfl rfl ?_
     refine h_done [2, 3, 4, 5, 6, 15, 16, 18, 21, 22, 23, 24] (by kernel_rfl) rfl ?_
     refine x_then (c_seq (c_seq (c_region ?_)))
     iterate 9 refine yO rfl rfl rfl rfl ?_
     dsimp only
     have hb4 : (V3.put b (.cells (csOf D1 rest) 9 (0,0))).get b = some (.cells (csOf D1 rest) 9 (0,0)) := Vw.put_get _ _ _
     have hle4 : V2.le (V3.put b (.cells (csOf D1 rest) 9 (0,0))) := Vw.le_put hle3 hbN
     generalize hV4 : V3.put b (.cells (csOf D1 rest) 9 (0,0)) = V4 at hb4 hle4 ⊢
     have hsD1 : SlOf V4 encS 1 (.slice (some ⟨b, 0, none⟩) D.length cap) D1 := by
      have := csOf_sl hb4 (cap := cap) (by omega)
      rwa [hD1l] at this
     have hsD : SlOf V4 encS 1 (.slice a D.length c) D := hsl2.mono hle4
     have hsB : SlOf V4 Block.cells 2 (.slice b1 b2 b3) (scanB (A.take (whole A))) := hsb.mono hle4
     have hD1z : ∀ x ∈ D1, x.size ≤ 512 := by
      rw [← hD1]
      exact gD_sz5 hz5 hc2 (hs1e ▸ hs6) _ _ _
     have hmk := mkF_len (fun n => lastG n (A.take (whole A)) [] none) 64 0
     rw [show mkF (fun n => lastG n (A.take (whole A)) [] none) 0 64 = scanB (A.take (whole A)) from rfl] at hmk
     refine o_call (.a (.v _)) rfl rfl fnok14 rfl rfl rfl (fun hg E w1 hm => by exact hMM _) ?_
     iterate 2 refine yO rfl rfl rfl rfl ?_
     refine o_end [2, 3, 4, 5, 6, 15, 16, 18, 21, 22, 163] rfl ?_
     refine x_then ?_
     refine c_cond rfl (fun h => ?_) (fun h => ?_)
     ·
      exfalso
      simp at h
      omega
     ·
      clear h
      refine c_skip (x_then (c_seq (c_seq (c_region ?_))))
      refine yO rfl rfl rfl rfl ?_
      refine o_end [2, 3, 4, 5, 6, 15, 16, 18, 21, 22, 25] rfl ?_
      refine x_then (c_block ?_)
      refine c_loopK [2, 3, 4, 5, 6, 15, 16, 18, 21, 22] [] rfl rfl (σ := Nat) (fun i => [(25, .a (.v (I i)))]) (fun i => []) (fun i => (i : Int) ≤ g.blocks) (fun i => g.blocks.toNat - i) (0) (by omega) (by repeat (first | exact fN | refine fC rfl ?_)) (by repeat (first | exact oN | refine oC rfl ?_)) rfl ?_
      rintro i hi
      iterate 2 refine c_seq ?_
      refine c_region ?_
      iterate 4 refine yO rfl rfl rfl rfl ?_
      refine o_end [2, 3, 4, 5, 6, 15, 16, 18, 21, 22, 25, 167] rfl ?_
      refine x_then ?_
      refine c_cond rfl (fun h => ?_) (fun h => ?_)
      ·
       simp only [Xa, Xb, Xc, Xd, Xe, Xf, Xg, Xh, Xi, Xj, Xk, Xl, Xm, Xn, Xo, Xp] at h
       have hi1 : (i : Int) < g.blocks := by simpa using h
       clear h
       have hnw := now_wr hml hln (n := (i : Int)) (by omega) hi1 hEn
       refine c_skip (x_then (c_seq (c_block (c_seq (c_region ?_)))))
       iterate 2 refine yO rfl rfl rfl rfl ?_
       refine o_call (.a (.v _)) rfl rfl fnok15 rfl rfl rfl (fun hg E w1 hm => by exact refGet18_c V4 _ (scanB (A.take (whole A))) (i : Int) _ hm.leV hsB (by omega)) ?_
       iterate 5 refine yO rfl rfl rfl rfl ?_
       refine o_end [2, 3, 4, 5, 6, 15, 16, 18, 21, 22, 25, 26, 27] rfl ?_
       refine x_then (c_seq (c_seq (c_region ?_)))
       iterate 2 refine yO rfl rfl rfl rfl ?_
       refine o_end [2, 3, 4, 5, 6, 15, 16, 18, 21, 22, 25, 26, 177] rfl ?_
       refine x_then ?_
       refine c_cond rfl (fun h => ?_) (fun h => ?_)
       ·
        have hn2 : (getB (scanB (A.take (whole A))) (i : Int)).2 = false := by simpa using h
        clear h
        rw [hn2, if_neg (by simp)] at hnw
        refine c_region ?_
        iterate 4 refine yO rfl rfl rfl rfl ?_
        refine o_call (.a (.v _)) rfl rfl fnok16 rfl rfl rfl (fun hg E w1 hm => by exact now21_c V4 g ok hG a D.length c D hln hz5 (i : Int) (by omega) hi1 _ hm.leV hsD) ?_
        refine yO rfl rfl rfl rfl ?_
        refine o_end [2, 3, 4, 5, 6, 15, 16, 18, 21, 22, 25, 26] rfl ?_
        refine x_then (c_seq (c_region ?_))
        iterate 3 refine yO rfl rfl rfl rfl ?_
        refine o_call (.a (.v _)) rfl rfl fnok16 rfl rfl rfl (fun hg E w1 hm => by exact now21_c V4 g ok hG _ D.length cap D1 (by omega) hD1z (i : Int) (by omega) hi1 _ hm.leV hsD1) ?_
        iterate 2 refine yO rfl rfl rfl rfl ?_
        refine o_end [2, 3, 4, 5, 6, 15, 16, 18, 21, 22, 25, 188] rfl ?_
        refine x_then ?_
        refine c_cond rfl (fun h => ?_) (fun h => ?_)
        ·
         exfalso
         rw [hnw] at h
         simp at h
        ·
         clear h
         refine c_skip (x_block (x_then (c_region ?_)))
         iterate 3 refine yO rfl rfl rfl rfl ?_
         refine o_end [2, 3, 4, 5, 6, 15, 16, 18, 21, 22, 25] rfl ?_
         refine x_then ?_
         rw [wrapI (n := (i : Int) + 1) (by omega) (by omega)]
         refine x_round (i + 1) (by omega) (by first | omega | (dsimp only; omega)) (by repeat (first | exact fN | refine fC rfl ?_)) (by repeat (first | exact oN | refine oC rfl ?_)) rfl (Vw.le.refl _)
       ·
        have hn2 : (getB (scanB (A.take (whole A))) (i : Int)).2 = true := by simpa using h
        clear h
        rw [hn2, if_pos rfl] at hnw
        refine c_skip (x_then (c_seq (c_region ?_)))
        iterate 3 refine yO rfl rfl rfl rfl ?_
        refine o_call (.a (.v _)) rfl rfl fnok16 rfl rfl rfl (fun hg E w1 hm => by exact now21_c V4 g ok hG _ D.length cap D1 (by omega) hD1z (i : Int) (by omega) hi1 _ hm.leV hsD1) ?_
        iterate 2 refine yO rfl rfl rfl rfl ?_
        refine o_end [2, 3, 4, 5, 6, 15, 16, 18, 21, 22, 25, 188] rfl ?_
        refine x_then ?_
        refine c_cond rfl (fun h => ?_) (fun h => ?_)
        ·
         exfalso
         rw [hnw] at h
         simp at h
        ·
         clear h
         refine c_skip (x_block (x_then (c_region ?_)))
         iterate 3 refine yO rfl rfl rfl rfl ?_
         refine o_end [2, 3, 4, 5, 6, 15, 16, 18, 21, 22, 25] rfl ?_
         refine x_then ?_
         rw [wrapI (n := (i : Int) + 1) (by omega) (by omega)]
         refine x_round (i + 1) (by omega) (by first | omega | (dsimp only; omega)) (by repeat (first | exact fN | refine fC rfl ?_)) (by repeat (first | exact oN | refine oC rfl ?_)) rfl (Vw.le.refl _)
      ·
       simp only [Xa, Xb, Xc, Xd, Xe, Xf, Xg, Xh, Xi, Xj, Xk, Xl, Xm, Xn, Xo, Xp] at h
       clear h hi
       refine c_exit (x_then_exit (x_then_exit (x_block_hit (x_then (c_seq ?_)))))
       refine c_seq (c_region ?_)
       refine yO rfl rfl rfl rfl ?_
       refine o_end [2, 3, 4, 5, 6, 15, 16, 21, 22, 28] rfl ?_
       refine x_then (c_block ?_)
       refine c_loopK [2, 3, 4, 5, 6, 15, 16, 21, 22] [] rfl rfl (σ := Nat) (fun q => [(28, .a (.v (I q)))]) (fun q => []) (fun q => q ≤ D.length) (fun q => D.length - q) (0) (by omega) (by repeat (first | exact fN | refine fC rfl ?_)) (by repeat (first | exact oN | refine oC rfl ?_)) rfl ?_
       rintro q hq
       iterate 2 refine c_seq ?_
       refine c_region ?_
       iterate 2 refine yO rfl rfl rfl rfl ?_
       refine o_yield rfl rfl rfl (y_lenP tok rfl) ?_
       refine yO rfl rfl rfl rfl ?_
       refine o_end [2, 3, 4, 5, 6, 15, 16, 21, 22, 28, 192] rfl ?_
       refine x_then ?_
       refine c_cond rfl (fun h => ?_) (fun h => ?_)
       ·
        simp only [Xa, Xb, Xc, Xd, Xe, Xf, Xg, Xh, Xi, Xj, Xk, Xl, Xm, Xn, Xo, Xp] at h
        have hq1 : q < D.length := by omega
        clear h
        obtain ⟨x, h_x⟩ := hsD.at (k := q) (by omega)
        obtain ⟨y, h_y⟩ := hsD1.at (k := q) (by omega)
        refine c_skip (x_then (c_seq (c_block (c_seq (c_region ?_)))))
        iterate 2 refine yO rfl rfl rfl rfl ?_
        refine o_callV (fun x V' => ∃ k a b, x = .tuple #[I8 k, I a, I b] ∧ WhatP g q k a b) rfl rfl fnok8 rfl rfl (fun hg E w1 hm => by exact what_cV V4 g ok hG q (by omega) _ hm.leV) ?_
        rintro x9 V5 hle5 hx9
        obtain ⟨wk, wa, wb, rfl, hW⟩ := hx9 rfl
        have hsD5 := hsD.mono hle5
        have hsD15 := hsD1.mono hle5
        have hdf := hEq q wk wa wb hW
        rw [h_x, h_y] at hdf
        iterate 7 refine yO rfl rfl rfl rfl ?_
        refine o_end [2, 3, 4, 5, 6, 15, 16, 21, 22, 28, 29, 30] rfl ?_
        refine x_then (c_seq ?_)
        refine c_draw mixed (by kernel_rfl) ?_
        iterate 2 refine d_yield rfl rfl rfl (yV rfl) rfl ?_
        have hlt_y := lt_of_at h_y
        refine d_yield rfl rfl rfl (y_idx tok rfl (fun hg => hsD15.sl) (fun hg => ⟨by omega, by omega⟩)) rfl ?_
        refine d_yield rfl rfl rfl (y_lel tok (q) 0 (y) rfl (fun hg => hsD15) (fun hg => h_y) rfl rfl) rfl ?_
        iterate 3 refine d_yield rfl rfl rfl (yV rfl) rfl ?_
        have hlt_x := lt_of_at h_x
        refine d_yield rfl rfl rfl (y_idx tok rfl (fun hg => hsD5.sl) (fun hg => ⟨by omega, by omega⟩)) rfl ?_
        refine d_yield rfl rfl rfl (y_lel tok (q) 0 (x) rfl (fun hg => hsD5) (fun hg => h_x) rfl rfl) rfl ?_
        iterate 14 refine d_yield rfl rfl rfl (yV rfl) rfl ?_
        refine d_end [2, 3, 4, 5, 6, 15, 16, 21, 22, 28, 224] rfl ?_
        refine x_then ?_
        refine c_cond rfl (fun h => ?_) (fun h => ?_)
        ·
         exfalso
         by_cases e : y = x
         ·
          subst e
          simp at h
         · rcases hdf (fun hc => e (by cases hc; rfl)) with rfl | ⟨rfl, rfl⟩ <;> simp at h
        ·
         clear h
         refine c_skip (x_block (x_then (c_region ?_)))
         iterate 3 refine yO rfl rfl rfl rfl ?_
         refine o_end [2, 3, 4, 5, 6, 15, 16, 21, 22, 28] rfl ?_
         refine x_then ?_
         rw [wrapI (n := (q : Int) + 1) (by omega) (by omega)]
         refine x_round (q + 1) (by omega) (by first | omega | (dsimp only; omega)) (by repeat (first | exact fN | refine fC rfl ?_)) (by repeat (first | exact oN | refine oC rfl ?_)) rfl (hle5)
       ·
        simp only [Xa, Xb, Xc, Xd, Xe, Xf, Xg, Xh, Xi, Xj, Xk, Xl, Xm, Xn, Xo, Xp] at h
        clear h hq
        have hE0 : (A.drop (whole A)).take (whole (A.drop (whole A))) = [] := by rw [whole_rest, List.take_zero]
        have ht9 : tailV s1 = tail + whole A ∧ tailE s1 = 0 := by rw [tailV, tailE, hh1]; exact ⟨rfl, rfl⟩
        refine c_exit (x_then_exit (x_then_exit (x_block_hit (x_then (c_seq ?_)))))
        refine c_region ?_
        iterate 5 refine yO rfl rfl rfl rfl ?_
        refine o_callV (fun v V' => ∃ a n c, v = .tuple #[.slice a n c, I (tail + whole A), I 0] ∧ SlOf V' Record.cells 6 (.slice a n c) ((A.drop (whole A)).take (whole (A.drop (whole A))))) rfl rfl fnok9 rfl rfl (fun hg E w1 hm => by exact gjournal_cV V4 g ok slot key (tail + whole A) D1 (A.drop (whole A)) hE ⟨s1, hEd, ht9.1, ht9.2⟩ _ _ _ _ _ _ _ _ _ _ _ _ _ _ hm.leV hsD1) ?_
        rw [hE0]
        rintro v V5 hle5 hv
        obtain ⟨a3, n3, c3, rfl, hsl3⟩ := hv rfl
        clear hv
        have hn3 := sl_cap hsl3.sl
        obtain ⟨_, _, he, _⟩ := hn3
        cases he
        have hsD5 := hsD.mono hle5
        have hsD15 := hsD1.mono hle5
        iterate 7 refine yO rfl rfl rfl rfl ?_
        refine o_end [2, 3, 4, 5, 6, 15, 16, 21, 22, 32, 33, 34] rfl ?_
        refine x_then (c_seq (c_region ?_))
        refine o_step rfl rfl rfl rfl rfl (s_bs tok 1 rfl rfl rfl) (fun _ _ => ?_)
        refine yO rfl rfl rfl rfl ?_
        refine o_step rfl rfl rfl rfl rfl (s_app tok (D1.flatMap encS) rfl (fun E w hm => hsD15.sl.src hm.get) (fun _ _ _ => str_ones _) (by dsimp only; omega)) (fun _ _ => ?_)
        refine yO rfl rfl rfl rfl ?_
        refine o_end [2, 3, 4, 5, 6, 15, 16, 21, 22, 32, 33, 34, 35] rfl ?_
        refine x_then (c_seq ?_)
        rw [List.nil_append, Nat.zero_add D1.length, hD1l]
        refine k_freezeX 6 rfl (fun v V6 hle6 _ hoff6 hex => ?_)
        obtain ⟨b', cap', cs', rfl, hb6, hcap', _, hctk'⟩ := hex.resolve_left (by omega)
        clear hex
        rw [Nat.mul_one] at hctk'
        have hcse' : cs' = csOf D1 (cs'.toList.drop D1.length) := row_cs (by rw [hD1l]; exact hctk')
        rw [hcse'] at hb6
        generalize cs'.toList.drop D1.length = rest' at hb6
        have hbN6 : V5.get b' = none := hoff6 b' rfl
        obtain ⟨N2, hN20, hN2m, hrE⟩ := hR2 Nt (Nat.le_refl _)
        rw [hD1] at hrE
        have hrun2 : ∀ w1 : World, w1.heap[b']? = some (.cells (csOf D1 rest') 9 (0,0)) → Calls Tryz.prog 13 #[g.val, .slice (some ⟨b', 0, none⟩) D.length cap', I slot, I key, I M] w1 fun ex w' => ∃ _ : Unit, ex = .returned (.tuple #[I N2, .bool true, .bool true]) ∧ Go.Eng.Touch (· = b') w1 w' ∧ w'.heap[b']? = some (.cells (csOf D1 rest') 9 (0,0)) ∧ True := by
         intro w1 hb1
         exact (hrE b' cap' 9 rest' hcap' w1 hb1).mono (fun ex w' h => ⟨(), h.1, h.2.1, h.2.2, trivial⟩)
        refine weaken (l := [(2, .a (.v (I slot))), (3, .a (.v (I key))), (4, .a (.v (I cut))), (5, .a (.ptr 0 0)), (6, .a (.ptr 1 0)), (15, .a (.v (.slice a1 (whole A) c1))), (16, .a (.v (I tail))), (21, .a (.v (.slice (some ⟨b, 0, none⟩) D.length cap))), (22, .a (.v (I Nt))), (32, .a (.v (.slice a3 0 c3))), (33, .a (.v (I (tail + whole A)))), (34, .a (.v (I 0))), (35, .a (.v (.slice (some ⟨b', 0, none⟩) D.length cap')))]) (O' := [(0, .lit (g.cells.map .v) 23), (1, .lit [.v (.slice a D.length c), .v (.slice ca cn cc), .v (.slice ka kn kc), .v (I nx), .v (.slice fa fn fc)] 28)]) (nl' := 7) ?_ (by repeat (first | exact fN | refine fC rfl ?_)) (by repeat (first | exact oN | refine oC rfl ?_)) rfl (Vw.le.refl _)
        refine c_heldS [6] mixed rfl (by repeat (first | exact oN | refine oC rfl ?_)) (by first | rfl | simp [okCels, allOk_plain]) ?_
        refine t_takeD 0 rfl (by kernel_rfl) rfl rfl rfl (yV rfl) rfl ?_
        refine t_takeD 1 rfl (by kernel_rfl) rfl rfl rfl (yV rfl) rfl ?_
        refine t_takeD 2 rfl (by kernel_rfl) rfl rfl rfl (yV rfl) rfl ?_
        refine t_takeD 3 rfl (by kernel_rfl) rfl rfl rfl (yV rfl) rfl ?_
        refine t_takeD 4 rfl (by kernel_rfl) rfl rfl rfl (yV rfl) rfl ?_
        refine t_go ?_
        refine h_one 5 (by kernel_rfl) ?_
        refine h_call 5 (.a (.v _)) rfl rfl rfl fnok14 rfl rfl rfl (fun hg E w1 hm => by exact hMM _) ?_
        refine h_one 6 (by kernel_rfl) ?_
        refine h_to 6 rfl rfl rfl rfl rfl rfl (s_callVw (σ := Unit) (fun _ => True) (fun _ => .a (.v (.tuple #[I N2, .bool true, .bool true]))) b' (fun _ => .cells (csOf D1 rest') 9 (0,0)) hb6 rfl fnok13 (fun _ => rfl) (fun E w1 hm1 => hrun2 w1 (hm1.get _ _ hb6))) (.inl rfl) (fun _ _ => ?_)
        refine h_one 7 (by kernel_rfl) ?_
        refine yH 7 rfl rfl rfl rfl rfl ?_
        refine h_takeR 8 rfl (by kernel_rfl) rfl rfl rfl (fun _ => y_val tok rfl) rfl ?_
        refine h_takeR 9 rfl (by kernel_rfl) rfl rfl rfl (fun _ => y_val tok rfl) rfl ?_
        refine h_takeR 10 rfl (by kernel_rfl) rfl rfl rfl (fun _ => y_val tok rfl) rfl ?_
        refine h_one 11 (by kernel_rfl) ?_
        refine yH 11 rfl rfl rfl rfl rfl ?_
        refine h_one 12 (by kernel_rfl) ?_
        refine yH 12 rfl rfl rfl rfl rfl ?_
        refine h_done [2, 3, 4, 5, 6, 15, 16, 21, 22, 23, 24, 32, 33, 34, 35] (by kernel_rfl) rfl ?_
        refine x_then (c_seq (c_seq (c_region ?_)))
        iterate 4 refine yO rfl rfl rfl rfl ?_
        dsimp only
        have hb7 : (V6.put b' (.cells (csOf D1 rest') 9 (0,0))).get b' = some (.cells (csOf D1 rest') 9 (0,0)) := Vw.put_get _ _ _
        have hle7 : V5.le (V6.put b' (.cells (csOf D1 rest') 9 (0,0))) := Vw.le_put hle6 hbN6
        generalize hV7 : V6.put b' (.cells (csOf D1 rest') 9 (0,0)) = V7 at hb7 hle7 ⊢
        have hsA : SlOf V7 encS 1 (.slice (some ⟨b', 0, none⟩) D.length cap') D1 := by
         have := csOf_sl hb7 (cap := cap') (by omega)
         rwa [hD1l] at this
        have hsD7 : SlOf V7 encS 1 (.slice a D.length c) D := hsD5.mono hle7
        have hsD17 : SlOf V7 encS 1 (.slice (some ⟨b, 0, none⟩) D.length cap) D1 := hsD15.mono hle7
        refine o_yield rfl rfl rfl (y_lenP tok rfl) ?_
        iterate 6 refine yO rfl rfl rfl rfl ?_
        refine o_yield rfl rfl rfl (y_lenP tok rfl) ?_
        iterate 14 refine yO rfl rfl rfl rfl ?_
        refine o_call (.a (.v _)) rfl rfl fnok17 rfl rfl rfl (fun hg E w1 hm => by exact sameS_c V7 _ _ D1 _ hm.leV hsA hsD17 (by omega)) ?_
        iterate 2 refine yO rfl rfl rfl rfl ?_
        refine o_end [2, 3, 4, 5, 6, 21, 22, 277] rfl ?_
        refine x_then ?_
        refine c_cond rfl (fun h => ?_) (fun h => ?_)
        ·
         exfalso
         rw [wrapI (n := tail + (whole A : Int)) (by omega) (by omega)] at h
         simp at h
        ·
         clear h
         refine c_skip (x_then (c_seq (c_region ?_)))
         refine o_step rfl rfl rfl rfl rfl (s_bs tok 1 rfl rfl rfl) (fun _ _ => ?_)
         iterate 2 refine yO rfl rfl rfl rfl ?_
         refine o_step rfl rfl rfl rfl rfl (s_app tok (D.flatMap encS) rfl (fun E w hm => hsD7.sl.src hm.get) (fun _ _ _ => str_ones _) (by dsimp only; omega)) (fun _ _ => ?_)
         refine yO rfl rfl rfl rfl ?_
         refine o_end [2, 3, 4, 5, 21, 22, 36] rfl ?_
         refine x_then (c_seq ?_)
         rw [List.nil_append, Nat.zero_add D.length]
         refine k_freezeX 8 rfl (fun v V8 hle8 _ hoff8 hex => ?_)
         obtain ⟨b8, cap8, cs8, rfl, hb8, hcap8, _, hctk8⟩ := hex.resolve_left (by omega)
         clear hex
         rw [Nat.mul_one] at hctk8
         have hcse8 : cs8 = csOf D (cs8.toList.drop D.length) := row_cs hctk8
         rw [hcse8] at hb8
         generalize cs8.toList.drop D.length = rest8 at hb8
         have hbN8 : V7.get b8 = none := hoff8 b8 rfl
         obtain ⟨m, hm0, hmc, hmr0, hmr1⟩ := cut_in cut Nt
         have hw1 : IntKind.i64.wrap ((Nt : Int) + 1) = Nt + 1 := wrapI (by omega) (by omega)
         have hw2 : IntKind.i64.wrap (cut.tmod (Nt + 1) + Nt) = cut.tmod (Nt + 1) + Nt := wrapI (by omega) (by omega)
         have hw3 : IntKind.i64.wrap (cut.tmod (Nt + 1) + Nt + 1) = cut.tmod (Nt + 1) + Nt + 1 := wrapI (by omega) (by omega)
         refine weaken (l := [(2, .a (.v (I slot))), (3, .a (.v (I key))), (4, .a (.v (I cut))), (5, .a (.ptr 0 0)), (21, .a (.v (.slice (some ⟨b, 0, none⟩) D.length cap))), (22, .a (.v (I Nt))), (36, .a (.v (.slice (some ⟨b8, 0, none⟩) D.length cap8)))]) (O' := [(0, .lit (g.cells.map .v) 23), (1, .lit [.v (.slice a D.length c), .v (.slice ca cn cc), .v (.slice ka kn kc), .v (I nx), .v (.slice fa fn fc)] 28)]) (nl' := 9) ?_ (by repeat (first | exact fN | refine fC rfl ?_)) (by repeat (first | exact oN | refine oC rfl ?_)) rfl (Vw.le.refl _)
         refine c_region ?_
         iterate 3 refine yO rfl rfl rfl rfl ?_
         refine o_yield rfl rfl rfl (y_rem rfl (fun hg => by rw [hw1]; omega)) ?_
         iterate 5 refine yO rfl rfl rfl rfl ?_
         refine o_yield rfl rfl rfl (y_rem rfl (fun hg => by rw [hw1]; omega)) ?_
         refine yO rfl rfl rfl rfl ?_
         refine o_end [2, 3, 4, 5, 21, 36] rfl ?_
         refine x_then (c_seq ?_)
         rw [hw1, hw2, hw3, hmc]
         have hm3 : min m Nt = m := by omega
         have hrun3 : ∀ w1 : World, w1.heap[b8]? = some (.cells (csOf D rest8) 9 (0,0)) → Calls Tryz.prog 13 #[g.val, .slice (some ⟨b8, 0, none⟩) D.length cap8, I slot, I key, I m] w1 fun ex w' => ∃ _ : Unit, ex = .returned (.tuple #[I (m : Int), .bool (decide (Nt ≤ m)), .bool true]) ∧ Go.Eng.Touch (· = b8) w1 w' ∧ w'.heap[b8]? = some (.cells (csOf (gD D (celL g A) (headV g slot).toNat s1 (actsN g A) m) rest8) 9 (0,0)) ∧ True := by
          intro w1 hb1
          have h9 := hR1 m b8 cap8 9 rest8 hcap8 (by omega) w1 hb1
          rw [hm3] at h9
          exact h9.mono (fun ex w' h => ⟨(), h.1, h.2.1, h.2.2, trivial⟩)
         obtain ⟨N3, hN30, hN3m, hrF⟩ := hR2 m hm0
         have hrun4 : ∀ w1 : World, w1.heap[b8]? = some (.cells (csOf (gD D (celL g A) (headV g slot).toNat s1 (actsN g A) m) rest8) 9 (0,0)) → Calls Tryz.prog 13 #[g.val, .slice (some ⟨b8, 0, none⟩) D.length cap8, I slot, I key, I M] w1 fun ex w' => ∃ _ : Unit, ex = .returned (.tuple #[I N3, .bool true, .bool true]) ∧ Go.Eng.Touch (· = b8) w1 w' ∧ w'.heap[b8]? = some (.cells (csOf D1 rest8) 9 (0,0)) ∧ True := by
          intro w1 hb1
          exact (hrF b8 cap8 9 rest8 hcap8 w1 hb1).mono (fun ex w' h => ⟨(), h.1, h.2.1, h.2.2, trivial⟩)
         obtain ⟨D2, hD2e⟩ : ∃ D2, gD D (celL g A) (headV g slot).toNat s1 (actsN g A) m = D2 := ⟨_, rfl⟩
         rw [hD2e] at hrun3 hrun4
         refine c_region ?_
         iterate 5 refine yO rfl rfl rfl rfl ?_
         refine o_step rfl rfl rfl rfl rfl (s_callVw (σ := Unit) (fun _ => True) (fun _ => .a (.v (.tuple #[I (m : Int), .bool (decide (Nt ≤ m)), .bool true]))) b8 (fun _ => .cells (csOf D2 rest8) 9 (0,0)) hb8 rfl fnok13 (fun _ => rfl) (fun E w1 hm1 => hrun3 w1 (hm1.get _ _ hb8))) (fun _ _ => ?_)
         iterate 5 refine yO rfl rfl rfl rfl ?_
         refine o_end [2, 3, 5, 21, 24, 36] rfl ?_
         refine x_then (c_seq ?_)
         have hb9 : (V8.put b8 (.cells (csOf D2 rest8) 9 (0,0))).get b8 = some (.cells (csOf D2 rest8) 9 (0,0)) := Vw.put_get _ _ _
         have hle9 : V7.le (V8.put b8 (.cells (csOf D2 rest8) 9 (0,0))) := Vw.le_put hle8 hbN8
         generalize hV9 : V8.put b8 (.cells (csOf D2 rest8) 9 (0,0)) = V9 at hb9 hle9 ⊢
         refine c_heldS [6] mixed rfl (by repeat (first | exact oN | refine oC rfl ?_)) (by first | rfl | simp [okCels, allOk_plain]) ?_
         refine t_takeD 0 rfl (by kernel_rfl) rfl rfl rfl (yV rfl) rfl ?_
         refine t_takeD 1 rfl (by kernel_rfl) rfl rfl rfl (yV rfl) rfl ?_
         refine t_takeD 2 rfl (by kernel_rfl) rfl rfl rfl (yV rfl) rfl ?_
         refine t_takeD 3 rfl (by kernel_rfl) rfl rfl rfl (yV rfl) rfl ?_
         refine t_takeD 4 rfl (by kernel_rfl) rfl rfl rfl (yV rfl) rfl ?_
         refine t_go ?_
         refine h_one 5 (by kernel_rfl) ?_
         refine h_call 5 (.a (.v _)) rfl rfl rfl fnok14 rfl rfl rfl (fun hg E w1 hm => by exact hMM _) ?_
         refine h_one 6 (by kernel_rfl) ?_
         refine h_to 6 rfl rfl rfl rfl rfl rfl (s_callVw (σ := Unit) (fun _ => True) (fun _ => .a (.v (.tuple #[I N3, .bool true, .bool true]))) b8 (fun _ => .cells (csOf D1 rest8) 9 (0,0)) hb9 rfl fnok13 (fun _ => rfl) (fun E w1 hm1 => hrun4 w1 (hm1.get _ _ hb9))) (.inl rfl) (fun _ _ => ?_)
         refine h_one 7 (by kernel_rfl) ?_
         refine yH 7 rfl rfl rfl rfl rfl ?_
         refine h_takeR 8 rfl (by kernel_rfl) rfl rfl rfl (fun _ => y_val tok rfl) rfl ?_
         refine h_takeR 9 rfl (by kernel_rfl) rfl rfl rfl (fun _ => y_val tok rfl) rfl ?_
         refine h_takeR 10 rfl (by kernel_rfl) rfl rfl rfl (fun _ => y_val tok rfl) rfl ?_
         refine h_one 11 (by kernel_rfl) ?_
         refine yH 11 rfl rfl rfl rfl rfl ?_
         refine h_one 12 (by kernel_rfl) ?_
         refine yH 12 rfl rfl rfl rfl rfl ?_
         refine h_one 13 (by kernel_rfl) ?_
         refine yH 13 rfl rfl rfl rfl rfl ?_
         refine h_done [21, 23, 24, 36, 38] (by kernel_rfl) rfl ?_
         refine x_then (c_seq (c_region ?_))
         iterate 10 refine yO rfl rfl rfl rfl ?_
         have hb10 : (V9.put b8 (.cells (csOf D1 rest8) 9 (0,0))).get b8 = some (.cells (csOf D1 rest8) 9 (0,0)) := Vw.put_get _ _ _
         have hle10 : V7.le (V9.put b8 (.cells (csOf D1 rest8) 9 (0,0))) := Vw.le_put hle9 hbN8
         generalize hV10 : V9.put b8 (.cells (csOf D1 rest8) 9 (0,0)) = V10 at hb10 hle10 ⊢
         have hsF : SlOf V10 encS 1 (.slice (some ⟨b8, 0, none⟩) D.length cap8) D1 := by
          have := csOf_sl hb10 (cap := cap8) (by omega)
          rwa [hD1l] at this
         have hsD110 : SlOf V10 encS 1 (.slice (some ⟨b, 0, none⟩) D.length cap) D1 := hsD17.mono hle10
         refine o_call (.a (.v _)) rfl rfl fnok17 rfl rfl rfl (fun hg E w1 hm => by exact sameS_c V10 _ _ D1 _ hm.leV hsF hsD110 (by omega)) ?_
         iterate 2 refine yO rfl rfl rfl rfl ?_
         refine o_call (.a (.v _)) rfl rfl fnok7 rfl rfl rfl (fun hg E w1 hm => by exact wakes21_c _) ?_
         iterate 2 refine yO rfl rfl rfl rfl ?_
         refine o_end [10] rfl ?_
         refine x_then (c_ret ?_)
         refine b_ret tok rfl ?_
         intro E w' hm _
         refine ⟨?_, hm.below (((hle1.trans hle2).trans (hle4.trans (hle5.trans (hle7.trans hle10)))))⟩
         rfl
end Go.Proofs.YtlafboeohojcbaaGreat
