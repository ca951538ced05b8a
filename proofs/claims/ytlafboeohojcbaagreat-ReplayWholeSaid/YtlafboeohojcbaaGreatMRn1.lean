import Derived.Test.YtlafboeohojcbaaGreatMRp9
import Derived.Test.YtlafboeohojcbaaGreatEng39
/- A slot's journal of any device: the document's. -/
set_option linter.unusedVariables false
set_option linter.unusedSimpArgs false
set_option maxRecDepth 100000
namespace Go.Proofs.YtlafboeohojcbaaGreat
open Go Go.Eng Go.RowKit
theorem rj_in {g : Geo} (hG : geoB g = true) {slot lsn : Int} (hh : 0 ≤ headV g slot) (hl : 0 ≤ lsn) : 0 ≤ jourV g slot lsn ∧ jourV g slot lsn < totV g := by
 have hf := geo_facts hG
 have hz := geo_sizes hG
 have hs : 0 ≤ slot ∧ slot < g.slots := by
  unfold headV at hh
  split at hh
  · rename_i h; exact h.2
  · omega
 have hv : headV g slot = 1 + 2 * g.nodes + g.log + slot * (1 + g.journal) := by rw [headV, if_pos ⟨hG, hs⟩]
 have hd : dataAt g = 1 + 2 * g.nodes + g.log + g.slots * (1 + g.journal) := rfl
 have h2 : (slot + 1) * (1 + g.journal) ≤ g.slots * (1 + g.journal) := Int.mul_le_mul_of_nonneg_right (by omega) (by omega)
 rw [Int.add_mul] at h2
 have he := Int.emod_nonneg lsn (show g.journal ≠ 0 by omega)
 have he2 := Int.emod_lt_of_pos lsn (show 0 < g.journal by omega)
 have ht : totV g = dataAt g + g.blocks * g.per := by rw [totV, if_pos hG]
 rw [jourV, if_neg (by omega)]
 omega
theorem rh_in {g : Geo} (hG : geoB g = true) {slot : Int} (hh : 0 ≤ headV g slot) : headV g slot < totV g := by
 have h1 := rj_in hG hh (lsn := 0) (by omega)
 have hf := geo_facts hG
 have he := Int.emod_nonneg 0 (show g.journal ≠ 0 by omega)
 rw [jourV, if_neg (by omega)] at h1
 omega
structure RowsOf (g : Geo) (slot key tail : Int) (D : List ByteArray) (A : List Record) : Prop where
 geo : geoB g = true
 len : (D.length : Int) = totV g
 hd : 0 ≤ headV g slot
 tl0 : 0 ≤ tail
 tl1 : tail ≤ 1099511627776
 few : (A.length : Int) ≤ g.journal
 sz : ∀ s ∈ D, s.size ≤ maxLen
 at_ : ∀ (j : Nat) r, A[j]? = some r → ∃ s, D[(jourV g slot (tail + j)).toNat]? = some s ∧ isB s key (tail + j) = true ∧ isV s key (tail + j) = r
 rest : (A.length : Int) < g.journal → ∃ s, D[(jourV g slot (tail + A.length)).toNat]? = some s ∧ isB s key (tail + A.length) = false
theorem rows_ex {g : Geo} {slot key tail : Int} {D : List ByteArray} (hG : geoB g = true) (hlen : (D.length : Int) = totV g) (hh : 0 ≤ headV g slot) (h0 : 0 ≤ tail) (h1 : tail ≤ 1099511627776) (hz : ∀ s ∈ D, s.size ≤ maxLen) :
  ∃ A, RowsOf g slot key tail D A := by
 have hf := geo_facts hG
 have key1 : ∀ m : Nat, (m : Int) ≤ g.journal → ∃ A : List Record, A.length ≤ m ∧ (∀ (j : Nat) r, A[j]? = some r → ∃ s, D[(jourV g slot (tail + j)).toNat]? = some s ∧ isB s key (tail + j) = true ∧ isV s key (tail + j) = r) ∧
   (A.length < m → ∃ s, D[(jourV g slot (tail + A.length)).toNat]? = some s ∧ isB s key (tail + A.length) = false) := by
  intro m
  induction m with
  | zero => intro _; exact ⟨[], Nat.le_refl _, fun j r h => by simp at h, fun h => by simp at h⟩
  | succ m ih =>
   intro hm
   obtain ⟨A, hA1, hA2, hA3⟩ := ih (by omega)
   by_cases hlt : A.length < m
   · exact ⟨A, by omega, hA2, fun _ => hA3 hlt⟩
   ·
    have he : A.length = m := by omega
    have hj := rj_in hG hh (lsn := tail + A.length) (by omega)
    obtain ⟨s, hs⟩ : ∃ s, D[(jourV g slot (tail + A.length)).toNat]? = some s := ⟨_, List.getElem?_eq_getElem (by omega)⟩
    cases hb : isB s key (tail + A.length) with
    | false => exact ⟨A, by omega, hA2, fun _ => ⟨s, hs, hb⟩⟩
    | true =>
     refine ⟨A ++ [isV s key (tail + A.length)], by simp; omega, fun j r hr => ?_, fun h => by simp at h; omega⟩
     rw [List.getElem?_append] at hr
     split at hr
     · exact hA2 j r hr
     ·
      rename_i hge
      have hjA : j = A.length := by
       have := (List.getElem?_eq_some_iff.1 hr).1
       simp at this
       omega
      subst hjA
      simp at hr
      exact ⟨s, hs, hb, hr⟩
 obtain ⟨A, hA1, hA2, hA3⟩ := key1 g.journal.toNat (by omega)
 exact ⟨A, hG, hlen, hh, h0, h1, by omega, hz, hA2, fun h => hA3 (by omega)⟩
abbrev devG (a ca ka fa : Option Addr) (n c cn cc kn kc fn fc : Nat) (nx : Int) : Value := .agg #[.slice a n c, .slice ca cn cc, .slice ka kn kc, I nx, .slice fa fn fc]
theorem gthere_c (V : Vw) (g : Geo) (ok : g.Ok) (hG : geoB g = true) (slot : Int) (a ca ka fa : Option Addr) (n c cn cc kn kc fn fc : Nat) (nx : Int) (D : List ByteArray) (w : World) (hV : V.le (vw w)) (hs0 : SlOf V encS 1 (.slice a n c) D) (hl : (D.length : Int) = totV g) :
  Calls Tryz.prog 42 #[g.val, devG a ca ka fa n c cn cc kn kc fn fc nx, I slot] w fun e w' => e = .returned (.bool (decide (0 ≤ headV g slot))) ∧ Below w.heap.size w w' := by
 have hs := hs0.mono hV
 refine enter (E := E0) (O := []) (nl := 0) (V := vw w) [.a (.v g.val), .a (.v (devG a ca ka fa n c cn cc kn kc fn fc nx)), .a (.v (I slot))] Tryz.func42 rfl rfl (mem0 E0 0 w) rfl rfl ?_
 refine c_seq (c_region ?_)
 iterate 2 refine o_new tok rfl rfl rfl rfl ?_
 refine yO rfl rfl rfl rfl ?_
 refine o_end [2, 3, 4] rfl ?_
 refine x_then (c_seq ?_)
 refine c_draw mixed (by kernel_rfl) ?_
 refine d_yield rfl rfl rfl (yV rfl) rfl ?_
 refine d_call (.a (.v _)) rfl rfl fnok4 rfl rfl rfl (fun hg E w1 hm => by exact refMay_c g ok _) ?_
 iterate 3 refine d_yield rfl rfl rfl (yV rfl) rfl ?_
 refine d_yield rfl rfl rfl (y_len tok rfl (fun hg => hs.sl)) rfl ?_
 refine d_yield rfl rfl rfl (yV rfl) rfl ?_
 refine d_call (.a (.v _)) rfl rfl fnok5 rfl rfl rfl (fun hg E w1 hm => by exact refTotal_c g ok _) ?_
 iterate 5 refine d_yield rfl rfl rfl (yV rfl) rfl ?_
 refine d_call (.a (.v _)) rfl rfl fnok26 rfl rfl rfl (fun hg E w1 hm => by exact refHead_c g ok slot _) ?_
 iterate 3 refine d_yield rfl rfl rfl (yV rfl) rfl ?_
 refine d_end [6] rfl ?_
 refine x_then (c_ret ?_)
 refine b_ret tok rfl ?_
 intro E w' hm _
 refine ⟨?_, hm.below (Vw.le.refl _)⟩
 rw [hG, hl]
 simp
 rfl
theorem gtail_c (V : Vw) (g : Geo) (ok : g.Ok) (hG : geoB g = true) (slot : Int) (a ca ka fa : Option Addr) (n c cn cc kn kc fn fc : Nat) (nx : Int) (D : List ByteArray) (hz : ∀ s ∈ D, s.size ≤ maxLen) (w : World) (hV : V.le (vw w)) (hs0 : SlOf V encS 1 (.slice a n c) D) (hl : (D.length : Int) = totV g) (tv te : Int)
  (hte : (headV g slot < 0 ∧ tv = 0 ∧ te = 2) ∨ ∃ s, D[(headV g slot).toNat]? = some s ∧ 0 ≤ headV g slot ∧ tv = tailV s ∧ te = tailE s) :
  Calls Tryz.prog 31 #[g.val, devG a ca ka fa n c cn cc kn kc fn fc nx, I slot] w fun e w' => e = .returned (.tuple #[I tv, I te]) ∧ Below w.heap.size w w' := by
 have hs := hs0.mono hV
 refine enter (E := E0) (O := []) (nl := 0) (V := vw w) [.a (.v g.val), .a (.v (devG a ca ka fa n c cn cc kn kc fn fc nx)), .a (.v (I slot))] Tryz.func31 rfl rfl (mem0 E0 0 w) rfl rfl ?_
 refine c_seq (c_region ?_)
 iterate 2 refine o_new tok rfl rfl rfl rfl ?_
 iterate 2 refine yO rfl rfl rfl rfl ?_
 refine o_end [2, 3, 4] rfl ?_
 refine x_then (c_seq (c_seq (c_region ?_)))
 iterate 3 refine yO rfl rfl rfl rfl ?_
 refine o_call (.a (.v _)) rfl rfl fnok42 rfl rfl rfl (fun hg E w1 hm => by exact gthere_c (vw w) g ok hG slot _ _ _ _ _ _ _ _ _ _ _ _ _ D _ hm.leV hs hl) ?_
 refine yO rfl rfl rfl rfl ?_
 refine o_end [2, 3, 4, 12] rfl ?_
 refine x_then ?_
 refine c_cond rfl (fun h => ?_) (fun h => ?_)
 ·
  simp only [Xa, Xb, Xc, Xd, Xe, Xf, Xg, Xh, Xi, Xj, Xk, Xl, Xm, Xn, Xo, Xp] at h
  refine c_seq (c_region ?_)
  iterate 2 refine yO rfl rfl rfl rfl ?_
  refine o_end [6, 7] rfl ?_
  refine x_then (c_ret (x_then_ret ?_))
  refine b_ret tok rfl ?_
  intro E w' hm _
  refine ⟨?_, hm.below (Vw.le.refl _)⟩
  rcases hte with ⟨_, rfl, rfl⟩ | ⟨s, _, h0, _, _⟩
  · rfl
  · omega
 ·
  simp only [Xa, Xb, Xc, Xd, Xe, Xf, Xg, Xh, Xi, Xj, Xk, Xl, Xm, Xn, Xo, Xp] at h
  obtain ⟨s, h_s, h0, rfl, rfl⟩ := hte.resolve_left (by omega)
  obtain ⟨q, hq⟩ : ∃ q : Nat, headV g slot = q := ⟨(headV g slot).toNat, by omega⟩
  rw [hq, Int.toNat_natCast] at h_s
  clear h
  have hrh := fun w => refHead_c g ok slot w
  rw [hq] at hrh
  refine c_skip (x_then (c_seq ?_))
  refine c_draw mixed (by kernel_rfl) ?_
  iterate 4 refine d_yield rfl rfl rfl (yV rfl) rfl ?_
  refine d_call (.a (.v _)) rfl rfl fnok26 rfl rfl rfl (fun hg E w1 hm => by exact hrh _) ?_
  have hlt_s := lt_of_at h_s
  refine d_yield rfl rfl rfl (y_idx tok rfl (fun hg => hs.sl) (fun hg => ⟨by omega, by omega⟩)) rfl ?_
  refine d_yield rfl rfl rfl (y_lel tok (q) 0 (s) rfl (fun hg => hs) (fun hg => h_s) rfl rfl) rfl ?_
  refine d_call (.a (.v _)) rfl rfl fnok43 rfl rfl rfl (fun hg E w1 hm => by exact rstail_c s (hz s (List.mem_of_getElem? h_s)) _) ?_
  iterate 4 refine d_yield rfl rfl rfl (yV rfl) rfl ?_
  refine d_end [6, 7] rfl ?_
  refine x_then (c_ret ?_)
  refine b_ret tok rfl ?_
  intro E w' hm _
  refine ⟨?_, hm.below (Vw.le.refl _)⟩
  rfl
theorem grows_c (V : Vw) (g : Geo) (ok : g.Ok) (slot key tail : Int) (D : List ByteArray) (A : List Record) (hJ : RowsOf g slot key tail D A) (a ca ka fa : Option Addr) (n c cn cc kn kc fn fc : Nat) (nx : Int) (w : World) (hV : V.le (vw w)) (hs0 : SlOf V encS 1 (.slice a n c) D) :
  Calls Tryz.prog 33 #[g.val, devG a ca ka fa n c cn cc kn kc fn fc nx, I slot, I key, I tail] w (RowR A w) := by
 have hs := hs0.mono hV
 have hf := geo_facts hJ.geo
 have hz := geo_sizes hJ.geo
 have h0 := hJ.tl0
 have h1 := hJ.tl1
 have hfew := hJ.few
 have hln := hJ.len
 have hhd := hJ.hd
 refine enter (E := E0) (O := []) (nl := 0) (V := vw w) [.a (.v g.val), .a (.v (devG a ca ka fa n c cn cc kn kc fn fc nx)), .a (.v (I slot)), .a (.v (I key)), .a (.v (I tail))] Tryz.func33 rfl rfl (mem0 E0 0 w) rfl rfl ?_
 refine c_seq (c_region ?_)
 iterate 2 refine o_new tok rfl rfl rfl rfl ?_
 refine yO rfl rfl rfl rfl ?_
 refine o_end [2, 3, 4, 5, 6] rfl ?_
 refine x_then (c_seq (c_region ?_))
 refine yO rfl rfl rfl rfl ?_
 refine o_end [2, 3, 4, 5, 6, 11] rfl ?_
 refine x_then (c_seq (c_seq (c_region ?_)))
 iterate 3 refine yO rfl rfl rfl rfl ?_
 refine o_call (.a (.v _)) rfl rfl fnok42 rfl rfl rfl (fun hg E w1 hm => by exact gthere_c (vw w) g ok hJ.geo slot _ _ _ _ _ _ _ _ _ _ _ _ _ D _ hm.leV hs hJ.len) ?_
 iterate 9 refine yO rfl rfl rfl rfl ?_
 refine o_end [2, 3, 4, 5, 6, 11, 27] rfl ?_
 refine x_then ?_
 refine c_cond rfl (fun h => ?_) (fun h => ?_)
 ·
  simp only [Xa, Xb, Xc, Xd, Xe, Xf, Xg, Xh, Xi, Xj, Xk, Xl, Xm, Xn, Xo, Xp] at h
  refine c_seq (c_region ?_)
  refine yO rfl rfl rfl rfl ?_
  refine o_end [10] rfl ?_
  refine x_then (c_ret (x_then_ret ?_))
  refine b_ret tok rfl ?_
  exfalso
  omega
 ·
  simp only [Xa, Xb, Xc, Xd, Xe, Xf, Xg, Xh, Xi, Xj, Xk, Xl, Xm, Xn, Xo, Xp] at h
  clear h
  refine c_skip (x_then (c_seq (c_seq (c_region ?_))))
  refine yO rfl rfl rfl rfl ?_
  refine o_end [2, 3, 4, 5, 6, 11, 12] rfl ?_
  refine x_then (c_block ?_)
  refine k_nil 11 74 6 rfl rfl ?_
  refine c_loopK [2, 3, 4, 5, 6] [2] rfl rfl (σ := Nat) (fun i => [(11, .a (.row 2)), (12, .a (.v (I i)))]) (fun i => [(2, .row 74 6 (A.take i).length ((A.take i).flatMap Record.cells))]) (fun i => i ≤ A.length) (fun i => g.journal.toNat - i) (0) (by omega) (by repeat (first | exact fN | refine fC rfl ?_)) (by repeat (first | exact oN | refine oC rfl ?_)) rfl ?_
  rintro i hi
  iterate 2 refine c_seq ?_
  refine c_region ?_
  iterate 4 refine yO rfl rfl rfl rfl ?_
  refine o_end [2, 3, 4, 5, 6, 11, 12, 31] rfl ?_
  refine x_then ?_
  refine c_cond rfl (fun h => ?_) (fun h => ?_)
  ·
   simp only [Xa, Xb, Xc, Xd, Xe, Xf, Xg, Xh, Xi, Xj, Xk, Xl, Xm, Xn, Xo, Xp] at h
   have hwi : IntKind.i64.wrap ((i : Int) + 1) = ((i + 1 : Nat) : Int) := wrapI (by omega) (by omega)
   have hwt : IntKind.i64.wrap (tail + (i : Int)) = tail + i := wrapI (by omega) (by omega)
   obtain ⟨b, R, s, h_s, hsz, hb, hR, hcase⟩ : ∃ (b : Bool) (R : Record) (s : ByteArray), D[(jourV g slot (tail + i)).toNat]? = some s ∧ s.size ≤ maxLen ∧ isB s key (tail + i) = b ∧ isV s key (tail + i) = R ∧ ((i < A.length ∧ b = true ∧ A[i]? = some R) ∨ (i = A.length ∧ b = false)) := by
    by_cases hlt : i < A.length
    ·
     obtain ⟨r, hr⟩ : ∃ r, A[i]? = some r := ⟨_, List.getElem?_eq_getElem hlt⟩
     obtain ⟨s, hs1, hs2, hs3⟩ := hJ.at_ i r hr
     exact ⟨true, r, s, hs1, hJ.sz s (List.mem_of_getElem? hs1), hs2, hs3, .inl ⟨hlt, rfl, hr⟩⟩
    ·
     have hiA : i = A.length := by omega
     obtain ⟨s, hs1, hs2⟩ := hJ.rest (by omega)
     rw [← hiA] at hs1 hs2
     exact ⟨false, _, s, hs1, hJ.sz s (List.mem_of_getElem? hs1), hs2, rfl, .inr ⟨hiA, rfl⟩⟩
   have hj0 := (rj_in hJ.geo hJ.hd (lsn := tail + i) (by omega)).1
   obtain ⟨q, hq⟩ : ∃ q : Nat, jourV g slot (tail + i) = q := ⟨(jourV g slot (tail + i)).toNat, by omega⟩
   rw [hq, Int.toNat_natCast] at h_s
   have hqlt := lt_of_at h_s
   have hjc := fun w => refJour_c g ok slot (tail + i) w
   rw [hq, ← hwt] at hjc
   have hisc := fun w => refIs_c s key (tail + i) hsz w
   rw [hb, hR, ← hwt] at hisc
   refine c_skip (x_then (c_seq (c_block (c_seq ?_))))
   refine c_heldM (σ := Unit) (fun _ => [(2, .a (.v (I slot))), (3, .a (.v (I key))), (4, .a (.v (I tail))), (5, .a (.ptr 0 0)), (6, .a (.ptr 1 0)), (11, .a (.row 2)), (12, .a (.v (I i))), (13, .a (.ptr 3 0)), (14, .a (.v (.bool b)))]) (fun _ => [(0, .lit (g.cells.map .v) 23), (1, .lit [.v (.slice a n c), .v (.slice ca cn cc), .v (.slice ka kn kc), .v (I nx), .v (.slice fa fn fc)] 28), (2, .row 74 6 (A.take i).length ((A.take i).flatMap Record.cells)), (3, .lit (R.cells.map .v) 74)]) (4) (fun _ => (vw w)) (fun _ => True) mixed ?_ ?_
   ·
    refine t_take 0 rfl (by kernel_rfl) rfl rfl rfl (yV rfl) rfl ?_
    refine t_take 1 rfl (by kernel_rfl) rfl rfl rfl (yV rfl) rfl ?_
    refine t_take 2 rfl (by kernel_rfl) rfl rfl rfl (yV rfl) rfl ?_
    refine t_take 3 rfl (by kernel_rfl) rfl rfl rfl (yV rfl) rfl ?_
    refine t_take 4 rfl (by kernel_rfl) rfl rfl rfl (yV rfl) rfl ?_
    refine t_take 5 rfl (by kernel_rfl) rfl rfl rfl (yV rfl) rfl ?_
    refine t_take 6 rfl (by kernel_rfl) rfl rfl rfl (yV rfl) rfl ?_
    refine t_take 10 rfl (by kernel_rfl) rfl rfl rfl (yV rfl) rfl ?_
    refine t_take 11 rfl (by kernel_rfl) rfl rfl rfl (yV rfl) rfl ?_
    refine t_take 12 rfl (by kernel_rfl) rfl rfl rfl (yV rfl) rfl ?_
    refine t_take 13 rfl (by kernel_rfl) rfl rfl rfl (yV rfl) rfl ?_
    refine t_go ?_
    refine h_two 7 18 (by kernel_rfl) ?_ ?_
    ·
     refine h_call 7 (.a (.v (I (q : Int)))) rfl rfl rfl fnok27 rfl rfl rfl (fun hg E w1 hm => by exact hjc _) ?_
     refine h_two 8 18 (by kernel_rfl) ?_ ?_
     ·
      refine h_yield 8 rfl rfl rfl rfl (y_idxK tok q rfl (by simp) (fun hg => hs.sl) (fun hg => by omega)) ?_
      refine h_two 9 18 (by kernel_rfl) ?_ ?_
      ·
       refine h_yield 9 rfl rfl rfl rfl (y_lel (enc := encS) (l := D) tok q 0 s rfl (fun hg => hs) (fun hg => h_s) (by simp) rfl) ?_
       refine h_two 14 18 (by kernel_rfl) ?_ ?_
       ·
        refine h_call 14 (.a (.v (.tuple #[R.val, .bool b]))) rfl rfl rfl fnok45 rfl rfl rfl (fun hg E w1 hm => by exact hisc _) ?_
        refine h_two 15 18 (by kernel_rfl) ?_ ?_
        ·
         refine yH 15 rfl rfl rfl rfl rfl ?_
         refine h_three 16 17 18 (by kernel_rfl) ?_ ?_ ?_
         ·
          refine yH 16 rfl rfl rfl rfl rfl ?_
          refine h_two 17 18 (by kernel_rfl) ?_ ?_
          ·
           refine yH 17 rfl rfl rfl rfl rfl ?_
           refine h_one 18 (by kernel_rfl) ?_
           refine h_new 18 tok rfl rfl rfl rfl rfl rfl ?_
           refine h_one 19 (by kernel_rfl) ?_
           refine h_store 19 tok rfl rfl rfl rfl (by repeat' first | exact trivial | exact rfl | apply And.intro) (.inr ⟨(by repeat (first | exact oN | refine oC rfl ?_)), rfl, (by first | exact Vw.le.refl _ | assumption)⟩) ?_
           refine h_one 20 (by kernel_rfl) ?_
           refine yH 20 rfl rfl rfl rfl rfl ?_
           refine h_done [2, 3, 4, 5, 6, 11, 12, 13, 14] (by kernel_rfl) rfl ?_
           exact x_meet () trivial (by repeat (first | exact fN | refine fC rfl ?_)) (by repeat (first | exact oN | refine oC rfl ?_)) rfl (Vw.le.refl _)
          ·
           refine h_new 18 tok rfl rfl rfl rfl rfl rfl ?_
           refine h_two 17 19 (by kernel_rfl) ?_ ?_
           ·
            refine yH 17 rfl rfl rfl rfl rfl ?_
            refine h_one 19 (by kernel_rfl) ?_
            refine h_store 19 tok rfl rfl rfl rfl (by repeat' first | exact trivial | exact rfl | apply And.intro) (.inr ⟨(by repeat (first | exact oN | refine oC rfl ?_)), rfl, (by first | exact Vw.le.refl _ | assumption)⟩) ?_
            refine h_one 20 (by kernel_rfl) ?_
            refine yH 20 rfl rfl rfl rfl rfl ?_
            refine h_done [2, 3, 4, 5, 6, 11, 12, 13, 14] (by kernel_rfl) rfl ?_
            exact x_meet () trivial (by repeat (first | exact fN | refine fC rfl ?_)) (by repeat (first | exact oN | refine oC rfl ?_)) rfl (Vw.le.refl _)
           ·
            refine h_store 19 tok rfl rfl rfl rfl (by repeat' first | exact trivial | exact rfl | apply And.intro) (.inr ⟨(by repeat (first | exact oN | refine oC rfl ?_)), rfl, (by first | exact Vw.le.refl _ | assumption)⟩) ?_
            refine h_one 17 (by kernel_rfl) ?_
            refine yH 17 rfl rfl rfl rfl rfl ?_
            refine h_one 20 (by kernel_rfl) ?_
            refine yH 20 rfl rfl rfl rfl rfl ?_
            refine h_done [2, 3, 4, 5, 6, 11, 12, 13, 14] (by kernel_rfl) rfl ?_
            exact x_meet () trivial (by repeat (first | exact fN | refine fC rfl ?_)) (by repeat (first | exact oN | refine oC rfl ?_)) rfl (Vw.le.refl _)
         ·
          refine yH 17 rfl rfl rfl rfl rfl ?_
          refine h_two 16 18 (by kernel_rfl) ?_ ?_
          ·
           refine yH 16 rfl rfl rfl rfl rfl ?_
           refine h_one 18 (by kernel_rfl) ?_
           refine h_new 18 tok rfl rfl rfl rfl rfl rfl ?_
           refine h_one 19 (by kernel_rfl) ?_
           refine h_store 19 tok rfl rfl rfl rfl (by repeat' first | exact trivial | exact rfl | apply And.intro) (.inr ⟨(by repeat (first | exact oN | refine oC rfl ?_)), rfl, (by first | exact Vw.le.refl _ | assumption)⟩) ?_
           refine h_one 20 (by kernel_rfl) ?_
           refine yH 20 rfl rfl rfl rfl rfl ?_
           refine h_done [2, 3, 4, 5, 6, 11, 12, 13, 14] (by kernel_rfl) rfl ?_
           exact x_meet () trivial (by repeat (first | exact fN | refine fC rfl ?_)) (by repeat (first | exact oN | refine oC rfl ?_)) rfl (Vw.le.refl _)
          ·
           refine h_new 18 tok rfl rfl rfl rfl rfl rfl ?_
           refine h_one 16 (by kernel_rfl) ?_
           refine yH 16 rfl rfl rfl rfl rfl ?_
           refine h_one 19 (by kernel_rfl) ?_
           refine h_store 19 tok rfl rfl rfl rfl (by repeat' first | exact trivial | exact rfl | apply And.intro) (.inr ⟨(by repeat (first | exact oN | refine oC rfl ?_)), rfl, (by first | exact Vw.le.refl _ | assumption)⟩) ?_
           refine h_one 20 (by kernel_rfl) ?_
           refine yH 20 rfl rfl rfl rfl rfl ?_
           refine h_done [2, 3, 4, 5, 6, 11, 12, 13, 14] (by kernel_rfl) rfl ?_
           exact x_meet () trivial (by repeat (first | exact fN | refine fC rfl ?_)) (by repeat (first | exact oN | refine oC rfl ?_)) rfl (Vw.le.refl _)
         ·
          refine h_new 18 tok rfl rfl rfl rfl rfl rfl ?_
          refine h_two 16 17 (by kernel_rfl) ?_ ?_
          ·
           refine yH 16 rfl rfl rfl rfl rfl ?_
           refine h_two 17 19 (by kernel_rfl) ?_ ?_
           ·
            refine yH 17 rfl rfl rfl rfl rfl ?_
            refine h_one 19 (by kernel_rfl) ?_
            refine h_store 19 tok rfl rfl rfl rfl (by repeat' first | exact trivial | exact rfl | apply And.intro) (.inr ⟨(by repeat (first | exact oN | refine oC rfl ?_)), rfl, (by first | exact Vw.le.refl _ | assumption)⟩) ?_
            refine h_one 20 (by kernel_rfl) ?_
            refine yH 20 rfl rfl rfl rfl rfl ?_
            refine h_done [2, 3, 4, 5, 6, 11, 12, 13, 14] (by kernel_rfl) rfl ?_
            exact x_meet () trivial (by repeat (first | exact fN | refine fC rfl ?_)) (by repeat (first | exact oN | refine oC rfl ?_)) rfl (Vw.le.refl _)
           ·
            refine h_store 19 tok rfl rfl rfl rfl (by repeat' first | exact trivial | exact rfl | apply And.intro) (.inr ⟨(by repeat (first | exact oN | refine oC rfl ?_)), rfl, (by first | exact Vw.le.refl _ | assumption)⟩) ?_
            refine h_one 17 (by kernel_rfl) ?_
            refine yH 17 rfl rfl rfl rfl rfl ?_
            refine h_one 20 (by kernel_rfl) ?_
            refine yH 20 rfl rfl rfl rfl rfl ?_
            refine h_done [2, 3, 4, 5, 6, 11, 12, 13, 14] (by kernel_rfl) rfl ?_
            exact x_meet () trivial (by repeat (first | exact fN | refine fC rfl ?_)) (by repeat (first | exact oN | refine oC rfl ?_)) rfl (Vw.le.refl _)
          ·
           refine yH 17 rfl rfl rfl rfl rfl ?_
           refine h_one 16 (by kernel_rfl) ?_
           refine yH 16 rfl rfl rfl rfl rfl ?_
           refine h_one 19 (by kernel_rfl) ?_
           refine h_store 19 tok rfl rfl rfl rfl (by repeat' first | exact trivial | exact rfl | apply And.intro) (.inr ⟨(by repeat (first | exact oN | refine oC rfl ?_)), rfl, (by first | exact Vw.le.refl _ | assumption)⟩) ?_
           refine h_one 20 (by kernel_rfl) ?_
           refine yH 20 rfl rfl rfl rfl rfl ?_
           refine h_done [2, 3, 4, 5, 6, 11, 12, 13, 14] (by kernel_rfl) rfl ?_
           exact x_meet () trivial (by repeat (first | exact fN | refine fC rfl ?_)) (by repeat (first | exact oN | refine oC rfl ?_)) rfl (Vw.le.refl _)
        ·
         refine h_new 18 tok rfl rfl rfl rfl rfl rfl ?_
         refine h_one 15 (by kernel_rfl) ?_
         refine yH 15 rfl rfl rfl rfl rfl ?_
         refine h_two 16 17 (by kernel_rfl) ?_ ?_
         ·
          refine yH 16 rfl rfl rfl rfl rfl ?_
          refine h_two 17 19 (by kernel_rfl) ?_ ?_
          ·
           refine yH 17 rfl rfl rfl rfl rfl ?_
           refine h_one 19 (by kernel_rfl) ?_
           refine h_store 19 tok rfl rfl rfl rfl (by repeat' first | exact trivial | exact rfl | apply And.intro) (.inr ⟨(by repeat (first | exact oN | refine oC rfl ?_)), rfl, (by first | exact Vw.le.refl _ | assumption)⟩) ?_
           refine h_one 20 (by kernel_rfl) ?_
           refine yH 20 rfl rfl rfl rfl rfl ?_
           refine h_done [2, 3, 4, 5, 6, 11, 12, 13, 14] (by kernel_rfl) rfl ?_
           exact x_meet () trivial (by repeat (first | exact fN | refine fC rfl ?_)) (by repeat (first | exact oN | refine oC rfl ?_)) rfl (Vw.le.refl _)
          ·
           refine h_store 19 tok rfl rfl rfl rfl (by repeat' first | exact trivial | exact rfl | apply And.intro) (.inr ⟨(by repeat (first | exact oN | refine oC rfl ?_)), rfl, (by first | exact Vw.le.refl _ | assumption)⟩) ?_
           refine h_one 17 (by kernel_rfl) ?_
           refine yH 17 rfl rfl rfl rfl rfl ?_
           refine h_one 20 (by kernel_rfl) ?_
           refine yH 20 rfl rfl rfl rfl rfl ?_
           refine h_done [2, 3, 4, 5, 6, 11, 12, 13, 14] (by kernel_rfl) rfl ?_
           exact x_meet () trivial (by repeat (first | exact fN | refine fC rfl ?_)) (by repeat (first | exact oN | refine oC rfl ?_)) rfl (Vw.le.refl _)
         ·
          refine yH 17 rfl rfl rfl rfl rfl ?_
          refine h_one 16 (by kernel_rfl) ?_
          refine yH 16 rfl rfl rfl rfl rfl ?_
          refine h_one 19 (by kernel_rfl) ?_
          refine h_store 19 tok rfl rfl rfl rfl (by repeat' first | exact trivial | exact rfl | apply And.intro) (.inr ⟨(by repeat (first | exact oN | refine oC rfl ?_)), rfl, (by first | exact Vw.le.refl _ | assumption)⟩) ?_
          refine h_one 20 (by kernel_rfl) ?_
          refine yH 20 rfl rfl rfl rfl rfl ?_
          refine h_done [2, 3, 4, 5, 6, 11, 12, 13, 14] (by kernel_rfl) rfl ?_
          exact x_meet () trivial (by repeat (first | exact fN | refine fC rfl ?_)) (by repeat (first | exact oN | refine oC rfl ?_)) rfl (Vw.le.refl _)
       ·
        refine h_new 18 tok rfl rfl rfl rfl rfl rfl ?_
        refine h_one 14 (by kernel_rfl) ?_
        refine h_call 14 (.a (.v (.tuple #[R.val, .bool b]))) rfl rfl rfl fnok45 rfl rfl rfl (fun hg E w1 hm => by exact hisc _) ?_
        refine h_one 15 (by kernel_rfl) ?_
        refine yH 15 rfl rfl rfl rfl rfl ?_
        refine h_two 16 17 (by kernel_rfl) ?_ ?_
        ·
         refine yH 16 rfl rfl rfl rfl rfl ?_
         refine h_two 17 19 (by kernel_rfl) ?_ ?_
         ·
          refine yH 17 rfl rfl rfl rfl rfl ?_
          refine h_one 19 (by kernel_rfl) ?_
          refine h_store 19 tok rfl rfl rfl rfl (by repeat' first | exact trivial | exact rfl | apply And.intro) (.inr ⟨(by repeat (first | exact oN | refine oC rfl ?_)), rfl, (by first | exact Vw.le.refl _ | assumption)⟩) ?_
          refine h_one 20 (by kernel_rfl) ?_
          refine yH 20 rfl rfl rfl rfl rfl ?_
          refine h_done [2, 3, 4, 5, 6, 11, 12, 13, 14] (by kernel_rfl) rfl ?_
          exact x_meet () trivial (by repeat (first | exact fN | refine fC rfl ?_)) (by repeat (first | exact oN | refine oC rfl ?_)) rfl (Vw.le.refl _)
         ·
          refine h_store 19 tok rfl rfl rfl rfl (by repeat' first | exact trivial | exact rfl | apply And.intro) (.inr ⟨(by repeat (first | exact oN | refine oC rfl ?_)), rfl, (by first | exact Vw.le.refl _ | assumption)⟩) ?_
          refine h_one 17 (by kernel_rfl) ?_
          refine yH 17 rfl rfl rfl rfl rfl ?_
          refine h_one 20 (by kernel_rfl) ?_
          refine yH 20 rfl rfl rfl rfl rfl ?_
          refine h_done [2, 3, 4, 5, 6, 11, 12, 13, 14] (by kernel_rfl) rfl ?_
          exact x_meet () trivial (by repeat (first | exact fN | refine fC rfl ?_)) (by repeat (first | exact oN | refine oC rfl ?_)) rfl (Vw.le.refl _)
        ·
         refine yH 17 rfl rfl rfl rfl rfl ?_
         refine h_one 16 (by kernel_rfl) ?_
         refine yH 16 rfl rfl rfl rfl rfl ?_
         refine h_one 19 (by kernel_rfl) ?_
         refine h_store 19 tok rfl rfl rfl rfl (by repeat' first | exact trivial | exact rfl | apply And.intro) (.inr ⟨(by repeat (first | exact oN | refine oC rfl ?_)), rfl, (by first | exact Vw.le.refl _ | assumption)⟩) ?_
         refine h_one 20 (by kernel_rfl) ?_
         refine yH 20 rfl rfl rfl rfl rfl ?_
         refine h_done [2, 3, 4, 5, 6, 11, 12, 13, 14] (by kernel_rfl) rfl ?_
         exact x_meet () trivial (by repeat (first | exact fN | refine fC rfl ?_)) (by repeat (first | exact oN | refine oC rfl ?_)) rfl (Vw.le.refl _)
      ·
       refine h_new 18 tok rfl rfl rfl rfl rfl rfl ?_
       refine h_one 9 (by kernel_rfl) ?_
       refine h_yield 9 rfl rfl rfl rfl (y_lel (enc := encS) (l := D) tok q 0 s rfl (fun hg => hs) (fun hg => h_s) (by simp) rfl) ?_
       refine h_one 14 (by kernel_rfl) ?_
       refine h_call 14 (.a (.v (.tuple #[R.val, .bool b]))) rfl rfl rfl fnok45 rfl rfl rfl (fun hg E w1 hm => by exact hisc _) ?_
       refine h_one 15 (by kernel_rfl) ?_
       refine yH 15 rfl rfl rfl rfl rfl ?_
       refine h_two 16 17 (by kernel_rfl) ?_ ?_
       ·
        refine yH 16 rfl rfl rfl rfl rfl ?_
        refine h_two 17 19 (by kernel_rfl) ?_ ?_
        ·
         refine yH 17 rfl rfl rfl rfl rfl ?_
         refine h_one 19 (by kernel_rfl) ?_
         refine h_store 19 tok rfl rfl rfl rfl (by repeat' first | exact trivial | exact rfl | apply And.intro) (.inr ⟨(by repeat (first | exact oN | refine oC rfl ?_)), rfl, (by first | exact Vw.le.refl _ | assumption)⟩) ?_
         refine h_one 20 (by kernel_rfl) ?_
         refine yH 20 rfl rfl rfl rfl rfl ?_
         refine h_done [2, 3, 4, 5, 6, 11, 12, 13, 14] (by kernel_rfl) rfl ?_
         exact x_meet () trivial (by repeat (first | exact fN | refine fC rfl ?_)) (by repeat (first | exact oN | refine oC rfl ?_)) rfl (Vw.le.refl _)
        ·
         refine h_store 19 tok rfl rfl rfl rfl (by repeat' first | exact trivial | exact rfl | apply And.intro) (.inr ⟨(by repeat (first | exact oN | refine oC rfl ?_)), rfl, (by first | exact Vw.le.refl _ | assumption)⟩) ?_
         refine h_one 17 (by kernel_rfl) ?_
         refine yH 17 rfl rfl rfl rfl rfl ?_
         refine h_one 20 (by kernel_rfl) ?_
         refine yH 20 rfl rfl rfl rfl rfl ?_
         refine h_done [2, 3, 4, 5, 6, 11, 12, 13, 14] (by kernel_rfl) rfl ?_
         exact x_meet () trivial (by repeat (first | exact fN | refine fC rfl ?_)) (by repeat (first | exact oN | refine oC rfl ?_)) rfl (Vw.le.refl _)
       ·
        refine yH 17 rfl rfl rfl rfl rfl ?_
        refine h_one 16 (by kernel_rfl) ?_
        refine yH 16 rfl rfl rfl rfl rfl ?_
        refine h_one 19 (by kernel_rfl) ?_
        refine h_store 19 tok rfl rfl rfl rfl (by repeat' first | exact trivial | exact rfl | apply And.intro) (.inr ⟨(by repeat (first | exact oN | refine oC rfl ?_)), rfl, (by first | exact Vw.le.refl _ | assumption)⟩) ?_
        refine h_one 20 (by kernel_rfl) ?_
        refine yH 20 rfl rfl rfl rfl rfl ?_
        refine h_done [2, 3, 4, 5, 6, 11, 12, 13, 14] (by kernel_rfl) rfl ?_
        exact x_meet () trivial (by repeat (first | exact fN | refine fC rfl ?_)) (by repeat (first | exact oN | refine oC rfl ?_)) rfl (Vw.le.refl _)
     ·
      refine h_new 18 tok rfl rfl rfl rfl rfl rfl ?_
      refine h_one 8 (by kernel_rfl) ?_
      refine h_yield 8 rfl rfl rfl rfl (y_idxK tok q rfl (by simp) (fun hg => hs.sl) (fun hg => by omega)) ?_
      refine h_one 9 (by kernel_rfl) ?_
      refine h_yield 9 rfl rfl rfl rfl (y_lel (enc := encS) (l := D) tok q 0 s rfl (fun hg => hs) (fun hg => h_s) (by simp) rfl) ?_
      refine h_one 14 (by kernel_rfl) ?_
      refine h_call 14 (.a (.v (.tuple #[R.val, .bool b]))) rfl rfl rfl fnok45 rfl rfl rfl (fun hg E w1 hm => by exact hisc _) ?_
      refine h_one 15 (by kernel_rfl) ?_
      refine yH 15 rfl rfl rfl rfl rfl ?_
      refine h_two 16 17 (by kernel_rfl) ?_ ?_
      ·
       refine yH 16 rfl rfl rfl rfl rfl ?_
       refine h_two 17 19 (by kernel_rfl) ?_ ?_
       ·
        refine yH 17 rfl rfl rfl rfl rfl ?_
        refine h_one 19 (by kernel_rfl) ?_
        refine h_store 19 tok rfl rfl rfl rfl (by repeat' first | exact trivial | exact rfl | apply And.intro) (.inr ⟨(by repeat (first | exact oN | refine oC rfl ?_)), rfl, (by first | exact Vw.le.refl _ | assumption)⟩) ?_
        refine h_one 20 (by kernel_rfl) ?_
        refine yH 20 rfl rfl rfl rfl rfl ?_
        refine h_done [2, 3, 4, 5, 6, 11, 12, 13, 14] (by kernel_rfl) rfl ?_
        exact x_meet () trivial (by repeat (first | exact fN | refine fC rfl ?_)) (by repeat (first | exact oN | refine oC rfl ?_)) rfl (Vw.le.refl _)
       ·
        refine h_store 19 tok rfl rfl rfl rfl (by repeat' first | exact trivial | exact rfl | apply And.intro) (.inr ⟨(by repeat (first | exact oN | refine oC rfl ?_)), rfl, (by first | exact Vw.le.refl _ | assumption)⟩) ?_
        refine h_one 17 (by kernel_rfl) ?_
        refine yH 17 rfl rfl rfl rfl rfl ?_
        refine h_one 20 (by kernel_rfl) ?_
        refine yH 20 rfl rfl rfl rfl rfl ?_
        refine h_done [2, 3, 4, 5, 6, 11, 12, 13, 14] (by kernel_rfl) rfl ?_
        exact x_meet () trivial (by repeat (first | exact fN | refine fC rfl ?_)) (by repeat (first | exact oN | refine oC rfl ?_)) rfl (Vw.le.refl _)
      ·
       refine yH 17 rfl rfl rfl rfl rfl ?_
       refine h_one 16 (by kernel_rfl) ?_
       refine yH 16 rfl rfl rfl rfl rfl ?_
       refine h_one 19 (by kernel_rfl) ?_
       refine h_store 19 tok rfl rfl rfl rfl (by repeat' first | exact trivial | exact rfl | apply And.intro) (.inr ⟨(by repeat (first | exact oN | refine oC rfl ?_)), rfl, (by first | exact Vw.le.refl _ | assumption)⟩) ?_
       refine h_one 20 (by kernel_rfl) ?_
       refine yH 20 rfl rfl rfl rfl rfl ?_
       refine h_done [2, 3, 4, 5, 6, 11, 12, 13, 14] (by kernel_rfl) rfl ?_
       exact x_meet () trivial (by repeat (first | exact fN | refine fC rfl ?_)) (by repeat (first | exact oN | refine oC rfl ?_)) rfl (Vw.le.refl _)
    ·
     refine h_new 18 tok rfl rfl rfl rfl rfl rfl ?_
     refine h_one 7 (by kernel_rfl) ?_
     refine h_call 7 (.a (.v (I (q : Int)))) rfl rfl rfl fnok27 rfl rfl rfl (fun hg E w1 hm => by exact hjc _) ?_
     refine h_one 8 (by kernel_rfl) ?_
     refine h_yield 8 rfl rfl rfl rfl (y_idxK tok q rfl (by simp) (fun hg => hs.sl) (fun hg => by omega)) ?_
     refine h_one 9 (by kernel_rfl) ?_
     refine h_yield 9 rfl rfl rfl rfl (y_lel (enc := encS) (l := D) tok q 0 s rfl (fun hg => hs) (fun hg => h_s) (by simp) rfl) ?_
     refine h_one 14 (by kernel_rfl) ?_
     refine h_call 14 (.a (.v (.tuple #[R.val, .bool b]))) rfl rfl rfl fnok45 rfl rfl rfl (fun hg E w1 hm => by exact hisc _) ?_
     refine h_one 15 (by kernel_rfl) ?_
     refine yH 15 rfl rfl rfl rfl rfl ?_
     refine h_two 16 17 (by kernel_rfl) ?_ ?_
     ·
      refine yH 16 rfl rfl rfl rfl rfl ?_
      refine h_two 17 19 (by kernel_rfl) ?_ ?_
      ·
       refine yH 17 rfl rfl rfl rfl rfl ?_
       refine h_one 19 (by kernel_rfl) ?_
       refine h_store 19 tok rfl rfl rfl rfl (by repeat' first | exact trivial | exact rfl | apply And.intro) (.inr ⟨(by repeat (first | exact oN | refine oC rfl ?_)), rfl, (by first | exact Vw.le.refl _ | assumption)⟩) ?_
       refine h_one 20 (by kernel_rfl) ?_
       refine yH 20 rfl rfl rfl rfl rfl ?_
       refine h_done [2, 3, 4, 5, 6, 11, 12, 13, 14] (by kernel_rfl) rfl ?_
       exact x_meet () trivial (by repeat (first | exact fN | refine fC rfl ?_)) (by repeat (first | exact oN | refine oC rfl ?_)) rfl (Vw.le.refl _)
      ·
       refine h_store 19 tok rfl rfl rfl rfl (by repeat' first | exact trivial | exact rfl | apply And.intro) (.inr ⟨(by repeat (first | exact oN | refine oC rfl ?_)), rfl, (by first | exact Vw.le.refl _ | assumption)⟩) ?_
       refine h_one 17 (by kernel_rfl) ?_
       refine yH 17 rfl rfl rfl rfl rfl ?_
       refine h_one 20 (by kernel_rfl) ?_
       refine yH 20 rfl rfl rfl rfl rfl ?_
       refine h_done [2, 3, 4, 5, 6, 11, 12, 13, 14] (by kernel_rfl) rfl ?_
       exact x_meet () trivial (by repeat (first | exact fN | refine fC rfl ?_)) (by repeat (first | exact oN | refine oC rfl ?_)) rfl (Vw.le.refl _)
     ·
      refine yH 17 rfl rfl rfl rfl rfl ?_
      refine h_one 16 (by kernel_rfl) ?_
      refine yH 16 rfl rfl rfl rfl rfl ?_
      refine h_one 19 (by kernel_rfl) ?_
      refine h_store 19 tok rfl rfl rfl rfl (by repeat' first | exact trivial | exact rfl | apply And.intro) (.inr ⟨(by repeat (first | exact oN | refine oC rfl ?_)), rfl, (by first | exact Vw.le.refl _ | assumption)⟩) ?_
      refine h_one 20 (by kernel_rfl) ?_
      refine yH 20 rfl rfl rfl rfl rfl ?_
      refine h_done [2, 3, 4, 5, 6, 11, 12, 13, 14] (by kernel_rfl) rfl ?_
      exact x_meet () trivial (by repeat (first | exact fN | refine fC rfl ?_)) (by repeat (first | exact oN | refine oC rfl ?_)) rfl (Vw.le.refl _)
   rintro ⟨⟩ -
   refine x_then (c_seq (c_seq (c_region ?_)))
   iterate 2 refine yO rfl rfl rfl rfl ?_
   refine o_end [2, 3, 4, 5, 6, 11, 12, 13, 53] rfl ?_
   refine x_then ?_
   refine c_cond rfl (fun h => ?_) (fun h => ?_)
   ·
    refine c_exit (x_then_exit ?_)
    refine x_block_miss rfl ?_
    iterate 2 refine x_then_exit ?_
    refine x_block_hit (x_then (c_seq (c_region ?_)))
    iterate 2 refine yO rfl rfl rfl rfl ?_
    refine o_end [10] rfl ?_
    refine x_then (c_ret ?_)
    refine b_ret tok rfl ?_
    rcases hcase with ⟨_, hb2, _⟩ | ⟨hiA, _⟩
    · rw [hb2] at h; simp at h
    ·
     have hA : A.take i = A := List.take_of_length_le (by omega)
     rw [hA]
     intro E w' hm _
     exact ⟨⟨E.κ 2, rfl, hm.rowFresh (Vw.le.refl _) (l := 2) rfl⟩, hm.below (Vw.le.refl _)⟩
   ·
    rcases hcase with ⟨hlt, hb2, hRA⟩ | ⟨_, hb2⟩
    ·
     have htk := rp_take hRA
     have hx : (A.take i).length + 1 = (A.take (i + 1)).length ∧ (A.take i).flatMap Record.cells ++ R.cells = (A.take (i + 1)).flatMap Record.cells := by rw [htk]; simp
     have hti : (A.take i).length = i := by rw [List.length_take]; omega
     refine c_skip (x_then (c_region ?_))
     iterate 2 refine yO rfl rfl rfl rfl ?_
     refine o_step rfl rfl rfl rfl rfl (s_bs tok 6 rfl rfl rfl) (fun _ _ => ?_)
     refine o_step rfl rfl rfl rfl rfl (s_app tok R.cells rfl (fun E w hm => ownsRow_src (hm.row _ _ _ _ _ rfl)) (fun _ _ _ => by simpa using rec_ones [R]) (by dsimp only; omega)) (fun _ _ => ?_)
     refine yO rfl rfl rfl rfl ?_
     refine o_end [2, 3, 4, 5, 6, 11, 12] rfl ?_
     refine x_block (x_then (c_region ?_))
     iterate 3 refine yO rfl rfl rfl rfl ?_
     refine o_end [2, 3, 4, 5, 6, 11, 12] rfl ?_
     refine x_then ?_
     rw [hx.1, hx.2, hwi]
     refine k_swap 2 5 rfl ?_
     refine x_round (i + 1) (by omega) (by first | omega | (dsimp only; omega)) (by repeat (first | exact fN | refine fC rfl ?_)) (by repeat (first | exact oN | refine oC rfl ?_)) rfl (Vw.le.refl _)
    · rw [hb2] at h; simp at h
  ·
   simp only [Xa, Xb, Xc, Xd, Xe, Xf, Xg, Xh, Xi, Xj, Xk, Xl, Xm, Xn, Xo, Xp] at h
   refine c_exit (x_then_exit (x_then_exit (x_block_hit (x_then (c_seq ?_)))))
   refine c_region ?_
   iterate 2 refine yO rfl rfl rfl rfl ?_
   refine o_end [10] rfl ?_
   refine x_then (c_ret ?_)
   refine b_ret tok rfl ?_
   have hA : A.take i = A := List.take_of_length_le (by omega)
   rw [hA]
   intro E w' hm _
   exact ⟨⟨E.κ 2, rfl, hm.rowFresh (Vw.le.refl _) (l := 2) rfl⟩, hm.below (Vw.le.refl _)⟩
def JourQ (tail : Int) (L : List Record) (w : World) (e : Ending) (w' : World) : Prop :=
 (∃ v, e = .returned (.tuple #[v, I tail, I 0]) ∧ w'.ownsRow w.heap.size 74 6 v L.length (L.flatMap Record.cells)) ∧ Below w.heap.size w w'
theorem gjournal_c (V : Vw) (g : Geo) (ok : g.Ok) (slot key tail : Int) (D : List ByteArray) (A : List Record) (hJ : RowsOf g slot key tail D A) (hd : ∃ s, D[(headV g slot).toNat]? = some s ∧ tailV s = tail ∧ tailE s = 0) (a ca ka fa : Option Addr) (n c cn cc kn kc fn fc : Nat) (nx : Int) (w : World) (hV : V.le (vw w)) (hs0 : SlOf V encS 1 (.slice a n c) D) :
  Calls Tryz.prog 9 #[g.val, devG a ca ka fa n c cn cc kn kc fn fc nx, I slot, I key] w (JourQ tail (A.take (whole A)) w) := by
 have hs := hs0.mono hV
 have hf := geo_facts hJ.geo
 have hfew := hJ.few
 have hz := geo_sizes hJ.geo
 obtain ⟨s, h_s, ht1, ht2⟩ := hd
 refine enter (E := E0) (O := []) (nl := 0) (V := vw w) [.a (.v g.val), .a (.v (devG a ca ka fa n c cn cc kn kc fn fc nx)), .a (.v (I slot)), .a (.v (I key))] Tryz.func9 rfl rfl (mem0 E0 0 w) rfl rfl ?_
 refine c_seq (c_region ?_)
 iterate 2 refine o_new tok rfl rfl rfl rfl ?_
 iterate 3 refine yO rfl rfl rfl rfl ?_
 refine o_end [2, 3, 4, 5] rfl ?_
 refine x_then (c_seq (c_region ?_))
 iterate 3 refine yO rfl rfl rfl rfl ?_
 refine o_call (.a (.v _)) rfl rfl fnok31 rfl rfl rfl (fun hg E w1 hm => by exact gtail_c (vw w) g ok hJ.geo slot _ _ _ _ _ _ _ _ _ _ _ _ _ D hJ.sz _ hm.leV hs hJ.len tail 0 (.inr ⟨s, h_s, hJ.hd, ht1.symm, ht2.symm⟩)) ?_
 iterate 5 refine yO rfl rfl rfl rfl ?_
 refine o_end [2, 3, 4, 5, 11, 12] rfl ?_
 refine x_then (c_seq (c_seq (c_region ?_)))
 iterate 2 refine yO rfl rfl rfl rfl ?_
 refine o_end [2, 3, 4, 5, 11, 12, 21] rfl ?_
 refine x_then ?_
 refine c_cond rfl (fun h => ?_) (fun h => ?_)
 ·
  refine c_seq (c_region ?_)
  iterate 4 refine yO rfl rfl rfl rfl ?_
  refine o_end [8, 9, 10] rfl ?_
  refine x_then (c_ret (x_then_ret ?_))
  refine b_ret tok rfl ?_
  exact absurd h (by simp)
 ·
  refine c_skip (x_then (c_seq (c_region ?_)))
  iterate 5 refine yO rfl rfl rfl rfl ?_
  refine o_step rfl rfl rfl rfl rfl (s_callRow 74 6 A.length (A.flatMap Record.cells) rfl fnok33 (fun E w1 hm => (grows_c (vw w) g ok slot key tail D A hJ _ _ _ _ _ _ _ _ _ _ _ _ _ w1 hm.leV hs).mono (fun e w' ⟨⟨v, he, ho⟩, hb⟩ => ⟨v, he, ho, hb⟩))) (fun _ _ => ?_)
  refine o_step rfl rfl rfl rfl rfl (s_callRow 74 6 (A.take (whole A)).length ((A.take (whole A)).flatMap Record.cells) rfl fnok32 (fun E w1 hm => (rWhole17_c (vw w1) _ A w1 (Vw.le.refl _) (hm.rowOf 2 rfl (fun _ => rfl)) (by omega)).mono (fun e w' ⟨⟨v, he, ho⟩, hb⟩ => ⟨v, he, ho, hb⟩))) (fun _ _ => ?_)
  iterate 4 refine yO rfl rfl rfl rfl ?_
  refine o_end [8, 9, 10] rfl ?_
  refine x_then (c_ret ?_)
  refine b_ret tok rfl ?_
  intro E w' hm _
  exact ⟨⟨E.κ 3, rfl, hm.rowFresh (Vw.le.refl _) (l := 3) rfl⟩, hm.below (Vw.le.refl _)⟩
theorem gjournalE_c (V : Vw) (g : Geo) (ok : g.Ok) (hG : geoB g = true) (slot key : Int) (a ca ka fa : Option Addr) (n c cn cc kn kc fn fc : Nat) (nx : Int) (D : List ByteArray) (hz : ∀ s ∈ D, s.size ≤ maxLen) (w : World) (hV : V.le (vw w)) (hs0 : SlOf V encS 1 (.slice a n c) D) (hl : (D.length : Int) = totV g) (tv te : Int)
  (hte : (headV g slot < 0 ∧ tv = 0 ∧ te = 2) ∨ ∃ s, D[(headV g slot).toNat]? = some s ∧ 0 ≤ headV g slot ∧ tv = tailV s ∧ te = tailE s) (hne : te ≠ 0) :
  Calls Tryz.prog 9 #[g.val, devG a ca ka fa n c cn cc kn kc fn fc nx, I slot, I key] w fun e w' => e = .returned (.tuple #[.slice none 0 0, I 0, I te]) ∧ Below w.heap.size w w' := by
 have hs := hs0.mono hV
 refine enter (E := E0) (O := []) (nl := 0) (V := vw w) [.a (.v g.val), .a (.v (devG a ca ka fa n c cn cc kn kc fn fc nx)), .a (.v (I slot)), .a (.v (I key))] Tryz.func9 rfl rfl (mem0 E0 0 w) rfl rfl ?_
 refine c_seq (c_region ?_)
 iterate 2 refine o_new tok rfl rfl rfl rfl ?_
 iterate 3 refine yO rfl rfl rfl rfl ?_
 refine o_end [2, 3, 4, 5] rfl ?_
 refine x_then (c_seq (c_region ?_))
 iterate 3 refine yO rfl rfl rfl rfl ?_
 refine o_call (.a (.v _)) rfl rfl fnok31 rfl rfl rfl (fun hg E w1 hm => by exact gtail_c (vw w) g ok hG slot _ _ _ _ _ _ _ _ _ _ _ _ _ D hz _ hm.leV hs hl tv te hte) ?_
 iterate 5 refine yO rfl rfl rfl rfl ?_
 refine o_end [2, 3, 4, 5, 11, 12] rfl ?_
 refine x_then (c_seq (c_seq (c_region ?_)))
 iterate 2 refine yO rfl rfl rfl rfl ?_
 refine o_end [2, 3, 4, 5, 11, 12, 21] rfl ?_
 refine x_then ?_
 refine c_cond rfl (fun h => ?_) (fun h => ?_)
 ·
  simp only [Xa, Xb, Xc, Xd, Xe, Xf, Xg, Xh, Xi, Xj, Xk, Xl, Xm, Xn, Xo, Xp] at h
  refine c_seq (c_region ?_)
  iterate 4 refine yO rfl rfl rfl rfl ?_
  refine o_end [8, 9, 10] rfl ?_
  refine x_then (c_ret (x_then_ret ?_))
  refine b_ret tok rfl ?_
  intro E w' hm _
  refine ⟨?_, hm.below (Vw.le.refl _)⟩
  rfl
 ·
  simp only [Xa, Xb, Xc, Xd, Xe, Xf, Xg, Xh, Xi, Xj, Xk, Xl, Xm, Xn, Xo, Xp] at h
  refine c_skip (x_then (c_seq (c_region ?_)))
  iterate 5 refine yO rfl rfl rfl rfl ?_
  exact absurd h hne
theorem deed4_c (w : World) : Calls Tryz.prog 41 #[I8 4] w fun e w' => e = .returned (.tuple #[.agg #[.nilFunc, .nilFunc], .bool false]) ∧ Below w.heap.size w w' := by
 refine enter (E := E0) (O := []) (nl := 0) (V := vw w) [.a (.v (I8 4))] Tryz.func41 rfl rfl (mem0 E0 0 w) rfl rfl ?_
 refine c_seq (c_region ?_)
 refine o_new tok rfl rfl rfl rfl ?_
 refine yO rfl rfl rfl rfl ?_
 refine o_end [0, 2] rfl ?_
 refine x_then (c_seq (c_region ?_))
 refine o_call (.a (.v _)) rfl rfl fnok49 rfl rfl rfl (fun hg E w1 hm => by exact deeds_c _) ?_
 refine o_new tok rfl rfl rfl rfl ?_
 refine o_store tok rfl rfl rfl (by first | (repeat' first | exact trivial | exact rfl | apply And.intro); done | simp [onesP, oneP, lk, Value.oneCell']) ?_
 refine o_end [0, 2, 4] rfl ?_
 refine x_then (c_seq (c_seq (c_region ?_)))
 iterate 7 refine yO rfl rfl rfl rfl ?_
 refine o_end [0, 2, 4, 12] rfl ?_
 refine x_then ?_
 refine c_cond rfl (fun h => ?_) (fun h => ?_)
 ·
  refine c_seq (c_region ?_)
  refine yO rfl rfl rfl rfl ?_
  refine o_store tok rfl rfl rfl (by first | (repeat' first | exact trivial | exact rfl | apply And.intro); done | simp [onesP, oneP, lk, Value.oneCell']) ?_
  refine yO rfl rfl rfl rfl ?_
  refine o_end [2, 3] rfl ?_
  refine x_then (c_ret (x_then_ret ?_))
  refine b_ret tok rfl ?_
  intro E w' hm _
  refine ⟨?_, hm.below (Vw.le.refl _)⟩
  rfl
 ·
  exact absurd h (by decide)
theorem rpWant4_c (g : Geo) (slot key tail : Int) (lv cv : Value) (i en : Int) (w : World) :
  Calls Tryz.prog 23 #[g.val, rpV slot key 4 tail lv cv i en] w fun e w' => e = .returned (actV 0 0 ByteArray.empty) ∧ Below w.heap.size w w' := by
 refine enter (E := E0) (O := []) (nl := 0) (V := vw w) [.a (.v g.val), .a (.v (rpV slot key 4 tail lv cv i en))] Tryz.func23 rfl rfl (mem0 E0 0 w) rfl rfl ?_
 refine c_seq (c_region ?_)
 iterate 3 refine o_new tok rfl rfl rfl rfl ?_
 refine o_end [2, 3, 4] rfl ?_
 refine x_then (c_seq (c_region ?_))
 iterate 2 refine yO rfl rfl rfl rfl ?_
 refine o_call (.a (.v _)) rfl rfl fnok41 rfl rfl rfl (fun hg E w1 hm => by exact deed4_c _) ?_
 iterate 3 refine yO rfl rfl rfl rfl ?_
 refine o_new tok rfl rfl rfl rfl ?_
 refine o_store tok rfl rfl rfl (by first | (repeat' first | exact trivial | exact rfl | apply And.intro); done | simp [onesP, oneP, lk, Value.oneCell']) ?_
 refine yO rfl rfl rfl rfl ?_
 refine o_end [2, 3, 4, 5, 6] rfl ?_
 refine x_then (c_seq (c_seq (c_region ?_)))
 iterate 2 refine yO rfl rfl rfl rfl ?_
 refine o_end [2, 3, 4, 5, 14] rfl ?_
 refine x_then ?_
 refine c_cond rfl (fun h => ?_) (fun h => ?_)
 ·
  refine c_seq (c_region ?_)
  refine yO rfl rfl rfl rfl ?_
  refine o_store tok rfl rfl rfl (by first | (repeat' first | exact trivial | exact rfl | apply And.intro); done | simp [onesP, oneP, lk, Value.oneCell']) ?_
  refine o_end [4] rfl ?_
  refine x_then (c_ret (x_then_ret ?_))
  refine b_ret tok rfl ?_
  intro E w' hm _
  refine ⟨?_, hm.below (Vw.le.refl _)⟩
  rfl
 ·
  exact absurd h (by decide)
theorem wholeFrom_ge : ∀ (l : List Record) (i n d : Nat), n ≤ i → n ≤ wholeFrom l i n d
 | [], i, n, d, _ => Nat.le_refl _
 | r :: t, i, n, d, h => by
  rw [wholeFrom]
  split
  · exact wholeFrom_ge t _ _ _ (by omega)
  ·
   split
   · exact Nat.le_refl _
   · exact Nat.le_trans (by omega) (wholeFrom_ge t (i + 1) (i + 1) 0 (Nat.le_refl _))
def actsN (g : Geo) (A : List Record) : Nat := 1 + A.length + (if (A.length : Int) < g.journal then 1 else 0)
def stAt (N1 n : Nat) : Int := if n = 0 then 0 else if n < N1 then 1 else if n = N1 then 3 else 4
def stTl (tail : Int) (n : Nat) : Int := if n = 0 then 0 else tail
def stEn (N1 : Nat) (tail : Int) (n : Nat) : Int := if n < N1 then 0 else tail
def acK (N1 n : Nat) : Int := if n < N1 then 1 else if n = N1 then 2 else 0
def acS (g : Geo) (slot tail : Int) (N1 n : Nat) : Int := if n = 0 then headV g slot else if n < N1 then jourV g slot (tail + ((n - 1 : Nat) : Int)) else if n = N1 then headV g slot else 0
def acT (s0 : ByteArray) (N1 n : Nat) : ByteArray := if n = N1 then s0 else ByteArray.empty
abbrev stV (slot key tail : Int) (N1 n : Nat) (a : Option Addr) (m c : Nat) : Value := rpV slot key (stAt N1 n) (stTl tail n) (.slice a m c) (.slice none 0 0) 0 (stEn N1 tail n)
theorem actsN_pos (g : Geo) (A : List Record) : 1 ≤ actsN g A := by unfold actsN; omega
def acG (g : Geo) (slot tail : Int) (D : List ByteArray) (N1 n : Nat) : ByteArray := if n < N1 then D.getD (acS g slot tail N1 n).toNat ByteArray.empty else ByteArray.empty
theorem flatS : ∀ D : List ByteArray, D.flatMap encS = D.map Value.string
 | [] => rfl
 | x :: r => by rw [List.flatMap_cons, flatS r]; rfl
def greatD (D : List ByteArray) (Ca : List (Sl Cell)) (kn fn : Nat) : Bool := decide (200 < D.length) || decide (20 < Ca.length) || decide (20 < kn) || decide (200 < fn) || Ca.any (fun x => decide (100 < x.l.length))
theorem great06_c (V : Vw) (a ca ka fa : Option Addr) (n c cn cc kn kc fn fc : Nat) (nx : Int) (D : List ByteArray) (Ca : List (Sl Cell)) (w : World) (hV : V.le (vw w)) (hs0 : SlOf V encS 1 (.slice a n c) D) (hc0 : SlOf V Sl.enc 1 (.slice ca cn cc) Ca) (hcg : ∀ x ∈ Ca, SlOf V Cell.cells 2 x.v x.l) :
  Calls Tryz.prog 6 #[devG a ca ka fa n c cn cc kn kc fn fc nx] w fun e w' => e = .returned (.bool (greatD D Ca kn fn)) ∧ Below w.heap.size w w' := by
 have hs := hs0.mono hV
 have hc := hc0.mono hV
 obtain ⟨a', c', he, _⟩ := sl_cap hs.sl
 cases he
 obtain ⟨a', c', he, _⟩ := sl_cap hc.sl
 cases he
 refine enter (E := E0) (O := []) (nl := 0) (V := vw w) [.a (.v (devG a ca ka fa D.length c Ca.length cc kn kc fn fc nx))] Tryz.func6 rfl rfl (mem0 E0 0 w) rfl rfl ?_
 refine c_seq (c_region ?_)
 refine o_new tok rfl rfl rfl rfl ?_
 refine yO rfl rfl rfl rfl ?_
 refine o_end [1] rfl ?_
 refine x_then (c_seq (c_seq (c_region ?_)))
 iterate 2 refine yO rfl rfl rfl rfl ?_
 refine o_yield rfl rfl rfl (y_lenP tok rfl) ?_
 iterate 4 refine yO rfl rfl rfl rfl ?_
 refine o_yield rfl rfl rfl (y_lenP tok rfl) ?_
 iterate 5 refine yO rfl rfl rfl rfl ?_
 refine o_yield rfl rfl rfl (y_lenP tok rfl) ?_
 iterate 5 refine yO rfl rfl rfl rfl ?_
 refine o_yield rfl rfl rfl (y_lenP tok rfl) ?_
 iterate 2 refine yO rfl rfl rfl rfl ?_
 refine o_end [1, 25] rfl ?_
 refine x_then ?_
 refine c_cond rfl (fun h => ?_) (fun h => ?_)
 ·
  simp only [Xa, Xb, Xc, Xd, Xe, Xf, Xg, Xh, Xi, Xj, Xk, Xl, Xm, Xn, Xo, Xp] at h
  refine c_seq (c_region ?_)
  refine yO rfl rfl rfl rfl ?_
  refine o_end [2] rfl ?_
  refine x_then (c_ret (x_then_ret ?_))
  refine b_ret tok rfl ?_
  intro E w' hm _
  refine ⟨?_, hm.below (Vw.le.refl _)⟩
  have : greatD D Ca kn fn = true := by
   simp only [greatD, Bool.or_eq_true, decide_eq_true_eq]
   omega
  rw [this]
  rfl
 ·
  simp only [Xa, Xb, Xc, Xd, Xe, Xf, Xg, Xh, Xi, Xj, Xk, Xl, Xm, Xn, Xo, Xp] at h
  have hD : D.length ≤ 200 ∧ Ca.length ≤ 20 ∧ kn ≤ 20 ∧ fn ≤ 200 := by omega
  have hg0 : greatD D Ca kn fn = Ca.any (fun x => decide (100 < x.l.length)) := by
   simp only [greatD, decide_eq_false (show ¬ 200 < D.length by omega), decide_eq_false (show ¬ 20 < Ca.length by omega), decide_eq_false (show ¬ 20 < kn by omega), decide_eq_false (show ¬ 200 < fn by omega), Bool.false_or]
  clear h
  refine c_skip (x_then (c_seq (c_seq (c_region ?_))))
  refine yO rfl rfl rfl rfl ?_
  refine o_end [1, 3] rfl ?_
  refine x_then (c_block ?_)
  refine c_loopK [1] [] rfl rfl (σ := Nat) (fun k => [(3, .a (.v (I k)))]) (fun k => []) (fun k => (k ≤ Ca.length ∧ ∀ (j : Nat) x, j < k → Ca[j]? = some x → x.l.length ≤ 100)) (fun k => Ca.length - k) (0) (⟨by omega, fun j x hj => by omega⟩) (by repeat (first | exact fN | refine fC rfl ?_)) (by repeat (first | exact oN | refine oC rfl ?_)) rfl ?_
  rintro k ⟨hk, hkl⟩
  iterate 2 refine c_seq ?_
  refine c_region ?_
  iterate 3 refine yO rfl rfl rfl rfl ?_
  refine o_yield rfl rfl rfl (y_lenP tok rfl) ?_
  refine yO rfl rfl rfl rfl ?_
  refine o_end [1, 3, 30] rfl ?_
  refine x_then ?_
  refine c_cond rfl (fun h => ?_) (fun h => ?_)
  ·
   simp only [Xa, Xb, Xc, Xd, Xe, Xf, Xg, Xh, Xi, Xj, Xk, Xl, Xm, Xn, Xo, Xp] at h
   obtain ⟨x, h_x⟩ : ∃ x, Ca[k]? = some x := ⟨_, List.getElem?_eq_getElem (by omega)⟩
   have hx := (hcg x (List.mem_of_getElem? h_x)).mono hV
   clear h
   refine c_skip (x_then (c_seq (c_block (c_seq (c_region ?_)))))
   iterate 3 refine yO rfl rfl rfl rfl ?_
   have hlt_x := lt_of_at h_x
   refine o_yield rfl rfl rfl (y_idx tok rfl (fun hg => hc.sl) (fun hg => ⟨by omega, by omega⟩)) ?_
   refine o_yield rfl rfl rfl (y_lel tok (k) 0 (x) rfl (fun hg => hc) (fun hg => h_x) rfl rfl) ?_
   refine o_yield rfl rfl rfl (y_len tok rfl (fun hg => hx.sl)) ?_
   refine yO rfl rfl rfl rfl ?_
   refine o_end [1, 3, 39] rfl ?_
   refine x_then ?_
   refine c_cond rfl (fun h => ?_) (fun h => ?_)
   ·
    simp only [Xa, Xb, Xc, Xd, Xe, Xf, Xg, Xh, Xi, Xj, Xk, Xl, Xm, Xn, Xo, Xp] at h
    refine c_seq (c_region ?_)
    refine yO rfl rfl rfl rfl ?_
    refine o_end [2] rfl ?_
    refine x_then (c_ret (x_block_ret (x_then_ret (x_then_ret (x_block_ret ?_)))))
    refine x_then_ret ?_
    refine b_ret tok rfl ?_
    intro E w' hm _
    refine ⟨?_, hm.below (Vw.le.refl _)⟩
    have : greatD D Ca kn fn = true := by
     rw [hg0, List.any_eq_true]
     exact ⟨x, List.mem_of_getElem? h_x, by simp; omega⟩
    rw [this]
    rfl
   ·
    simp only [Xa, Xb, Xc, Xd, Xe, Xf, Xg, Xh, Xi, Xj, Xk, Xl, Xm, Xn, Xo, Xp] at h
    refine c_skip (x_block (x_then (c_region ?_)))
    iterate 3 refine yO rfl rfl rfl rfl ?_
    refine o_end [1, 3] rfl ?_
    refine x_then ?_
    rw [wrapI (n := (k : Int) + 1) (by omega) (by omega)]
    have hkl2 : ∀ (j : Nat) y, j < k + 1 → Ca[j]? = some y → y.l.length ≤ 100 := fun j y hj hy => by
     by_cases hjk : j = k
     · subst hjk; rw [h_x] at hy; cases hy; omega
     · exact hkl j y (by omega) hy
    refine x_round (k + 1) (⟨by omega, hkl2⟩) (by first | omega | (dsimp only; omega)) (by repeat (first | exact fN | refine fC rfl ?_)) (by repeat (first | exact oN | refine oC rfl ?_)) rfl (Vw.le.refl _)
  ·
   simp only [Xa, Xb, Xc, Xd, Xe, Xf, Xg, Xh, Xi, Xj, Xk, Xl, Xm, Xn, Xo, Xp] at h
   refine c_exit (x_then_exit (x_then_exit (x_block_hit (x_then (c_seq ?_)))))
   refine c_region ?_
   refine yO rfl rfl rfl rfl ?_
   refine o_end [2] rfl ?_
   refine x_then (c_ret ?_)
   refine b_ret tok rfl ?_
   intro E w' hm _
   refine ⟨?_, hm.below (Vw.le.refl _)⟩
   have : greatD D Ca kn fn = false := by
    rw [hg0, List.any_eq_false]
    intro x hx
    obtain ⟨j, hj⟩ := List.getElem?_of_mem hx
    have hjl := (List.getElem?_eq_some_iff.1 hj).1
    have := hkl j x (by omega) hj
    simp
    omega
   rw [this]
   rfl
theorem sameS_c (V : Vw) (sv tv : Value) (D : List ByteArray) (w : World) (hV : V.le (vw w)) (hs0 : SlOf V encS 1 sv D) (ht0 : SlOf V encS 1 tv D) (hn : D.length ≤ 100000) :
  Calls Tryz.prog 17 #[sv, tv] w fun e w' => e = .returned (.bool true) ∧ Below w.heap.size w w' := by
 have hs := hs0.mono hV
 have ht := ht0.mono hV
 refine enter (E := E0) (O := []) (nl := 0) (V := vw w) [.a (.v sv), .a (.v tv)] Tryz.func17 rfl rfl (mem0 E0 0 w) rfl rfl ?_
 refine c_seq (c_region ?_)
 refine yO rfl rfl rfl rfl ?_
 refine o_end [0, 1] rfl ?_
 refine x_then (c_seq (c_seq (c_region ?_)))
 refine yO rfl rfl rfl rfl ?_
 refine o_yield rfl rfl rfl (y_len tok rfl (fun hg => hs.sl)) ?_
 refine yO rfl rfl rfl rfl ?_
 refine o_yield rfl rfl rfl (y_len tok rfl (fun hg => ht.sl)) ?_
 refine yO rfl rfl rfl rfl ?_
 refine o_end [0, 1, 10] rfl ?_
 refine x_then ?_
 refine c_cond rfl (fun h => ?_) (fun h => ?_)
 ·
  simp at h
 ·
  refine c_skip (x_then (c_seq (c_seq (c_region ?_))))
  refine yO rfl rfl rfl rfl ?_
  refine o_end [0, 1, 5] rfl ?_
  refine x_then (c_block ?_)
  refine c_loopK [0, 1] [] rfl rfl (σ := Nat) (fun k => [(5, .a (.v (I k)))]) (fun k => []) (fun k => k ≤ D.length) (fun k => D.length - k) (0) (by omega) (by repeat (first | exact fN | refine fC rfl ?_)) (by repeat (first | exact oN | refine oC rfl ?_)) rfl ?_
  rintro k hk
  iterate 2 refine c_seq ?_
  refine c_region ?_
  iterate 2 refine yO rfl rfl rfl rfl ?_
  refine o_yield rfl rfl rfl (y_len tok rfl (fun hg => hs.sl)) ?_
  refine yO rfl rfl rfl rfl ?_
  refine o_end [0, 1, 5, 14] rfl ?_
  refine x_then ?_
  refine c_cond rfl (fun h => ?_) (fun h => ?_)
  ·
   simp only [Xa, Xb, Xc, Xd, Xe, Xf, Xg, Xh, Xi, Xj, Xk, Xl, Xm, Xn, Xo, Xp] at h
   refine c_skip (x_then (c_seq (c_block (c_seq ?_))))
   refine c_draw mixed (by kernel_rfl) ?_
   iterate 2 refine d_yield rfl rfl rfl (yV rfl) rfl ?_
   obtain ⟨x, h_x⟩ : ∃ x, D[k]? = some x := ⟨_, List.getElem?_eq_getElem (by omega)⟩
   have hlt_x := lt_of_at h_x
   refine d_yield rfl rfl rfl (y_idx tok rfl (fun hg => hs.sl) (fun hg => ⟨by omega, by omega⟩)) rfl ?_
   refine d_yield rfl rfl rfl (y_lel tok (k) 0 (x) rfl (fun hg => hs) (fun hg => h_x) rfl rfl) rfl ?_
   iterate 2 refine d_yield rfl rfl rfl (yV rfl) rfl ?_
   have hlt_x := lt_of_at h_x
   refine d_yield rfl rfl rfl (y_idx tok rfl (fun hg => ht.sl) (fun hg => ⟨by omega, by omega⟩)) rfl ?_
   refine d_yield rfl rfl rfl (y_lel tok (k) 0 (x) rfl (fun hg => ht) (fun hg => h_x) rfl rfl) rfl ?_
   refine d_yield rfl rfl rfl (yV rfl) rfl ?_
   refine d_end [0, 1, 5, 25] rfl ?_
   refine x_then ?_
   refine c_cond rfl (fun h => ?_) (fun h => ?_)
   ·
    simp at h
   ·
    refine c_skip (x_block (x_then (c_region ?_)))
    iterate 3 refine yO rfl rfl rfl rfl ?_
    refine o_end [0, 1, 5] rfl ?_
    refine x_then ?_
    rw [wrapI (n := (k : Int) + 1) (by omega) (by omega)]
    refine x_round (k + 1) (by omega) (by first | omega | (dsimp only; omega)) (by repeat (first | exact fN | refine fC rfl ?_)) (by repeat (first | exact oN | refine oC rfl ?_)) rfl (Vw.le.refl _)
  ·
   simp only [Xa, Xb, Xc, Xd, Xe, Xf, Xg, Xh, Xi, Xj, Xk, Xl, Xm, Xn, Xo, Xp] at h
   refine c_exit (x_then_exit (x_then_exit (x_block_hit (x_then (c_seq ?_)))))
   refine c_region ?_
   refine yO rfl rfl rfl rfl ?_
   refine o_end [4] rfl ?_
   refine x_then (c_ret ?_)
   refine b_ret tok rfl ?_
   intro E w' hm _
   refine ⟨?_, hm.below (Vw.le.refl _)⟩
   rfl
def begP (g : Geo) (slot key : Int) : Bool := decide (0 ≤ headV g slot) && keyB key && decide (0 ≤ seatOf key)
theorem gjournal_cV (V : Vw) (g : Geo) (ok : g.Ok) (slot key tail : Int) (D : List ByteArray) (A : List Record) (hJ : RowsOf g slot key tail D A) (hd : ∃ s, D[(headV g slot).toNat]? = some s ∧ tailV s = tail ∧ tailE s = 0) (a ca ka fa : Option Addr) (n c cn cc kn kc fn fc : Nat) (nx : Int) (w : World) (hV : V.le (vw w)) (hs0 : SlOf V encS 1 (.slice a n c) D) :
  Calls Tryz.prog 9 #[g.val, devG a ca ka fa n c cn cc kn kc fn fc nx, I slot, I key] w fun e w' => ∃ x V', e = .returned x ∧ Below w.heap.size w w' ∧ Vext w.heap.size V V' w' ∧ ∃ a n c, x = .tuple #[.slice a n c, I tail, I 0] ∧ SlOf V' Record.cells 6 (.slice a n c) (A.take (whole A)) := by
 refine (gjournal_c V g ok slot key tail D A hJ hd a ca ka fa n c cn cc kn kc fn fc nx w hV hs0).mono ?_
 rintro e w' ⟨⟨v, rfl, hrow⟩, hb⟩
 obtain ⟨V', hx, hsl⟩ := ownsRow_vext hV hb hrow
 obtain ⟨a, n, c, rfl⟩ := sl_shape hsl
 exact ⟨_, V', rfl, hb, hx, a, n, c, rfl, hsl, fun _ => rfl⟩
theorem tail_some {s : ByteArray} (h : tailE s = 0) : tailOk s = some (tailV s) := by
 rw [tailE] at h
 rw [tailV]
 cases hq : tailOk s with
 | none => rw [hq] at h; simp at h
 | some n => rfl
theorem blk_ones (l : List Block) : ∀ u ∈ l.flatMap Block.cells, u.oneCell' = true := by
 intro u hu
 obtain ⟨x, _, hx⟩ := List.mem_flatMap.1 hu
 simp only [Block.cells, List.mem_cons, List.not_mem_nil, or_false] at hx
 rcases hx with rfl | rfl <;> rfl
def oneL (th : Bool) (x : Block) : List Block → List Block
 | [] => [x]
 | b :: r => if th = true ∧ b.n = x.n then x :: r else if th = false ∧ x.n < b.n then x :: b :: r else b :: oneL th x r
def insS (l : List Block) (x : Block) : List Block := oneL (getB l x.n).2 x l
def RowB (L : List Block) (w : World) (e : Ending) (w' : World) : Prop :=
 (∃ v, e = .returned v ∧ w'.ownsRow w.heap.size 72 2 v L.length (L.flatMap Block.cells)) ∧ Below w.heap.size w w'
theorem app_row (O : List Block) (x : Block) : O.length + 1 = (O ++ [x]).length ∧ O.flatMap Block.cells ++ x.cells = (O ++ [x]).flatMap Block.cells := by simp
def insAll (l more : List Block) : List Block := more.foldl insS l
theorem take_succ_at' {α : Type} {l : List α} {i : Nat} {x : α} (h : l[i]? = some x) : l.take (i + 1) = l.take i ++ [x] := by
 rw [List.take_add_one, h]; rfl
def RowBV (L : List Block) (x : Value) (V' : Vw) : Prop := ∃ a n c, x = .slice a n c ∧ SlOf V' Block.cells 2 (.slice a n c) L
theorem rowB_V {V : Vw} {f : Nat} {L : List Block} {args : Array Value} {w : World} (hV : V.le (vw w)) (h : Calls Tryz.prog f args w (RowB L w)) :
  Calls Tryz.prog f args w fun e w' => ∃ x V', e = .returned x ∧ Below w.heap.size w w' ∧ Vext w.heap.size V V' w' ∧ RowBV L x V' := by
 refine h.mono ?_
 rintro e w' ⟨⟨v, rfl, hown⟩, hb⟩
 obtain ⟨V', hx, hsl⟩ := ownsRow_vext hV hb hown
 obtain ⟨a, n, c, rfl⟩ := sl_shape hsl
 exact ⟨_, V', rfl, hb, hx, a, n, c, rfl, hsl, fun _ => rfl⟩
/-! Rows that rise, written as what stands at each number. -/
def mkF (f : Int → Option ByteArray) (a : Int) : Nat → List Block
 | 0 => []
 | k + 1 => (match f a with | some t => [⟨a, t⟩] | none => []) ++ mkF f (a + 1) k
def updF (f : Int → Option ByteArray) (x : Block) (n : Int) : Option ByteArray := if n = x.n then some x.text else f n
theorem mkF_len (f : Int → Option ByteArray) : ∀ (k : Nat) (a : Int), (mkF f a k).length ≤ k
 | 0, _ => by simp [mkF]
 | k + 1, a => by
  have := mkF_len f k (a + 1)
  rw [mkF]
  cases f a <;> simp <;> omega
theorem mkF_none (k : Nat) (a : Int) : mkF (fun _ => none) a k = [] := by
 induction k generalizing a with
 | zero => rfl
 | succ k ih => rw [mkF, ih]; rfl
theorem mkF_snoc (f : Int → Option ByteArray) : ∀ (k : Nat) (a : Int), mkF f a (k + 1) = mkF f a k ++ (match f (a + k) with | some t => [⟨a + k, t⟩] | none => [])
 | 0, a => by simp [mkF]
 | k + 1, a => by
  rw [mkF, mkF_snoc f k (a + 1), mkF, List.append_assoc]
  rw [show a + 1 + (k : Int) = a + ((k + 1 : Nat) : Int) by omega]
/-! A block's text out of a transaction's data. -/
def isPc (n k : Int) (r : Record) : Bool := r.count == 0 && (r.block == n && r.k == k)
def pieceF (l : List Record) (n k : Int) : ByteArray := l.foldl (fun p r => if isPc n k r = true then r.text else p) ByteArray.empty
def someF (l : List Record) (n k : Int) : Bool := l.any (isPc n k)
def textTo (l : List Record) (n : Int) : Nat → ByteArray × Bool
 | 0 => (ByteArray.empty, false)
 | k + 1 => ((textTo l n k).1 ++ pieceF l n k, (textTo l n k).2 || someF l n k)
theorem pieceF_snoc (l : List Record) (r : Record) (n k : Int) : pieceF (l ++ [r]) n k = if isPc n k r = true then r.text else pieceF l n k := by simp [pieceF]
theorem someF_snoc (l : List Record) (r : Record) (n k : Int) : someF (l ++ [r]) n k = (someF l n k || isPc n k r) := by simp [someF]
theorem pieceF_size {l : List Record} (h : ∀ r ∈ l, r.text.size ≤ 256) (n k : Int) : (pieceF l n k).size ≤ 256 := by
 have key : ∀ (l : List Record) (p : ByteArray), (∀ r ∈ l, r.text.size ≤ 256) → p.size ≤ 256 → (l.foldl (fun p r => if isPc n k r = true then r.text else p) p).size ≤ 256 := by
  intro l
  induction l with
  | nil => intro p _ hp; exact hp
  | cons r t ih =>
   intro p h hp
   rw [List.foldl_cons]
   refine ih _ (fun x hx => h x (by simp [hx])) ?_
   split
   · exact h r (by simp)
   · exact hp
 exact key l _ h (by simp)
theorem textTo_size {l : List Record} (h : ∀ r ∈ l, r.text.size ≤ 256) (n : Int) : ∀ k, (textTo l n k).1.size ≤ 256 * k
 | 0 => by simp [textTo]
 | k + 1 => by
  have h1 := textTo_size h n k
  have h2 := pieceF_size h n k
  rw [textTo, ByteArray.size_append]; omega
theorem rtext_c (V : Vw) (sv : Value) (l : List Record) (n : Int) (w : World) (hV : V.le (vw w)) (hs0 : SlOf V Record.cells 6 sv l) (hn : l.length ≤ 1000000) (hz : ∀ r ∈ l, r.text.size ≤ 256) :
  Calls Tryz.prog 34 #[sv, I n] w fun e w' => e = .returned (.tuple #[S (textTo l n 8).1, .bool (textTo l n 8).2]) ∧ Below w.heap.size w w' := by
 have hs := hs0.mono hV
 refine enter (E := E0) (O := []) (nl := 0) (V := vw w) [.a (.v sv), .a (.v (I n))] Tryz.func34 rfl rfl (mem0 E0 0 w) rfl rfl ?_
 refine c_seq (c_region ?_)
 iterate 2 refine yO rfl rfl rfl rfl ?_
 refine o_end [0, 1] rfl ?_
 refine x_then (c_seq (c_region ?_))
 iterate 2 refine yO rfl rfl rfl rfl ?_
 refine o_end [0, 1, 6, 7] rfl ?_
 refine x_then (c_seq (c_seq (c_region ?_)))
 refine yO rfl rfl rfl rfl ?_
 refine o_end [0, 1, 6, 7, 8] rfl ?_
 refine x_then (c_block ?_)
 refine c_loopK [0, 1] [] rfl rfl (σ := Nat) (fun k => [(6, .a (.v (S (textTo l n k).1))), (7, .a (.v (.bool (textTo l n k).2))), (8, .a (.v (I k)))]) (fun k => []) (fun k => k ≤ 8) (fun k => 8 - k) (0) (by omega) (by repeat (first | exact fN | refine fC rfl ?_)) (by repeat (first | exact oN | refine oC rfl ?_)) rfl ?_
 rintro k hk
 iterate 2 refine c_seq ?_
 refine c_region ?_
 iterate 2 refine yO rfl rfl rfl rfl ?_
 refine o_end [0, 1, 6, 7, 8, 12] rfl ?_
 refine x_then ?_
 refine c_cond rfl (fun h => ?_) (fun h => ?_)
 ·
  simp only [Xa, Xb, Xc, Xd, Xe, Xf, Xg, Xh, Xi, Xj, Xk, Xl, Xm, Xn, Xo, Xp] at h
  refine c_skip (x_then (c_seq (c_block (c_seq (c_region ?_)))))
  refine yO rfl rfl rfl rfl ?_
  refine o_end [0, 1, 6, 7, 8, 9] rfl ?_
  refine x_then (c_seq (c_seq (c_region ?_)))
  refine yO rfl rfl rfl rfl ?_
  refine o_end [0, 1, 6, 7, 8, 9, 10] rfl ?_
  refine x_then (c_block ?_)
  have hts := textTo_size hz n k
  have hwk : IntKind.i64.wrap ((k : Int) + 1) = ((k + 1 : Nat) : Int) := wrapI (by omega) (by omega)
  have es : ((textTo l n k).2 || someF (l.take 0) n k) = (textTo l n k).2 := by simp [someF]
  refine c_loopK [0, 1, 6, 8] [] rfl rfl (σ := Nat × ByteArray × Bool) (fun (i, p, s) => [(7, .a (.v (.bool s))), (9, .a (.v (S p))), (10, .a (.v (I i)))]) (fun (i, p, s) => []) (fun (i, p, s) => i ≤ l.length ∧ p = pieceF (l.take i) n k ∧ s = ((textTo l n k).2 || someF (l.take i) n k)) (fun (i, p, s) => l.length - i) ((0, ByteArray.empty, (textTo l n k).2)) (⟨by omega, rfl, es.symm⟩) (by repeat (first | exact SubF.nil | refine SubF.cons rfl ?_ | refine SubF.cons (by simp only [es]; first | done | rfl) ?_)) (by repeat (first | exact SubO.nil | refine SubO.cons rfl ?_ | refine SubO.cons (by simp only [es]; first | done | rfl) ?_)) rfl ?_
  rintro ⟨i, p, s⟩ ⟨hi, hp, hsm⟩
  dsimp only at hi hp hsm ⊢
  iterate 2 refine c_seq ?_
  refine c_region ?_
  iterate 2 refine yO rfl rfl rfl rfl ?_
  refine o_yield rfl rfl rfl (y_len tok rfl (fun hg => hs.sl)) ?_
  refine yO rfl rfl rfl rfl ?_
  refine o_end [0, 1, 6, 7, 8, 9, 10, 18] rfl ?_
  refine x_then ?_
  refine c_cond rfl (fun h => ?_) (fun h => ?_)
  ·
   simp only [Xa, Xb, Xc, Xd, Xe, Xf, Xg, Xh, Xi, Xj, Xk, Xl, Xm, Xn, Xo, Xp] at h
   refine c_skip (x_then (c_seq (c_block (c_seq (c_region ?_)))))
   iterate 2 refine yO rfl rfl rfl rfl ?_
   obtain ⟨r, h_r⟩ := hs.at (k := i) (by omega)
   have hwi : IntKind.i64.wrap ((i : Int) + 1) = ((i + 1 : Nat) : Int) := wrapI (by omega) (by omega)
   have e1 := pieceF_snoc (l.take i) r n k
   have e2 := someF_snoc (l.take i) r n k
   rw [← take_succ_at' h_r] at e1 e2
   have hlt_r := lt_of_at h_r
   refine o_yield rfl rfl rfl (y_idx tok rfl (fun hg => hs.sl) (fun hg => ⟨by omega, by omega⟩)) ?_
   refine o_yield rfl rfl rfl (y_fel tok rfl (fun hg => hs.sl) (fun hg => by omega)) ?_
   refine o_yield rfl rfl rfl (y_lel tok (i) 5 (r) rfl (fun hg => hs) (fun hg => h_r) rfl rfl) ?_
   iterate 4 refine yO rfl rfl rfl rfl ?_
   have hlt_r := lt_of_at h_r
   refine o_yield rfl rfl rfl (y_idx tok rfl (fun hg => hs.sl) (fun hg => ⟨by omega, by omega⟩)) ?_
   refine o_yield rfl rfl rfl (y_fel tok rfl (fun hg => hs.sl) (fun hg => by omega)) ?_
   refine o_yield rfl rfl rfl (y_lel tok (i) 2 (r) rfl (fun hg => hs) (fun hg => h_r) rfl rfl) ?_
   iterate 6 refine yO rfl rfl rfl rfl ?_
   have hlt_r := lt_of_at h_r
   refine o_yield rfl rfl rfl (y_idx tok rfl (fun hg => hs.sl) (fun hg => ⟨by omega, by omega⟩)) ?_
   refine o_yield rfl rfl rfl (y_fel tok rfl (fun hg => hs.sl) (fun hg => by omega)) ?_
   refine o_yield rfl rfl rfl (y_lel tok (i) 3 (r) rfl (fun hg => hs) (fun hg => h_r) rfl rfl) ?_
   iterate 3 refine yO rfl rfl rfl rfl ?_
   refine o_end [0, 1, 6, 7, 8, 9, 10, 44] rfl ?_
   refine x_then ?_
   refine c_cond rfl (fun h => ?_) (fun h => ?_)
   ·
    simp only [Xa, Xb, Xc, Xd, Xe, Xf, Xg, Xh, Xi, Xj, Xk, Xl, Xm, Xn, Xo, Xp] at h
    refine c_seq (c_region ?_)
    iterate 2 refine yO rfl rfl rfl rfl ?_
    have hpc : isPc n k r = true := by simp only [isPc, Bool.and_eq_true, beq_iff_eq]; exact ⟨h.1.1, h.1.2, h.2⟩
    have hlt_r := lt_of_at h_r
    refine o_yield rfl rfl rfl (y_idx tok rfl (fun hg => hs.sl) (fun hg => ⟨by omega, by omega⟩)) ?_
    refine o_yield rfl rfl rfl (y_fel tok rfl (fun hg => hs.sl) (fun hg => by omega)) ?_
    refine o_yield rfl rfl rfl (y_lel tok (i) 4 (r) rfl (fun hg => hs) (fun hg => h_r) rfl rfl) ?_
    refine yO rfl rfl rfl rfl ?_
    refine o_end [0, 1, 6, 8, 9, 10] rfl ?_
    refine x_then (c_region ?_)
    refine yO rfl rfl rfl rfl ?_
    refine o_end [0, 1, 6, 7, 8, 9, 10] rfl ?_
    refine x_block (x_then (c_region ?_))
    iterate 3 refine yO rfl rfl rfl rfl ?_
    refine o_end [0, 1, 6, 7, 8, 9, 10] rfl ?_
    refine x_then ?_
    rw [hwi]
    refine x_round ((i + 1, r.text, true)) (⟨by dsimp only; omega, by dsimp only; rw [e1, if_pos hpc], by dsimp only; rw [e2, hpc]; simp⟩) (by first | omega | (dsimp only; omega)) (by repeat (first | exact fN | refine fC rfl ?_)) (by repeat (first | exact oN | refine oC rfl ?_)) rfl (Vw.le.refl _)
   ·
    simp only [Xa, Xb, Xc, Xd, Xe, Xf, Xg, Xh, Xi, Xj, Xk, Xl, Xm, Xn, Xo, Xp] at h
    refine c_skip (x_block (x_then (c_region ?_)))
    iterate 3 refine yO rfl rfl rfl rfl ?_
    refine o_end [0, 1, 6, 7, 8, 9, 10] rfl ?_
    refine x_then ?_
    have hpc : isPc n k r = false := by
     rw [Bool.eq_false_iff]
     intro hc
     simp only [isPc, Bool.and_eq_true, beq_iff_eq] at hc
     simp [hc.1, hc.2.1, hc.2.2] at h
    rw [hwi]
    refine x_round ((i + 1, p, s)) (⟨by dsimp only; omega, by dsimp only; rw [e1, hpc, hp]; simp, by dsimp only; rw [e2, hpc, hsm]; simp⟩) (by first | omega | (dsimp only; omega)) (by repeat (first | exact fN | refine fC rfl ?_)) (by repeat (first | exact oN | refine oC rfl ?_)) rfl (Vw.le.refl _)
  ·
   simp only [Xa, Xb, Xc, Xd, Xe, Xf, Xg, Xh, Xi, Xj, Xk, Xl, Xm, Xn, Xo, Xp] at h
   have hil : i = l.length := by omega
   subst hil
   rw [List.take_length] at hp hsm
   subst hp hsm
   have hps := pieceF_size hz n k
   clear h
   refine c_exit (x_then_exit (x_then_exit (x_block_hit (x_then (c_region ?_)))))
   iterate 2 refine yO rfl rfl rfl rfl ?_
   refine o_yield rfl rfl rfl (y_cat rfl (fun hg => by omega)) ?_
   refine yO rfl rfl rfl rfl ?_
   refine o_end [0, 1, 6, 7, 8] rfl ?_
   refine x_block (x_then (c_region ?_))
   iterate 3 refine yO rfl rfl rfl rfl ?_
   refine o_end [0, 1, 6, 7, 8] rfl ?_
   refine x_then ?_
   rw [hwk]
   refine x_round (k + 1) (by omega) (by first | omega | (dsimp only; omega)) (by repeat (first | exact fN | refine fC rfl ?_)) (by repeat (first | exact oN | refine oC rfl ?_)) rfl (Vw.le.refl _)
 ·
  simp only [Xa, Xb, Xc, Xd, Xe, Xf, Xg, Xh, Xi, Xj, Xk, Xl, Xm, Xn, Xo, Xp] at h
  refine c_exit (x_then_exit (x_then_exit (x_block_hit (x_then (c_seq ?_)))))
  refine c_region ?_
  iterate 4 refine yO rfl rfl rfl rfl ?_
  refine o_end [4, 5] rfl ?_
  refine x_then (c_ret ?_)
  refine b_ret tok rfl ?_
  have hk8 : k = 8 := by omega
  subst hk8
  intro E w' hm _
  refine ⟨?_, hm.below (Vw.le.refl _)⟩
  rfl
/-! The last transaction's text of a block. -/
def lastG (n : Int) : List Record → List Record → Option ByteArray → Option ByteArray
 | [], _, acc => acc
 | r :: t, cur, acc => if r.count = 0 then lastG n t (cur ++ [r]) acc else lastG n t [] (if (textTo cur n 8).2 = true then some (textTo cur n 8).1 else acc)
def scanB (L : List Record) : List Block := mkF (fun n => lastG n L [] none) 0 64
theorem cut_snoc {l : List Record} {f i : Nat} {r : Record} (hf : f ≤ i) (h : l[i]? = some r) : (l.drop f).take (i + 1 - f) = (l.drop f).take (i - f) ++ [r] := by
 rw [show i + 1 - f = i - f + 1 by omega]
 refine take_succ_at' ?_
 rw [List.getElem?_drop, show f + (i - f) = i by omega, h]
theorem rblocks_c (V : Vw) (sv : Value) (l0 : List Record) (w : World) (hV : V.le (vw w)) (hs0 : SlOf V Record.cells 6 sv l0) (hn0 : l0.length ≤ 1000000) (hz0 : ∀ r ∈ l0, r.text.size ≤ 256) :
  Calls Tryz.prog 10 #[sv] w (RowB (scanB (l0.take (whole l0))) w) := by
 have hs00 := hs0.mono hV
 refine enter (E := E0) (O := []) (nl := 0) (V := vw w) [.a (.v sv)] Tryz.func10 rfl rfl (mem0 E0 0 w) rfl rfl ?_
 refine c_seq (c_region ?_)
 refine yO rfl rfl rfl rfl ?_
 refine o_end [0] rfl ?_
 refine x_then (c_seq (c_region ?_))
 refine yO rfl rfl rfl rfl ?_
 refine o_callV (RowRV (l0.take (whole l0))) rfl rfl fnok32 rfl rfl (fun hg E w1 hm => by exact rowR_V hm.leV (rWhole17_c (vw w) _ l0 _ hm.leV hs00 hn0)) ?_
 rintro x V1 hle1 hx
 obtain ⟨a, m, c, rfl, hs⟩ := hx rfl
 clear hx
 have hz : ∀ r ∈ l0.take (whole l0), r.text.size ≤ 256 := fun r hr => hz0 r (List.mem_of_mem_take hr)
 have hn : (l0.take (whole l0)).length ≤ 1000000 := by rw [List.length_take]; omega
 generalize l0.take (whole l0) = l at *
 refine yO rfl rfl rfl rfl ?_
 refine o_end [0] rfl ?_
 refine x_then (c_seq (c_region ?_))
 refine yO rfl rfl rfl rfl ?_
 refine o_end [0, 3] rfl ?_
 refine x_then (c_seq (c_seq (c_region ?_)))
 refine yO rfl rfl rfl rfl ?_
 refine o_end [0, 3, 4] rfl ?_
 refine x_then (c_block ?_)
 refine k_nil 3 72 2 rfl rfl ?_
 generalize hF : (fun n => lastG n l [] none) = f
 have e0 : mkF f 0 0 = [] := rfl
 refine c_loopK [0] [0] rfl rfl (σ := Nat) (fun n => [(3, .a (.row 0)), (4, .a (.v (I n)))]) (fun n => [(0, .row 72 2 (mkF f 0 n).length ((mkF f 0 n).flatMap Block.cells))]) (fun n => n ≤ 64) (fun n => 64 - n) (0) (by omega) (by repeat (first | exact SubF.nil | refine SubF.cons rfl ?_ | refine SubF.cons (by simp only [e0]; first | done | rfl) ?_)) (by repeat (first | exact SubO.nil | refine SubO.cons rfl ?_ | refine SubO.cons (by simp only [e0]; first | done | rfl) ?_)) rfl ?_
 rintro n hn64
 have hml := mkF_len f n 0
 iterate 2 refine c_seq ?_
 refine c_region ?_
 iterate 2 refine yO rfl rfl rfl rfl ?_
 refine o_end [0, 3, 4, 14] rfl ?_
 refine x_then ?_
 refine c_cond rfl (fun h => ?_) (fun h => ?_)
 ·
  simp only [Xa, Xb, Xc, Xd, Xe, Xf, Xg, Xh, Xi, Xj, Xk, Xl, Xm, Xn, Xo, Xp] at h
  refine c_skip (x_then (c_seq (c_block (c_seq (c_region ?_)))))
  iterate 2 refine yO rfl rfl rfl rfl ?_
  refine o_new tok rfl rfl rfl rfl ?_
  refine o_store tok rfl rfl rfl (by first | (repeat' first | exact trivial | exact rfl | apply And.intro); done | simp [onesP, oneP, lk, Value.oneCell']) ?_
  refine o_end [0, 3, 4, 5] rfl ?_
  refine x_then (c_seq (c_region ?_))
  refine yO rfl rfl rfl rfl ?_
  refine o_end [0, 3, 4, 5, 6] rfl ?_
  refine x_then (c_seq (c_region ?_))
  refine yO rfl rfl rfl rfl ?_
  refine o_end [0, 3, 4, 5, 6, 7] rfl ?_
  refine x_then (c_seq (c_seq (c_region ?_)))
  refine yO rfl rfl rfl rfl ?_
  refine o_end [0, 3, 4, 5, 6, 7, 8] rfl ?_
  refine x_then (c_block ?_)
  have hwn : IntKind.i64.wrap ((n : Int) + 1) = ((n + 1 : Nat) : Int) := wrapI (by omega) (by omega)
  have hfn : f n = lastG n l [] none := by rw [← hF]
  have hsn := mkF_snoc f n 0
  rw [Int.zero_add] at hsn
  refine c_loopK [0, 3, 4, 5] [1] rfl rfl (σ := Nat × Nat × Option ByteArray) (fun (i, q, acc) => [(6, .a (.v (.bool acc.isSome))), (7, .a (.v (I q))), (8, .a (.v (I i)))]) (fun (i, q, acc) => [(1, .lit [.v (I n), .v (S (acc.getD ByteArray.empty))] 72)]) (fun (i, q, acc) => i ≤ l.length ∧ q ≤ i ∧ lastG n (l.drop i) ((l.drop q).take (i - q)) acc = f n) (fun (i, q, acc) => l.length - i) ((0, 0, none)) (⟨by omega, by omega, by rw [hfn]; rfl⟩) (by repeat (first | exact fN | refine fC rfl ?_)) (by repeat (first | exact oN | refine oC rfl ?_)) rfl ?_
  rintro ⟨i, q, acc⟩ ⟨hi, hq, hinv⟩
  dsimp only at hi hq hinv ⊢
  iterate 2 refine c_seq ?_
  refine c_region ?_
  iterate 2 refine yO rfl rfl rfl rfl ?_
  refine o_yield rfl rfl rfl (y_len tok rfl (fun hg => hs.sl)) ?_
  refine yO rfl rfl rfl rfl ?_
  refine o_end [0, 3, 4, 5, 6, 7, 8, 22] rfl ?_
  refine x_then ?_
  refine c_cond rfl (fun h => ?_) (fun h => ?_)
  ·
   simp only [Xa, Xb, Xc, Xd, Xe, Xf, Xg, Xh, Xi, Xj, Xk, Xl, Xm, Xn, Xo, Xp] at h
   refine c_skip (x_then (c_seq (c_block (c_seq (c_seq ?_)))))
   refine c_region ?_
   iterate 2 refine yO rfl rfl rfl rfl ?_
   obtain ⟨r, h_r⟩ := hs.at (k := i) (by omega)
   have hwi : IntKind.i64.wrap ((i : Int) + 1) = ((i + 1 : Nat) : Int) := wrapI (by omega) (by omega)
   rw [drop_at h_r, lastG] at hinv
   have hlt_r := lt_of_at h_r
   refine o_yield rfl rfl rfl (y_idx tok rfl (fun hg => hs.sl) (fun hg => ⟨by omega, by omega⟩)) ?_
   refine o_yield rfl rfl rfl (y_fel tok rfl (fun hg => hs.sl) (fun hg => by omega)) ?_
   refine o_yield rfl rfl rfl (y_lel tok (i) 5 (r) rfl (fun hg => hs) (fun hg => h_r) rfl rfl) ?_
   refine yO rfl rfl rfl rfl ?_
   refine o_end [0, 3, 4, 5, 6, 7, 8, 30] rfl ?_
   refine x_then ?_
   refine c_cond rfl (fun h => ?_) (fun h => ?_)
   ·
    simp only [Xa, Xb, Xc, Xd, Xe, Xf, Xg, Xh, Xi, Xj, Xk, Xl, Xm, Xn, Xo, Xp] at h
    refine c_exit (x_then_exit (x_block_hit (x_then (c_region ?_))))
    iterate 3 refine yO rfl rfl rfl rfl ?_
    refine o_end [0, 3, 4, 5, 6, 7, 8] rfl ?_
    refine x_then ?_
    rw [if_pos h, ← cut_snoc hq h_r] at hinv
    rw [hwi]
    refine x_round ((i + 1, q, acc)) (⟨by dsimp only; omega, by dsimp only; omega, hinv⟩) (by first | omega | (dsimp only; omega)) (by repeat (first | exact fN | refine fC rfl ?_)) (by repeat (first | exact oN | refine oC rfl ?_)) rfl (Vw.le.refl _)
   ·
    simp only [Xa, Xb, Xc, Xd, Xe, Xf, Xg, Xh, Xi, Xj, Xk, Xl, Xm, Xn, Xo, Xp] at h
    rw [if_neg h] at hinv
    clear h
    have hcut := hs.cut (lo := q) (hi := i) hq (by omega)
    refine c_skip (x_then (c_seq (c_region ?_)))
    iterate 3 refine yO rfl rfl rfl rfl ?_
    refine o_yield rfl rfl rfl (y_sl tok rfl (fun hg => hs.sl) (fun hg => by dsimp only [Option.getD]; omega)) ?_
    refine yO rfl rfl rfl rfl ?_
    rw [show ((some (q : Int)).getD 0).toNat = q from rfl, show ((some (i : Int)).getD (l.length : Int)).toNat = i from rfl]
    refine o_call (.a (.v _)) rfl rfl fnok34 rfl rfl rfl (fun hg E w1 hm => by exact rtext_c V1 _ ((l.drop q).take (i - q)) n _ hm.leV hcut (by rw [List.length_take, List.length_drop]; omega) (fun r hr => hz r (List.mem_of_mem_drop (List.mem_of_mem_take hr)))) ?_
    iterate 5 refine yO rfl rfl rfl rfl ?_
    refine o_end [0, 3, 4, 5, 6, 8, 9, 10] rfl ?_
    refine x_then (c_seq (c_seq (c_region ?_)))
    refine yO rfl rfl rfl rfl ?_
    refine o_end [0, 3, 4, 5, 6, 8, 9, 40] rfl ?_
    refine x_then ?_
    refine c_cond rfl (fun h => ?_) (fun h => ?_)
    generalize textTo ((l.drop q).take (i - q)) n 8 = tx at *
    ·
     refine c_seq (c_region ?_)
     iterate 2 refine yO rfl rfl rfl rfl ?_
     refine o_store tok rfl rfl rfl (by first | (repeat' first | exact trivial | exact rfl | apply And.intro); done | simp [onesP, oneP, lk, Value.oneCell']) ?_
     refine o_end [0, 3, 4, 5, 8] rfl ?_
     refine x_then (c_region ?_)
     refine yO rfl rfl rfl rfl ?_
     refine o_end [0, 3, 4, 5, 6, 8] rfl ?_
     refine x_then (c_region ?_)
     iterate 3 refine yO rfl rfl rfl rfl ?_
     refine o_end [0, 3, 4, 5, 6, 7, 8] rfl ?_
     refine x_block (x_then (c_region ?_))
     iterate 3 refine yO rfl rfl rfl rfl ?_
     refine o_end [0, 3, 4, 5, 6, 7, 8] rfl ?_
     refine x_then ?_
     rw [if_pos h] at hinv
     rw [hwi]
     refine x_round ((i + 1, i + 1, some tx.1)) (⟨by dsimp only; omega, by dsimp only; omega, by dsimp only; rw [Nat.sub_self, List.take_zero]; exact hinv⟩) (by first | omega | (dsimp only; omega)) (by repeat (first | exact fN | refine fC rfl ?_)) (by repeat (first | exact oN | refine oC rfl ?_)) rfl (Vw.le.refl _)
    ·
     refine c_skip (x_then (c_region ?_))
     iterate 3 refine yO rfl rfl rfl rfl ?_
     refine o_end [0, 3, 4, 5, 6, 7, 8] rfl ?_
     refine x_block (x_then (c_region ?_))
     iterate 3 refine yO rfl rfl rfl rfl ?_
     refine o_end [0, 3, 4, 5, 6, 7, 8] rfl ?_
     refine x_then ?_
     rw [if_neg (by simp [h])] at hinv
     rw [hwi]
     refine x_round ((i + 1, i + 1, acc)) (⟨by dsimp only; omega, by dsimp only; omega, by dsimp only; rw [Nat.sub_self, List.take_zero]; exact hinv⟩) (by first | omega | (dsimp only; omega)) (by repeat (first | exact fN | refine fC rfl ?_)) (by repeat (first | exact oN | refine oC rfl ?_)) rfl (Vw.le.refl _)
  ·
   simp only [Xa, Xb, Xc, Xd, Xe, Xf, Xg, Xh, Xi, Xj, Xk, Xl, Xm, Xn, Xo, Xp] at h
   have hil : i = l.length := by omega
   subst hil
   rw [List.drop_length, lastG] at hinv
   clear h
   rw [← hinv] at hsn
   refine c_exit (x_then_exit (x_then_exit (x_block_hit (x_then (c_seq ?_)))))
   refine c_region ?_
   refine yO rfl rfl rfl rfl ?_
   refine o_end [0, 3, 4, 5, 45] rfl ?_
   refine x_then ?_
   refine c_cond rfl (fun h => ?_) (fun h => ?_)
   ·
    refine c_region ?_
    iterate 2 refine yO rfl rfl rfl rfl ?_
    obtain ⟨t, rfl⟩ := Option.isSome_iff_exists.1 h
    clear h
    dsimp only [Option.getD] at hsn ⊢
    have hx := app_row (mkF f 0 n) ⟨n, t⟩
    rw [← hsn] at hx
    refine o_step rfl rfl rfl rfl rfl (s_bs tok 2 rfl rfl rfl) (fun _ _ => ?_)
    refine o_step rfl rfl rfl rfl rfl (s_app tok (Block.cells ⟨n, t⟩) rfl (fun E w hm => ownsRow_src (hm.row _ _ _ _ _ rfl)) (fun _ _ _ => by simpa using blk_ones [⟨n, t⟩]) (by dsimp only; omega)) (fun _ _ => ?_)
    refine yO rfl rfl rfl rfl ?_
    refine o_end [0, 3, 4] rfl ?_
    refine x_block (x_then (c_region ?_))
    iterate 3 refine yO rfl rfl rfl rfl ?_
    refine o_end [0, 3, 4] rfl ?_
    refine x_then ?_
    rw [hx.1, hx.2, hwn]
    refine k_swap 0 3 rfl ?_
    refine x_round (n + 1) (by omega) (by first | omega | (dsimp only; omega)) (by repeat (first | exact fN | refine fC rfl ?_)) (by repeat (first | exact oN | refine oC rfl ?_)) rfl (Vw.le.refl _)
   ·
    refine c_skip (x_block (x_then (c_region ?_)))
    iterate 3 refine yO rfl rfl rfl rfl ?_
    refine o_end [0, 3, 4] rfl ?_
    refine x_then ?_
    have hnone : acc = none := by simpa using h
    subst hnone
    rw [List.append_nil] at hsn
    rw [hwn, ← hsn]
    refine x_round (n + 1) (by omega) (by first | omega | (dsimp only; omega)) (by repeat (first | exact fN | refine fC rfl ?_)) (by repeat (first | exact oN | refine oC rfl ?_)) rfl (Vw.le.refl _)
 ·
  simp only [Xa, Xb, Xc, Xd, Xe, Xf, Xg, Xh, Xi, Xj, Xk, Xl, Xm, Xn, Xo, Xp] at h
  refine c_exit (x_then_exit (x_then_exit (x_block_hit (x_then (c_seq ?_)))))
  refine c_region ?_
  iterate 2 refine yO rfl rfl rfl rfl ?_
  refine o_end [2] rfl ?_
  refine x_then (c_ret ?_)
  refine b_ret tok rfl ?_
  have h64 : n = 64 := by omega
  subst h64
  have hsc : mkF f 0 64 = scanB l := by rw [← hF]; rfl
  rw [hsc]
  intro E w' hm _
  exact ⟨⟨E.κ 0, rfl, hm.rowFresh hle1 (l := 0) rfl⟩, hm.below hle1⟩
end Go.Proofs.YtlafboeohojcbaaGreat
