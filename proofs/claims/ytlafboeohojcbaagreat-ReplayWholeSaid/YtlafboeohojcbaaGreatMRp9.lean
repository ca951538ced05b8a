import Derived.Test.YtlafboeohojcbaaGreatMRp1
/- Replays compared; what the document says of a journal without records. -/
set_option linter.unusedVariables false
set_option linter.unusedSimpArgs false
set_option maxRecDepth 100000
namespace Go.Proofs.YtlafboeohojcbaaGreat
open Go Go.Eng Go.RowKit
theorem rp_read_empty : readB ByteArray.empty = false := by
 have h : ofB 6 ByteArray.empty = false := by
  unfold ofB openB
  simp
 unfold readB
 simp [fieldsR, h]
theorem rp_isB_empty (key lsn : Int) : isB ByteArray.empty key lsn = false := by rw [isB, rp_read_empty]; rfl
theorem headT {n : Int} (h : fitsB n 6 = true) : ∃ sv : ByteArray, headS n = (sv, 0) ∧ tailOk sv = some n ∧ sv.size ≤ maxLen := by
 have e : headS n = (strOf (sealL 2 (leB 6 n)), 0) := by rw [headS, if_pos h]
 have ht := tail_head h
 rw [e] at ht
 refine ⟨strOf (sealL 2 (leB 6 n)), e, ht, ?_⟩
 simp only [strOf_size, sealL_len, maxLen]
 have : (leB 6 n).length = 6 := by simp [leB, leTake_len]
 omega
abbrev geo21 : Geo := ⟨1, 1, 2, 1, 4, 8, 1, 2⟩
theorem geo21_ok : geo21.Ok := by constructor <;> simp [R64]
theorem geo21_b : geoB geo21 = true := by decide
theorem geo21_c (w : World) : Calls Tryz.prog 22 #[] w fun e w' => e = .returned geo21.val ∧ Below w.heap.size w w' := by
 refine enter (E := E0) (O := []) (nl := 0) (V := vw w) [] Tryz.func22 rfl rfl (mem0 E0 0 w) rfl rfl ?_
 refine c_seq (c_region ?_)
 refine o_new tok rfl rfl rfl rfl ?_
 refine o_end [0] rfl ?_
 refine x_then (c_seq (c_region ?_))
 refine yO rfl rfl rfl rfl ?_
 refine o_store tok rfl rfl rfl (by first | (repeat' first | exact trivial | exact rfl | apply And.intro); done | simp [onesP, oneP, lk, Value.oneCell']) ?_
 refine o_end [0] rfl ?_
 refine x_then (c_ret ?_)
 refine b_ret tok rfl ?_
 intro E w' hm _
 refine ⟨?_, hm.below (Vw.le.refl _)⟩
 rfl
theorem most21_c (w : World) : Calls Tryz.prog 14 #[geo21.val] w fun e w' => e = .returned (I 8) ∧ Below w.heap.size w w' := by
 refine enter (E := E0) (O := []) (nl := 0) (V := vw w) [.a (.v geo21.val)] Tryz.func14 rfl rfl (mem0 E0 0 w) rfl rfl ?_
 refine c_seq (c_region ?_)
 refine o_new tok rfl rfl rfl rfl ?_
 refine yO rfl rfl rfl rfl ?_
 refine o_end [1] rfl ?_
 refine x_then (c_seq (c_region ?_))
 iterate 10 refine yO rfl rfl rfl rfl ?_
 refine o_end [2] rfl ?_
 refine x_then (c_ret ?_)
 refine b_ret tok rfl ?_
 intro E w' hm _
 refine ⟨?_, hm.below (Vw.le.refl _)⟩
 rfl
theorem begin21_c (w : World) : Calls Tryz.prog 21 #[geo21.val, I 0, I 16] w fun e w' => e = .returned (.tuple #[rpV 0 16 0 0 (.slice none 0 0) (.slice none 0 0) 0 0, I 0]) ∧ Below w.heap.size w w' := by
 refine (rbegin_c geo21 geo21_ok 0 16 w).mono ?_
 rintro e w' ⟨hb, ⟨_, _, _, he⟩ | ⟨hn, _⟩⟩
 · exact ⟨he, hb⟩
 · exact absurd (by decide) hn
theorem wakes21_c (w : World) : Calls Tryz.prog 7 #[] w fun e w' => e = .returned (.bool true) ∧ Below w.heap.size w w' := by
 obtain ⟨sv, hsv, htl, hsz⟩ := headT (n := 7) (by decide)
 have hh := fun w => refHeadS_c 7 w
 rw [hsv] at hh
 have htv : tailV sv = 7 ∧ tailE sv = 0 := by rw [tailV, tailE, htl]; exact ⟨rfl, rfl⟩
 have hw0 := fun w => rpWant0_c geo21 geo21_ok 0 16 0 (.slice none 0 0) (.slice none 0 0) 0 0 w
 have ht0 : ∀ w, Calls Tryz.prog 24 #[geo21.val, rpV 0 16 0 0 (.slice none 0 0) (.slice none 0 0) 0 0, S sv] w fun e w' => e = .returned (.tuple #[rpV 0 16 1 7 (.slice none 0 0) (.slice none 0 0) 0 0, .bool false, I 0]) ∧ Below w.heap.size w w' := fun w => (rpTake0_c geo21 geo21_ok 0 16 0 none none 0 0 0 0 0 0 sv hsz w).mono (by
  rintro e w' ⟨hb, ⟨_, he⟩ | ⟨hn, _⟩⟩
  · exact ⟨by rw [he, htv.1], hb⟩
  · exact absurd htv.2 hn)
 have hnil := fun V => slNil V Record.cells 6 0 (fun _ => rfl)
 have hw1 := fun w => rpWant1_c (vw w) geo21 geo21_ok 0 16 7 none 0 0 (.slice none 0 0) 0 0 [] w (hnil _)
 have hrl : rowL [] ByteArray.empty 16 7 = [] := by rw [rowL, rp_isB_empty, if_neg (by simp)]
 have hrd : rowD geo21 [] ByteArray.empty 16 7 = true := by rw [rowD, rp_isB_empty]; rfl
 have ht1 := fun V w hV => rpTake1_c V geo21 geo21_ok geo21_b 0 16 7 none 0 0 none 0 0 0 0 [] ByteArray.empty (by simp) w hV (hnil _) (by simp) 7 (by decide) (by rw [hrl]; rfl)
 rw [hrl, hrd] at ht1
 have hw3 := fun lv w => rpWant3_c geo21 geo21_ok 0 16 7 lv (.slice none 0 0) 0 7 w
 have htK : tailK geo21 0 7 = 2 ∧ tailN geo21 0 7 = headV geo21 0 ∧ tailT geo21 0 7 = sv := by
  have h0 : (headS 7).2 = 0 ∧ 0 ≤ headV geo21 0 := ⟨by rw [hsv], by decide⟩
  rw [tailK, tailN, tailT, if_pos h0, if_pos h0, if_pos h0, hsv]
  exact ⟨rfl, rfl, rfl⟩
 rw [htK.1, htK.2.1, htK.2.2] at hw3
 refine enter (E := E0) (O := []) (nl := 0) (V := vw w) [] Tryz.func7 rfl rfl (mem0 E0 0 w) rfl rfl ?_
 refine c_seq (c_region ?_)
 refine yO rfl rfl rfl rfl ?_
 refine o_end [] rfl ?_
 refine x_then (c_seq (c_region ?_))
 refine o_call (.a (.v _)) rfl rfl fnok20 rfl rfl rfl (fun hg E w1 hm => by exact hh _) ?_
 iterate 5 refine yO rfl rfl rfl rfl ?_
 refine o_end [1] rfl ?_
 refine x_then (c_seq (c_region ?_))
 refine o_call (.a (.v _)) rfl rfl fnok22 rfl rfl rfl (fun hg E w1 hm => by exact geo21_c _) ?_
 refine o_call (.a (.v _)) rfl rfl fnok21 rfl rfl rfl (fun hg E w1 hm => by exact begin21_c _) ?_
 iterate 3 refine yO rfl rfl rfl rfl ?_
 refine o_new tok rfl rfl rfl rfl ?_
 refine o_store tok rfl rfl rfl (by first | (repeat' first | exact trivial | exact rfl | apply And.intro); done | simp [onesP, oneP, lk, Value.oneCell']) ?_
 refine yO rfl rfl rfl rfl ?_
 refine o_end [1, 3, 4] rfl ?_
 refine x_then (c_seq ?_)
 refine k_trim [1, 3, 4] [] 1 rfl rfl (by repeat (first | exact fN | refine fC rfl ?_)) (by repeat (first | exact oN | refine oC rfl ?_)) rfl ?_
 refine c_heldM (σ := Unit) (fun _ => [(1, .a (.v (S sv))), (3, .a (.ptr 0 0)), (4, .a (.v (I 0))), (5, .a (.ptr 1 0))]) (fun _ => [(0, .lit ((rpL 0 16 0 0 (.slice none 0 0) (.slice none 0 0) 0 0).map .v) 44), (1, .lit [.v (I8 (readK (headV geo21 0))), .v (I (readN (headV geo21 0))), .v (S ByteArray.empty), .v (I 0)] 61)]) (2) (fun _ => vw w) (fun _ => True) mixed ?_ ?_
 ·
  refine t_take 1 rfl (by kernel_rfl) rfl rfl rfl (yV rfl) rfl ?_
  refine t_go ?_
  refine h_two 0 3 (by kernel_rfl) ?_ ?_
  ·
   refine h_call 0 (.a (.v geo21.val)) rfl rfl rfl fnok22 rfl rfl rfl (fun hg E w1 hm => by exact geo21_c _) ?_
   refine h_two 2 3 (by kernel_rfl) ?_ ?_
   ·
    refine h_call 2 (.a (.v (actV (readK (headV geo21 0)) (readN (headV geo21 0)) ByteArray.empty))) rfl rfl rfl fnok23 rfl rfl rfl (fun hg E w1 hm => by exact hw0 _) ?_
    refine h_one 3 (by kernel_rfl) ?_
    refine h_new 3 tok rfl rfl rfl rfl rfl rfl ?_
    refine h_one 4 (by kernel_rfl) ?_
    refine h_store 4 tok rfl rfl rfl rfl (by repeat' first | exact trivial | exact rfl | apply And.intro) (.inr ⟨(by repeat (first | exact oN | refine oC rfl ?_)), rfl, (by first | exact Vw.le.refl _ | assumption)⟩) ?_
    refine h_done [1, 3, 4, 5] (by kernel_rfl) rfl ?_
    exact x_meet () trivial (by repeat (first | exact fN | refine fC rfl ?_)) (by repeat (first | exact oN | refine oC rfl ?_)) rfl (Vw.le.refl _)
   ·
    refine h_new 3 tok rfl rfl rfl rfl rfl rfl ?_
    refine h_one 2 (by kernel_rfl) ?_
    refine h_call 2 (.a (.v (actV (readK (headV geo21 0)) (readN (headV geo21 0)) ByteArray.empty))) rfl rfl rfl fnok23 rfl rfl rfl (fun hg E w1 hm => by exact hw0 _) ?_
    refine h_one 4 (by kernel_rfl) ?_
    refine h_store 4 tok rfl rfl rfl rfl (by repeat' first | exact trivial | exact rfl | apply And.intro) (.inr ⟨(by repeat (first | exact oN | refine oC rfl ?_)), rfl, (by first | exact Vw.le.refl _ | assumption)⟩) ?_
    refine h_done [1, 3, 4, 5] (by kernel_rfl) rfl ?_
    exact x_meet () trivial (by repeat (first | exact fN | refine fC rfl ?_)) (by repeat (first | exact oN | refine oC rfl ?_)) rfl (Vw.le.refl _)
  ·
   refine h_new 3 tok rfl rfl rfl rfl rfl rfl ?_
   refine h_one 0 (by kernel_rfl) ?_
   refine h_call 0 (.a (.v geo21.val)) rfl rfl rfl fnok22 rfl rfl rfl (fun hg E w1 hm => by exact geo21_c _) ?_
   refine h_one 2 (by kernel_rfl) ?_
   refine h_call 2 (.a (.v (actV (readK (headV geo21 0)) (readN (headV geo21 0)) ByteArray.empty))) rfl rfl rfl fnok23 rfl rfl rfl (fun hg E w1 hm => by exact hw0 _) ?_
   refine h_one 4 (by kernel_rfl) ?_
   refine h_store 4 tok rfl rfl rfl rfl (by repeat' first | exact trivial | exact rfl | apply And.intro) (.inr ⟨(by repeat (first | exact oN | refine oC rfl ?_)), rfl, (by first | exact Vw.le.refl _ | assumption)⟩) ?_
   refine h_done [1, 3, 4, 5] (by kernel_rfl) rfl ?_
   exact x_meet () trivial (by repeat (first | exact fN | refine fC rfl ?_)) (by repeat (first | exact oN | refine oC rfl ?_)) rfl (Vw.le.refl _)
 rintro ⟨⟩ -
 refine x_then (c_seq ?_)
 refine c_heldS [8] mixed rfl (by repeat (first | exact oN | refine oC rfl ?_)) (by first | rfl | simp [okCels, allOk_plain]) ?_
 refine t_takeD 1 rfl (by kernel_rfl) rfl rfl rfl (yV rfl) rfl ?_
 refine t_takeD 2 rfl (by kernel_rfl) rfl rfl rfl (yV rfl) rfl ?_
 refine t_go ?_
 refine h_one 0 (by kernel_rfl) ?_
 refine h_call 0 (.a (.v _)) rfl rfl rfl fnok22 rfl rfl rfl (fun hg E w1 hm => by exact geo21_c _) ?_
 refine h_one 3 (by kernel_rfl) ?_
 refine h_call 3 (.a (.v _)) rfl rfl rfl fnok24 rfl rfl rfl (fun hg E w1 hm => by exact ht0 _) ?_
 refine h_one 4 (by kernel_rfl) ?_
 refine yH 4 rfl rfl rfl rfl rfl ?_
 refine h_takeD 5 rfl (by kernel_rfl) rfl rfl rfl rfl (yV rfl) rfl ?_
 refine h_takeR 6 rfl (by kernel_rfl) rfl rfl rfl (fun _ => y_val tok rfl) rfl ?_
 refine h_takeR 7 rfl (by kernel_rfl) rfl rfl rfl (fun _ => y_val tok rfl) rfl ?_
 refine h_one 8 (by kernel_rfl) ?_
 refine h_store 8 tok rfl rfl rfl rfl (by repeat' first | exact trivial | exact rfl | apply And.intro) (.inl rfl) ?_
 refine h_one 9 (by kernel_rfl) ?_
 refine yH 9 rfl rfl rfl rfl rfl ?_
 refine h_one 10 (by kernel_rfl) ?_
 refine yH 10 rfl rfl rfl rfl rfl ?_
 refine h_done [1, 3, 4, 5, 6, 7] (by kernel_rfl) rfl ?_
 refine x_then (c_seq ?_)
 refine k_trim [1, 3, 4, 5, 6, 7] [] 2 rfl rfl (by repeat (first | exact fN | refine fC rfl ?_)) (by repeat (first | exact oN | refine oC rfl ?_)) rfl ?_
 refine c_heldM (σ := Unit) (fun _ => [(1, .a (.v (S sv))), (3, .a (.ptr 0 0)), (4, .a (.v (I 0))), (5, .a (.ptr 1 0)), (6, .a (.v (.bool false))), (7, .a (.v (I 0))), (8, .a (.ptr 2 0))]) (fun _ => [(0, .lit ((rpL 0 16 1 7 (.slice none 0 0) (.slice none 0 0) 0 0).map .v) 44), (1, .lit [.v (I8 (readK (headV geo21 0))), .v (I (readN (headV geo21 0))), .v (S ByteArray.empty), .v (I 0)] 61), (2, .lit [.v (I8 (readK (jourV geo21 0 (IntKind.i64.wrap (7 + (([] : List Record).length : Int)))))), .v (I (readN (jourV geo21 0 (IntKind.i64.wrap (7 + (([] : List Record).length : Int)))))), .v (S ByteArray.empty), .v (I 0)] 61)]) (3) (fun _ => vw w) (fun _ => True) mixed ?_ ?_
 ·
  refine t_take 1 rfl (by kernel_rfl) rfl rfl rfl (yV rfl) rfl ?_
  refine t_go ?_
  refine h_two 0 3 (by kernel_rfl) ?_ ?_
  ·
   refine h_call 0 (.a (.v geo21.val)) rfl rfl rfl fnok22 rfl rfl rfl (fun hg E w1 hm => by exact geo21_c _) ?_
   refine h_two 2 3 (by kernel_rfl) ?_ ?_
   ·
    refine h_call 2 (.a (.v (actV (readK (jourV geo21 0 (IntKind.i64.wrap (7 + (([] : List Record).length : Int))))) (readN (jourV geo21 0 (IntKind.i64.wrap (7 + (([] : List Record).length : Int))))) ByteArray.empty))) rfl rfl rfl fnok23 rfl rfl rfl (fun hg E w1 hm => by exact hw1 _) ?_
    refine h_one 3 (by kernel_rfl) ?_
    refine h_new 3 tok rfl rfl rfl rfl rfl rfl ?_
    refine h_one 4 (by kernel_rfl) ?_
    refine h_store 4 tok rfl rfl rfl rfl (by repeat' first | exact trivial | exact rfl | apply And.intro) (.inr ⟨(by repeat (first | exact oN | refine oC rfl ?_)), rfl, (by first | exact Vw.le.refl _ | assumption)⟩) ?_
    refine h_done [1, 3, 4, 5, 6, 7, 8] (by kernel_rfl) rfl ?_
    exact x_meet () trivial (by repeat (first | exact fN | refine fC rfl ?_)) (by repeat (first | exact oN | refine oC rfl ?_)) rfl (Vw.le.refl _)
   ·
    refine h_new 3 tok rfl rfl rfl rfl rfl rfl ?_
    refine h_one 2 (by kernel_rfl) ?_
    refine h_call 2 (.a (.v (actV (readK (jourV geo21 0 (IntKind.i64.wrap (7 + (([] : List Record).length : Int))))) (readN (jourV geo21 0 (IntKind.i64.wrap (7 + (([] : List Record).length : Int))))) ByteArray.empty))) rfl rfl rfl fnok23 rfl rfl rfl (fun hg E w1 hm => by exact hw1 _) ?_
    refine h_one 4 (by kernel_rfl) ?_
    refine h_store 4 tok rfl rfl rfl rfl (by repeat' first | exact trivial | exact rfl | apply And.intro) (.inr ⟨(by repeat (first | exact oN | refine oC rfl ?_)), rfl, (by first | exact Vw.le.refl _ | assumption)⟩) ?_
    refine h_done [1, 3, 4, 5, 6, 7, 8] (by kernel_rfl) rfl ?_
    exact x_meet () trivial (by repeat (first | exact fN | refine fC rfl ?_)) (by repeat (first | exact oN | refine oC rfl ?_)) rfl (Vw.le.refl _)
  ·
   refine h_new 3 tok rfl rfl rfl rfl rfl rfl ?_
   refine h_one 0 (by kernel_rfl) ?_
   refine h_call 0 (.a (.v geo21.val)) rfl rfl rfl fnok22 rfl rfl rfl (fun hg E w1 hm => by exact geo21_c _) ?_
   refine h_one 2 (by kernel_rfl) ?_
   refine h_call 2 (.a (.v (actV (readK (jourV geo21 0 (IntKind.i64.wrap (7 + (([] : List Record).length : Int))))) (readN (jourV geo21 0 (IntKind.i64.wrap (7 + (([] : List Record).length : Int))))) ByteArray.empty))) rfl rfl rfl fnok23 rfl rfl rfl (fun hg E w1 hm => by exact hw1 _) ?_
   refine h_one 4 (by kernel_rfl) ?_
   refine h_store 4 tok rfl rfl rfl rfl (by repeat' first | exact trivial | exact rfl | apply And.intro) (.inr ⟨(by repeat (first | exact oN | refine oC rfl ?_)), rfl, (by first | exact Vw.le.refl _ | assumption)⟩) ?_
   refine h_done [1, 3, 4, 5, 6, 7, 8] (by kernel_rfl) rfl ?_
   exact x_meet () trivial (by repeat (first | exact fN | refine fC rfl ?_)) (by repeat (first | exact oN | refine oC rfl ?_)) rfl (Vw.le.refl _)
 rintro ⟨⟩ -
 refine x_then (c_seq ?_)
 refine c_heldS [7] mixed rfl (by repeat (first | exact oN | refine oC rfl ?_)) (by first | rfl | simp [okCels, allOk_plain]) ?_
 refine t_takeD 1 rfl (by kernel_rfl) rfl rfl rfl (yV rfl) rfl ?_
 refine t_go ?_
 refine h_one 0 (by kernel_rfl) ?_
 refine h_call 0 (.a (.v _)) rfl rfl rfl fnok22 rfl rfl rfl (fun hg E w1 hm => by exact geo21_c _) ?_
 refine h_one 2 (by kernel_rfl) ?_
 refine h_callV 2 (fun v V' => ∃ ra rn rc, v = .tuple #[rpR true 0 16 7 ra rn rc none 0 0 0 0, .bool false, I 0] ∧ SlOf V' Record.cells 6 (.slice ra rn rc) []) rfl rfl rfl fnok24 rfl rfl (fun hg E w1 hm => by exact ht1 (vw w) _ hm.leV) ?_
 rintro v V1 hle1 hv
 obtain ⟨ra, rn, rc, rfl, _⟩ := hv rfl
 refine h_one 3 (by kernel_rfl) ?_
 refine yH 3 rfl rfl rfl rfl rfl ?_
 refine h_takeD 4 rfl (by kernel_rfl) rfl rfl rfl rfl (yV rfl) rfl ?_
 refine h_takeR 5 rfl (by kernel_rfl) rfl rfl rfl (fun _ => y_val tok rfl) rfl ?_
 refine h_takeR 6 rfl (by kernel_rfl) rfl rfl rfl (fun _ => y_val tok rfl) rfl ?_
 refine h_one 7 (by kernel_rfl) ?_
 refine h_store 7 tok rfl rfl rfl rfl (by repeat' first | exact trivial | exact rfl | apply And.intro) (.inl rfl) ?_
 refine h_one 8 (by kernel_rfl) ?_
 refine yH 8 rfl rfl rfl rfl rfl ?_
 refine h_one 9 (by kernel_rfl) ?_
 refine yH 9 rfl rfl rfl rfl rfl ?_
 refine h_done [1, 3, 4, 5, 6, 7, 8, 9, 10] (by kernel_rfl) rfl ?_
 refine x_then (c_seq ?_)
 refine k_trim [1, 3, 4, 5, 6, 7, 8, 9, 10] [] 3 rfl rfl (by repeat (first | exact fN | refine fC rfl ?_)) (by repeat (first | exact oN | refine oC rfl ?_)) rfl ?_
 refine c_heldM (σ := Unit) (fun _ => [(1, .a (.v (S sv))), (3, .a (.ptr 0 0)), (4, .a (.v (I 0))), (5, .a (.ptr 1 0)), (6, .a (.v (.bool false))), (7, .a (.v (I 0))), (8, .a (.ptr 2 0)), (9, .a (.v (.bool false))), (10, .a (.v (I 0))), (11, .a (.ptr 3 0))]) (fun _ => [(0, .lit ((rpL 0 16 3 7 (.slice ra rn rc) (.slice none 0 0) 0 7).map .v) 44), (1, .lit [.v (I8 (readK (headV geo21 0))), .v (I (readN (headV geo21 0))), .v (S ByteArray.empty), .v (I 0)] 61), (2, .lit [.v (I8 (readK (jourV geo21 0 (IntKind.i64.wrap (7 + (([] : List Record).length : Int)))))), .v (I (readN (jourV geo21 0 (IntKind.i64.wrap (7 + (([] : List Record).length : Int)))))), .v (S ByteArray.empty), .v (I 0)] 61), (3, .lit [.v (I8 2), .v (I (headV geo21 0)), .v (S sv), .v (I 0)] 61)]) (4) (fun _ => V1) (fun _ => True) mixed ?_ ?_
 ·
  refine t_take 1 rfl (by kernel_rfl) rfl rfl rfl (yV rfl) rfl ?_
  refine t_go ?_
  refine h_two 0 3 (by kernel_rfl) ?_ ?_
  ·
   refine h_call 0 (.a (.v geo21.val)) rfl rfl rfl fnok22 rfl rfl rfl (fun hg E w1 hm => by exact geo21_c _) ?_
   refine h_two 2 3 (by kernel_rfl) ?_ ?_
   ·
    refine h_call 2 (.a (.v (actV 2 (headV geo21 0) sv))) rfl rfl rfl fnok23 rfl rfl rfl (fun hg E w1 hm => by exact hw3 _ _) ?_
    refine h_one 3 (by kernel_rfl) ?_
    refine h_new 3 tok rfl rfl rfl rfl rfl rfl ?_
    refine h_one 4 (by kernel_rfl) ?_
    refine h_store 4 tok rfl rfl rfl rfl (by repeat' first | exact trivial | exact rfl | apply And.intro) (.inr ⟨(by repeat (first | exact oN | refine oC rfl ?_)), rfl, (by first | exact Vw.le.refl _ | assumption)⟩) ?_
    refine h_done [1, 3, 4, 5, 6, 7, 8, 9, 10, 11] (by kernel_rfl) rfl ?_
    exact x_meet () trivial (by repeat (first | exact fN | refine fC rfl ?_)) (by repeat (first | exact oN | refine oC rfl ?_)) rfl (Vw.le.refl _)
   ·
    refine h_new 3 tok rfl rfl rfl rfl rfl rfl ?_
    refine h_one 2 (by kernel_rfl) ?_
    refine h_call 2 (.a (.v (actV 2 (headV geo21 0) sv))) rfl rfl rfl fnok23 rfl rfl rfl (fun hg E w1 hm => by exact hw3 _ _) ?_
    refine h_one 4 (by kernel_rfl) ?_
    refine h_store 4 tok rfl rfl rfl rfl (by repeat' first | exact trivial | exact rfl | apply And.intro) (.inr ⟨(by repeat (first | exact oN | refine oC rfl ?_)), rfl, (by first | exact Vw.le.refl _ | assumption)⟩) ?_
    refine h_done [1, 3, 4, 5, 6, 7, 8, 9, 10, 11] (by kernel_rfl) rfl ?_
    exact x_meet () trivial (by repeat (first | exact fN | refine fC rfl ?_)) (by repeat (first | exact oN | refine oC rfl ?_)) rfl (Vw.le.refl _)
  ·
   refine h_new 3 tok rfl rfl rfl rfl rfl rfl ?_
   refine h_one 0 (by kernel_rfl) ?_
   refine h_call 0 (.a (.v geo21.val)) rfl rfl rfl fnok22 rfl rfl rfl (fun hg E w1 hm => by exact geo21_c _) ?_
   refine h_one 2 (by kernel_rfl) ?_
   refine h_call 2 (.a (.v (actV 2 (headV geo21 0) sv))) rfl rfl rfl fnok23 rfl rfl rfl (fun hg E w1 hm => by exact hw3 _ _) ?_
   refine h_one 4 (by kernel_rfl) ?_
   refine h_store 4 tok rfl rfl rfl rfl (by repeat' first | exact trivial | exact rfl | apply And.intro) (.inr ⟨(by repeat (first | exact oN | refine oC rfl ?_)), rfl, (by first | exact Vw.le.refl _ | assumption)⟩) ?_
   refine h_done [1, 3, 4, 5, 6, 7, 8, 9, 10, 11] (by kernel_rfl) rfl ?_
   exact x_meet () trivial (by repeat (first | exact fN | refine fC rfl ?_)) (by repeat (first | exact oN | refine oC rfl ?_)) rfl (Vw.le.refl _)
 rintro ⟨⟩ -
 refine x_then (c_seq ?_)
 refine c_heldM (σ := Unit) (fun _ => [(1, .a (.v (S sv))), (4, .a (.v (I 0))), (5, .a (.ptr 1 0)), (6, .a (.v (.bool false))), (7, .a (.v (I 0))), (8, .a (.ptr 2 0)), (9, .a (.v (.bool false))), (10, .a (.v (I 0))), (11, .a (.ptr 3 0)), (12, .a (.ptr 4 0)), (13, .a (.v (.bool true))), (14, .a (.v (I 0)))]) (fun _ => [(4, .lit ((rpL 0 16 4 7 (.slice ra rn rc) (.slice none 0 0) 0 7).map .v) 44), (1, .lit [.v (I8 (readK (headV geo21 0))), .v (I (readN (headV geo21 0))), .v (S ByteArray.empty), .v (I 0)] 61), (2, .lit [.v (I8 (readK (jourV geo21 0 (IntKind.i64.wrap (7 + (([] : List Record).length : Int)))))), .v (I (readN (jourV geo21 0 (IntKind.i64.wrap (7 + (([] : List Record).length : Int)))))), .v (S ByteArray.empty), .v (I 0)] 61), (3, .lit [.v (I8 2), .v (I (headV geo21 0)), .v (S sv), .v (I 0)] 61)]) (5) (fun _ => V1) (fun _ => True) mixed ?_ ?_
 ·
  refine t_take 1 rfl (by kernel_rfl) rfl rfl rfl (yV rfl) rfl ?_
  refine t_go ?_
  refine h_two 0 7 (by kernel_rfl) ?_ ?_
  ·
   refine h_call 0 (.a (.v geo21.val)) rfl rfl rfl fnok22 rfl rfl rfl (fun hg E w1 hm => by exact geo21_c _) ?_
   refine h_two 2 7 (by kernel_rfl) ?_ ?_
   ·
    refine h_call 2 (.a (.v (.tuple #[rpV 0 16 4 7 (.slice ra rn rc) (.slice none 0 0) 0 7, .bool true, I 0]))) rfl rfl rfl fnok24 rfl rfl rfl (fun hg E w1 hm => by exact rpTake3_c geo21 geo21_ok 0 16 7 _ _ _ _ _ _ 0 7 _ _) ?_
    refine h_two 3 7 (by kernel_rfl) ?_ ?_
    ·
     refine yH 3 rfl rfl rfl rfl rfl ?_
     refine h_four 4 5 6 7 (by kernel_rfl) ?_ ?_ ?_ ?_
     ·
      refine yH 4 rfl rfl rfl rfl rfl ?_
      refine h_three 5 6 7 (by kernel_rfl) ?_ ?_ ?_
      ·
       refine yH 5 rfl rfl rfl rfl rfl ?_
       refine h_two 6 7 (by kernel_rfl) ?_ ?_
       ·
        refine yH 6 rfl rfl rfl rfl rfl ?_
        refine h_one 7 (by kernel_rfl) ?_
        refine h_new 7 tok rfl rfl rfl rfl rfl rfl ?_
        refine h_one 8 (by kernel_rfl) ?_
        refine h_store 8 tok rfl rfl rfl rfl (by repeat' first | exact trivial | exact rfl | apply And.intro) (.inr ⟨(by repeat (first | exact oN | refine oC rfl ?_)), rfl, (by first | exact Vw.le.refl _ | assumption)⟩) ?_
        refine h_one 9 (by kernel_rfl) ?_
        refine yH 9 rfl rfl rfl rfl rfl ?_
        refine h_one 10 (by kernel_rfl) ?_
        refine yH 10 rfl rfl rfl rfl rfl ?_
        refine h_done [1, 4, 5, 6, 7, 8, 9, 10, 11, 12, 13, 14] (by kernel_rfl) rfl ?_
        exact x_meet () trivial (by repeat (first | exact fN | refine fC rfl ?_)) (by repeat (first | exact oN | refine oC rfl ?_)) rfl (Vw.le.refl _)
       ·
        refine h_new 7 tok rfl rfl rfl rfl rfl rfl ?_
        refine h_two 6 8 (by kernel_rfl) ?_ ?_
        ·
         refine yH 6 rfl rfl rfl rfl rfl ?_
         refine h_one 8 (by kernel_rfl) ?_
         refine h_store 8 tok rfl rfl rfl rfl (by repeat' first | exact trivial | exact rfl | apply And.intro) (.inr ⟨(by repeat (first | exact oN | refine oC rfl ?_)), rfl, (by first | exact Vw.le.refl _ | assumption)⟩) ?_
         refine h_one 9 (by kernel_rfl) ?_
         refine yH 9 rfl rfl rfl rfl rfl ?_
         refine h_one 10 (by kernel_rfl) ?_
         refine yH 10 rfl rfl rfl rfl rfl ?_
         refine h_done [1, 4, 5, 6, 7, 8, 9, 10, 11, 12, 13, 14] (by kernel_rfl) rfl ?_
         exact x_meet () trivial (by repeat (first | exact fN | refine fC rfl ?_)) (by repeat (first | exact oN | refine oC rfl ?_)) rfl (Vw.le.refl _)
        ·
         refine h_store 8 tok rfl rfl rfl rfl (by repeat' first | exact trivial | exact rfl | apply And.intro) (.inr ⟨(by repeat (first | exact oN | refine oC rfl ?_)), rfl, (by first | exact Vw.le.refl _ | assumption)⟩) ?_
         refine h_two 6 9 (by kernel_rfl) ?_ ?_
         ·
          refine yH 6 rfl rfl rfl rfl rfl ?_
          refine h_one 9 (by kernel_rfl) ?_
          refine yH 9 rfl rfl rfl rfl rfl ?_
          refine h_one 10 (by kernel_rfl) ?_
          refine yH 10 rfl rfl rfl rfl rfl ?_
          refine h_done [1, 4, 5, 6, 7, 8, 9, 10, 11, 12, 13, 14] (by kernel_rfl) rfl ?_
          exact x_meet () trivial (by repeat (first | exact fN | refine fC rfl ?_)) (by repeat (first | exact oN | refine oC rfl ?_)) rfl (Vw.le.refl _)
         ·
          refine yH 9 rfl rfl rfl rfl rfl ?_
          refine h_one 6 (by kernel_rfl) ?_
          refine yH 6 rfl rfl rfl rfl rfl ?_
          refine h_one 10 (by kernel_rfl) ?_
          refine yH 10 rfl rfl rfl rfl rfl ?_
          refine h_done [1, 4, 5, 6, 7, 8, 9, 10, 11, 12, 13, 14] (by kernel_rfl) rfl ?_
          exact x_meet () trivial (by repeat (first | exact fN | refine fC rfl ?_)) (by repeat (first | exact oN | refine oC rfl ?_)) rfl (Vw.le.refl _)
      ·
       refine yH 6 rfl rfl rfl rfl rfl ?_
       refine h_two 5 7 (by kernel_rfl) ?_ ?_
       ·
        refine yH 5 rfl rfl rfl rfl rfl ?_
        refine h_one 7 (by kernel_rfl) ?_
        refine h_new 7 tok rfl rfl rfl rfl rfl rfl ?_
        refine h_one 8 (by kernel_rfl) ?_
        refine h_store 8 tok rfl rfl rfl rfl (by repeat' first | exact trivial | exact rfl | apply And.intro) (.inr ⟨(by repeat (first | exact oN | refine oC rfl ?_)), rfl, (by first | exact Vw.le.refl _ | assumption)⟩) ?_
        refine h_one 9 (by kernel_rfl) ?_
        refine yH 9 rfl rfl rfl rfl rfl ?_
        refine h_one 10 (by kernel_rfl) ?_
        refine yH 10 rfl rfl rfl rfl rfl ?_
        refine h_done [1, 4, 5, 6, 7, 8, 9, 10, 11, 12, 13, 14] (by kernel_rfl) rfl ?_
        exact x_meet () trivial (by repeat (first | exact fN | refine fC rfl ?_)) (by repeat (first | exact oN | refine oC rfl ?_)) rfl (Vw.le.refl _)
       ·
        refine h_new 7 tok rfl rfl rfl rfl rfl rfl ?_
        refine h_two 5 8 (by kernel_rfl) ?_ ?_
        ·
         refine yH 5 rfl rfl rfl rfl rfl ?_
         refine h_one 8 (by kernel_rfl) ?_
         refine h_store 8 tok rfl rfl rfl rfl (by repeat' first | exact trivial | exact rfl | apply And.intro) (.inr ⟨(by repeat (first | exact oN | refine oC rfl ?_)), rfl, (by first | exact Vw.le.refl _ | assumption)⟩) ?_
         refine h_one 9 (by kernel_rfl) ?_
         refine yH 9 rfl rfl rfl rfl rfl ?_
         refine h_one 10 (by kernel_rfl) ?_
         refine yH 10 rfl rfl rfl rfl rfl ?_
         refine h_done [1, 4, 5, 6, 7, 8, 9, 10, 11, 12, 13, 14] (by kernel_rfl) rfl ?_
         exact x_meet () trivial (by repeat (first | exact fN | refine fC rfl ?_)) (by repeat (first | exact oN | refine oC rfl ?_)) rfl (Vw.le.refl _)
        ·
         refine h_store 8 tok rfl rfl rfl rfl (by repeat' first | exact trivial | exact rfl | apply And.intro) (.inr ⟨(by repeat (first | exact oN | refine oC rfl ?_)), rfl, (by first | exact Vw.le.refl _ | assumption)⟩) ?_
         refine h_one 5 (by kernel_rfl) ?_
         refine yH 5 rfl rfl rfl rfl rfl ?_
         refine h_one 9 (by kernel_rfl) ?_
         refine yH 9 rfl rfl rfl rfl rfl ?_
         refine h_one 10 (by kernel_rfl) ?_
         refine yH 10 rfl rfl rfl rfl rfl ?_
         refine h_done [1, 4, 5, 6, 7, 8, 9, 10, 11, 12, 13, 14] (by kernel_rfl) rfl ?_
         exact x_meet () trivial (by repeat (first | exact fN | refine fC rfl ?_)) (by repeat (first | exact oN | refine oC rfl ?_)) rfl (Vw.le.refl _)
      ·
       refine h_new 7 tok rfl rfl rfl rfl rfl rfl ?_
       refine h_three 5 6 8 (by kernel_rfl) ?_ ?_ ?_
       ·
        refine yH 5 rfl rfl rfl rfl rfl ?_
        refine h_two 6 8 (by kernel_rfl) ?_ ?_
        ·
         refine yH 6 rfl rfl rfl rfl rfl ?_
         refine h_one 8 (by kernel_rfl) ?_
         refine h_store 8 tok rfl rfl rfl rfl (by repeat' first | exact trivial | exact rfl | apply And.intro) (.inr ⟨(by repeat (first | exact oN | refine oC rfl ?_)), rfl, (by first | exact Vw.le.refl _ | assumption)⟩) ?_
         refine h_one 9 (by kernel_rfl) ?_
         refine yH 9 rfl rfl rfl rfl rfl ?_
         refine h_one 10 (by kernel_rfl) ?_
         refine yH 10 rfl rfl rfl rfl rfl ?_
         refine h_done [1, 4, 5, 6, 7, 8, 9, 10, 11, 12, 13, 14] (by kernel_rfl) rfl ?_
         exact x_meet () trivial (by repeat (first | exact fN | refine fC rfl ?_)) (by repeat (first | exact oN | refine oC rfl ?_)) rfl (Vw.le.refl _)
        ·
         refine h_store 8 tok rfl rfl rfl rfl (by repeat' first | exact trivial | exact rfl | apply And.intro) (.inr ⟨(by repeat (first | exact oN | refine oC rfl ?_)), rfl, (by first | exact Vw.le.refl _ | assumption)⟩) ?_
         refine h_two 6 9 (by kernel_rfl) ?_ ?_
         ·
          refine yH 6 rfl rfl rfl rfl rfl ?_
          refine h_one 9 (by kernel_rfl) ?_
          refine yH 9 rfl rfl rfl rfl rfl ?_
          refine h_one 10 (by kernel_rfl) ?_
          refine yH 10 rfl rfl rfl rfl rfl ?_
          refine h_done [1, 4, 5, 6, 7, 8, 9, 10, 11, 12, 13, 14] (by kernel_rfl) rfl ?_
          exact x_meet () trivial (by repeat (first | exact fN | refine fC rfl ?_)) (by repeat (first | exact oN | refine oC rfl ?_)) rfl (Vw.le.refl _)
         ·
          refine yH 9 rfl rfl rfl rfl rfl ?_
          refine h_one 6 (by kernel_rfl) ?_
          refine yH 6 rfl rfl rfl rfl rfl ?_
          refine h_one 10 (by kernel_rfl) ?_
          refine yH 10 rfl rfl rfl rfl rfl ?_
          refine h_done [1, 4, 5, 6, 7, 8, 9, 10, 11, 12, 13, 14] (by kernel_rfl) rfl ?_
          exact x_meet () trivial (by repeat (first | exact fN | refine fC rfl ?_)) (by repeat (first | exact oN | refine oC rfl ?_)) rfl (Vw.le.refl _)
       ·
        refine yH 6 rfl rfl rfl rfl rfl ?_
        refine h_two 5 8 (by kernel_rfl) ?_ ?_
        ·
         refine yH 5 rfl rfl rfl rfl rfl ?_
         refine h_one 8 (by kernel_rfl) ?_
         refine h_store 8 tok rfl rfl rfl rfl (by repeat' first | exact trivial | exact rfl | apply And.intro) (.inr ⟨(by repeat (first | exact oN | refine oC rfl ?_)), rfl, (by first | exact Vw.le.refl _ | assumption)⟩) ?_
         refine h_one 9 (by kernel_rfl) ?_
         refine yH 9 rfl rfl rfl rfl rfl ?_
         refine h_one 10 (by kernel_rfl) ?_
         refine yH 10 rfl rfl rfl rfl rfl ?_
         refine h_done [1, 4, 5, 6, 7, 8, 9, 10, 11, 12, 13, 14] (by kernel_rfl) rfl ?_
         exact x_meet () trivial (by repeat (first | exact fN | refine fC rfl ?_)) (by repeat (first | exact oN | refine oC rfl ?_)) rfl (Vw.le.refl _)
        ·
         refine h_store 8 tok rfl rfl rfl rfl (by repeat' first | exact trivial | exact rfl | apply And.intro) (.inr ⟨(by repeat (first | exact oN | refine oC rfl ?_)), rfl, (by first | exact Vw.le.refl _ | assumption)⟩) ?_
         refine h_one 5 (by kernel_rfl) ?_
         refine yH 5 rfl rfl rfl rfl rfl ?_
         refine h_one 9 (by kernel_rfl) ?_
         refine yH 9 rfl rfl rfl rfl rfl ?_
         refine h_one 10 (by kernel_rfl) ?_
         refine yH 10 rfl rfl rfl rfl rfl ?_
         refine h_done [1, 4, 5, 6, 7, 8, 9, 10, 11, 12, 13, 14] (by kernel_rfl) rfl ?_
         exact x_meet () trivial (by repeat (first | exact fN | refine fC rfl ?_)) (by repeat (first | exact oN | refine oC rfl ?_)) rfl (Vw.le.refl _)
       ·
        refine h_store 8 tok rfl rfl rfl rfl (by repeat' first | exact trivial | exact rfl | apply And.intro) (.inr ⟨(by repeat (first | exact oN | refine oC rfl ?_)), rfl, (by first | exact Vw.le.refl _ | assumption)⟩) ?_
        refine h_two 5 6 (by kernel_rfl) ?_ ?_
        ·
         refine yH 5 rfl rfl rfl rfl rfl ?_
         refine h_two 6 9 (by kernel_rfl) ?_ ?_
         ·
          refine yH 6 rfl rfl rfl rfl rfl ?_
          refine h_one 9 (by kernel_rfl) ?_
          refine yH 9 rfl rfl rfl rfl rfl ?_
          refine h_one 10 (by kernel_rfl) ?_
          refine yH 10 rfl rfl rfl rfl rfl ?_
          refine h_done [1, 4, 5, 6, 7, 8, 9, 10, 11, 12, 13, 14] (by kernel_rfl) rfl ?_
          exact x_meet () trivial (by repeat (first | exact fN | refine fC rfl ?_)) (by repeat (first | exact oN | refine oC rfl ?_)) rfl (Vw.le.refl _)
         ·
          refine yH 9 rfl rfl rfl rfl rfl ?_
          refine h_one 6 (by kernel_rfl) ?_
          refine yH 6 rfl rfl rfl rfl rfl ?_
          refine h_one 10 (by kernel_rfl) ?_
          refine yH 10 rfl rfl rfl rfl rfl ?_
          refine h_done [1, 4, 5, 6, 7, 8, 9, 10, 11, 12, 13, 14] (by kernel_rfl) rfl ?_
          exact x_meet () trivial (by repeat (first | exact fN | refine fC rfl ?_)) (by repeat (first | exact oN | refine oC rfl ?_)) rfl (Vw.le.refl _)
        ·
         refine yH 6 rfl rfl rfl rfl rfl ?_
         refine h_one 5 (by kernel_rfl) ?_
         refine yH 5 rfl rfl rfl rfl rfl ?_
         refine h_one 9 (by kernel_rfl) ?_
         refine yH 9 rfl rfl rfl rfl rfl ?_
         refine h_one 10 (by kernel_rfl) ?_
         refine yH 10 rfl rfl rfl rfl rfl ?_
         refine h_done [1, 4, 5, 6, 7, 8, 9, 10, 11, 12, 13, 14] (by kernel_rfl) rfl ?_
         exact x_meet () trivial (by repeat (first | exact fN | refine fC rfl ?_)) (by repeat (first | exact oN | refine oC rfl ?_)) rfl (Vw.le.refl _)
     ·
      refine yH 5 rfl rfl rfl rfl rfl ?_
      refine h_three 4 6 7 (by kernel_rfl) ?_ ?_ ?_
      ·
       refine yH 4 rfl rfl rfl rfl rfl ?_
       refine h_two 6 7 (by kernel_rfl) ?_ ?_
       ·
        refine yH 6 rfl rfl rfl rfl rfl ?_
        refine h_one 7 (by kernel_rfl) ?_
        refine h_new 7 tok rfl rfl rfl rfl rfl rfl ?_
        refine h_one 8 (by kernel_rfl) ?_
        refine h_store 8 tok rfl rfl rfl rfl (by repeat' first | exact trivial | exact rfl | apply And.intro) (.inr ⟨(by repeat (first | exact oN | refine oC rfl ?_)), rfl, (by first | exact Vw.le.refl _ | assumption)⟩) ?_
        refine h_one 9 (by kernel_rfl) ?_
        refine yH 9 rfl rfl rfl rfl rfl ?_
        refine h_one 10 (by kernel_rfl) ?_
        refine yH 10 rfl rfl rfl rfl rfl ?_
        refine h_done [1, 4, 5, 6, 7, 8, 9, 10, 11, 12, 13, 14] (by kernel_rfl) rfl ?_
        exact x_meet () trivial (by repeat (first | exact fN | refine fC rfl ?_)) (by repeat (first | exact oN | refine oC rfl ?_)) rfl (Vw.le.refl _)
       ·
        refine h_new 7 tok rfl rfl rfl rfl rfl rfl ?_
        refine h_two 6 8 (by kernel_rfl) ?_ ?_
        ·
         refine yH 6 rfl rfl rfl rfl rfl ?_
         refine h_one 8 (by kernel_rfl) ?_
         refine h_store 8 tok rfl rfl rfl rfl (by repeat' first | exact trivial | exact rfl | apply And.intro) (.inr ⟨(by repeat (first | exact oN | refine oC rfl ?_)), rfl, (by first | exact Vw.le.refl _ | assumption)⟩) ?_
         refine h_one 9 (by kernel_rfl) ?_
         refine yH 9 rfl rfl rfl rfl rfl ?_
         refine h_one 10 (by kernel_rfl) ?_
         refine yH 10 rfl rfl rfl rfl rfl ?_
         refine h_done [1, 4, 5, 6, 7, 8, 9, 10, 11, 12, 13, 14] (by kernel_rfl) rfl ?_
         exact x_meet () trivial (by repeat (first | exact fN | refine fC rfl ?_)) (by repeat (first | exact oN | refine oC rfl ?_)) rfl (Vw.le.refl _)
        ·
         refine h_store 8 tok rfl rfl rfl rfl (by repeat' first | exact trivial | exact rfl | apply And.intro) (.inr ⟨(by repeat (first | exact oN | refine oC rfl ?_)), rfl, (by first | exact Vw.le.refl _ | assumption)⟩) ?_
         refine h_two 6 9 (by kernel_rfl) ?_ ?_
         ·
          refine yH 6 rfl rfl rfl rfl rfl ?_
          refine h_one 9 (by kernel_rfl) ?_
          refine yH 9 rfl rfl rfl rfl rfl ?_
          refine h_one 10 (by kernel_rfl) ?_
          refine yH 10 rfl rfl rfl rfl rfl ?_
          refine h_done [1, 4, 5, 6, 7, 8, 9, 10, 11, 12, 13, 14] (by kernel_rfl) rfl ?_
          exact x_meet () trivial (by repeat (first | exact fN | refine fC rfl ?_)) (by repeat (first | exact oN | refine oC rfl ?_)) rfl (Vw.le.refl _)
         ·
          refine yH 9 rfl rfl rfl rfl rfl ?_
          refine h_one 6 (by kernel_rfl) ?_
          refine yH 6 rfl rfl rfl rfl rfl ?_
          refine h_one 10 (by kernel_rfl) ?_
          refine yH 10 rfl rfl rfl rfl rfl ?_
          refine h_done [1, 4, 5, 6, 7, 8, 9, 10, 11, 12, 13, 14] (by kernel_rfl) rfl ?_
          exact x_meet () trivial (by repeat (first | exact fN | refine fC rfl ?_)) (by repeat (first | exact oN | refine oC rfl ?_)) rfl (Vw.le.refl _)
      ·
       refine yH 6 rfl rfl rfl rfl rfl ?_
       refine h_two 4 7 (by kernel_rfl) ?_ ?_
       ·
        refine yH 4 rfl rfl rfl rfl rfl ?_
        refine h_one 7 (by kernel_rfl) ?_
        refine h_new 7 tok rfl rfl rfl rfl rfl rfl ?_
        refine h_one 8 (by kernel_rfl) ?_
        refine h_store 8 tok rfl rfl rfl rfl (by repeat' first | exact trivial | exact rfl | apply And.intro) (.inr ⟨(by repeat (first | exact oN | refine oC rfl ?_)), rfl, (by first | exact Vw.le.refl _ | assumption)⟩) ?_
        refine h_one 9 (by kernel_rfl) ?_
        refine yH 9 rfl rfl rfl rfl rfl ?_
        refine h_one 10 (by kernel_rfl) ?_
        refine yH 10 rfl rfl rfl rfl rfl ?_
        refine h_done [1, 4, 5, 6, 7, 8, 9, 10, 11, 12, 13, 14] (by kernel_rfl) rfl ?_
        exact x_meet () trivial (by repeat (first | exact fN | refine fC rfl ?_)) (by repeat (first | exact oN | refine oC rfl ?_)) rfl (Vw.le.refl _)
       ·
        refine h_new 7 tok rfl rfl rfl rfl rfl rfl ?_
        refine h_one 4 (by kernel_rfl) ?_
        refine yH 4 rfl rfl rfl rfl rfl ?_
        refine h_one 8 (by kernel_rfl) ?_
        refine h_store 8 tok rfl rfl rfl rfl (by repeat' first | exact trivial | exact rfl | apply And.intro) (.inr ⟨(by repeat (first | exact oN | refine oC rfl ?_)), rfl, (by first | exact Vw.le.refl _ | assumption)⟩) ?_
        refine h_one 9 (by kernel_rfl) ?_
        refine yH 9 rfl rfl rfl rfl rfl ?_
        refine h_one 10 (by kernel_rfl) ?_
        refine yH 10 rfl rfl rfl rfl rfl ?_
        refine h_done [1, 4, 5, 6, 7, 8, 9, 10, 11, 12, 13, 14] (by kernel_rfl) rfl ?_
        exact x_meet () trivial (by repeat (first | exact fN | refine fC rfl ?_)) (by repeat (first | exact oN | refine oC rfl ?_)) rfl (Vw.le.refl _)
      ·
       refine h_new 7 tok rfl rfl rfl rfl rfl rfl ?_
       refine h_two 4 6 (by kernel_rfl) ?_ ?_
       ·
        refine yH 4 rfl rfl rfl rfl rfl ?_
        refine h_two 6 8 (by kernel_rfl) ?_ ?_
        ·
         refine yH 6 rfl rfl rfl rfl rfl ?_
         refine h_one 8 (by kernel_rfl) ?_
         refine h_store 8 tok rfl rfl rfl rfl (by repeat' first | exact trivial | exact rfl | apply And.intro) (.inr ⟨(by repeat (first | exact oN | refine oC rfl ?_)), rfl, (by first | exact Vw.le.refl _ | assumption)⟩) ?_
         refine h_one 9 (by kernel_rfl) ?_
         refine yH 9 rfl rfl rfl rfl rfl ?_
         refine h_one 10 (by kernel_rfl) ?_
         refine yH 10 rfl rfl rfl rfl rfl ?_
         refine h_done [1, 4, 5, 6, 7, 8, 9, 10, 11, 12, 13, 14] (by kernel_rfl) rfl ?_
         exact x_meet () trivial (by repeat (first | exact fN | refine fC rfl ?_)) (by repeat (first | exact oN | refine oC rfl ?_)) rfl (Vw.le.refl _)
        ·
         refine h_store 8 tok rfl rfl rfl rfl (by repeat' first | exact trivial | exact rfl | apply And.intro) (.inr ⟨(by repeat (first | exact oN | refine oC rfl ?_)), rfl, (by first | exact Vw.le.refl _ | assumption)⟩) ?_
         refine h_two 6 9 (by kernel_rfl) ?_ ?_
         ·
          refine yH 6 rfl rfl rfl rfl rfl ?_
          refine h_one 9 (by kernel_rfl) ?_
          refine yH 9 rfl rfl rfl rfl rfl ?_
          refine h_one 10 (by kernel_rfl) ?_
          refine yH 10 rfl rfl rfl rfl rfl ?_
          refine h_done [1, 4, 5, 6, 7, 8, 9, 10, 11, 12, 13, 14] (by kernel_rfl) rfl ?_
          exact x_meet () trivial (by repeat (first | exact fN | refine fC rfl ?_)) (by repeat (first | exact oN | refine oC rfl ?_)) rfl (Vw.le.refl _)
         ·
          refine yH 9 rfl rfl rfl rfl rfl ?_
          refine h_one 6 (by kernel_rfl) ?_
          refine yH 6 rfl rfl rfl rfl rfl ?_
          refine h_one 10 (by kernel_rfl) ?_
          refine yH 10 rfl rfl rfl rfl rfl ?_
          refine h_done [1, 4, 5, 6, 7, 8, 9, 10, 11, 12, 13, 14] (by kernel_rfl) rfl ?_
          exact x_meet () trivial (by repeat (first | exact fN | refine fC rfl ?_)) (by repeat (first | exact oN | refine oC rfl ?_)) rfl (Vw.le.refl _)
       ·
        refine yH 6 rfl rfl rfl rfl rfl ?_
        refine h_one 4 (by kernel_rfl) ?_
        refine yH 4 rfl rfl rfl rfl rfl ?_
        refine h_one 8 (by kernel_rfl) ?_
        refine h_store 8 tok rfl rfl rfl rfl (by repeat' first | exact trivial | exact rfl | apply And.intro) (.inr ⟨(by repeat (first | exact oN | refine oC rfl ?_)), rfl, (by first | exact Vw.le.refl _ | assumption)⟩) ?_
        refine h_one 9 (by kernel_rfl) ?_
        refine yH 9 rfl rfl rfl rfl rfl ?_
        refine h_one 10 (by kernel_rfl) ?_
        refine yH 10 rfl rfl rfl rfl rfl ?_
        refine h_done [1, 4, 5, 6, 7, 8, 9, 10, 11, 12, 13, 14] (by kernel_rfl) rfl ?_
        exact x_meet () trivial (by repeat (first | exact fN | refine fC rfl ?_)) (by repeat (first | exact oN | refine oC rfl ?_)) rfl (Vw.le.refl _)
     ·
      refine yH 6 rfl rfl rfl rfl rfl ?_
      refine h_three 4 5 7 (by kernel_rfl) ?_ ?_ ?_
      ·
       refine yH 4 rfl rfl rfl rfl rfl ?_
       refine h_two 5 7 (by kernel_rfl) ?_ ?_
       ·
        refine yH 5 rfl rfl rfl rfl rfl ?_
        refine h_one 7 (by kernel_rfl) ?_
        refine h_new 7 tok rfl rfl rfl rfl rfl rfl ?_
        refine h_one 8 (by kernel_rfl) ?_
        refine h_store 8 tok rfl rfl rfl rfl (by repeat' first | exact trivial | exact rfl | apply And.intro) (.inr ⟨(by repeat (first | exact oN | refine oC rfl ?_)), rfl, (by first | exact Vw.le.refl _ | assumption)⟩) ?_
        refine h_one 9 (by kernel_rfl) ?_
        refine yH 9 rfl rfl rfl rfl rfl ?_
        refine h_one 10 (by kernel_rfl) ?_
        refine yH 10 rfl rfl rfl rfl rfl ?_
        refine h_done [1, 4, 5, 6, 7, 8, 9, 10, 11, 12, 13, 14] (by kernel_rfl) rfl ?_
        exact x_meet () trivial (by repeat (first | exact fN | refine fC rfl ?_)) (by repeat (first | exact oN | refine oC rfl ?_)) rfl (Vw.le.refl _)
       ·
        refine h_new 7 tok rfl rfl rfl rfl rfl rfl ?_
        refine h_two 5 8 (by kernel_rfl) ?_ ?_
        ·
         refine yH 5 rfl rfl rfl rfl rfl ?_
         refine h_one 8 (by kernel_rfl) ?_
         refine h_store 8 tok rfl rfl rfl rfl (by repeat' first | exact trivial | exact rfl | apply And.intro) (.inr ⟨(by repeat (first | exact oN | refine oC rfl ?_)), rfl, (by first | exact Vw.le.refl _ | assumption)⟩) ?_
         refine h_one 9 (by kernel_rfl) ?_
         refine yH 9 rfl rfl rfl rfl rfl ?_
         refine h_one 10 (by kernel_rfl) ?_
         refine yH 10 rfl rfl rfl rfl rfl ?_
         refine h_done [1, 4, 5, 6, 7, 8, 9, 10, 11, 12, 13, 14] (by kernel_rfl) rfl ?_
         exact x_meet () trivial (by repeat (first | exact fN | refine fC rfl ?_)) (by repeat (first | exact oN | refine oC rfl ?_)) rfl (Vw.le.refl _)
        ·
         refine h_store 8 tok rfl rfl rfl rfl (by repeat' first | exact trivial | exact rfl | apply And.intro) (.inr ⟨(by repeat (first | exact oN | refine oC rfl ?_)), rfl, (by first | exact Vw.le.refl _ | assumption)⟩) ?_
         refine h_one 5 (by kernel_rfl) ?_
         refine yH 5 rfl rfl rfl rfl rfl ?_
         refine h_one 9 (by kernel_rfl) ?_
         refine yH 9 rfl rfl rfl rfl rfl ?_
         refine h_one 10 (by kernel_rfl) ?_
         refine yH 10 rfl rfl rfl rfl rfl ?_
         refine h_done [1, 4, 5, 6, 7, 8, 9, 10, 11, 12, 13, 14] (by kernel_rfl) rfl ?_
         exact x_meet () trivial (by repeat (first | exact fN | refine fC rfl ?_)) (by repeat (first | exact oN | refine oC rfl ?_)) rfl (Vw.le.refl _)
      ·
       refine yH 5 rfl rfl rfl rfl rfl ?_
       refine h_two 4 7 (by kernel_rfl) ?_ ?_
       ·
        refine yH 4 rfl rfl rfl rfl rfl ?_
        refine h_one 7 (by kernel_rfl) ?_
        refine h_new 7 tok rfl rfl rfl rfl rfl rfl ?_
        refine h_one 8 (by kernel_rfl) ?_
        refine h_store 8 tok rfl rfl rfl rfl (by repeat' first | exact trivial | exact rfl | apply And.intro) (.inr ⟨(by repeat (first | exact oN | refine oC rfl ?_)), rfl, (by first | exact Vw.le.refl _ | assumption)⟩) ?_
        refine h_one 9 (by kernel_rfl) ?_
        refine yH 9 rfl rfl rfl rfl rfl ?_
        refine h_one 10 (by kernel_rfl) ?_
        refine yH 10 rfl rfl rfl rfl rfl ?_
        refine h_done [1, 4, 5, 6, 7, 8, 9, 10, 11, 12, 13, 14] (by kernel_rfl) rfl ?_
        exact x_meet () trivial (by repeat (first | exact fN | refine fC rfl ?_)) (by repeat (first | exact oN | refine oC rfl ?_)) rfl (Vw.le.refl _)
       ·
        refine h_new 7 tok rfl rfl rfl rfl rfl rfl ?_
        refine h_one 4 (by kernel_rfl) ?_
        refine yH 4 rfl rfl rfl rfl rfl ?_
        refine h_one 8 (by kernel_rfl) ?_
        refine h_store 8 tok rfl rfl rfl rfl (by repeat' first | exact trivial | exact rfl | apply And.intro) (.inr ⟨(by repeat (first | exact oN | refine oC rfl ?_)), rfl, (by first | exact Vw.le.refl _ | assumption)⟩) ?_
        refine h_one 9 (by kernel_rfl) ?_
        refine yH 9 rfl rfl rfl rfl rfl ?_
        refine h_one 10 (by kernel_rfl) ?_
        refine yH 10 rfl rfl rfl rfl rfl ?_
        refine h_done [1, 4, 5, 6, 7, 8, 9, 10, 11, 12, 13, 14] (by kernel_rfl) rfl ?_
        exact x_meet () trivial (by repeat (first | exact fN | refine fC rfl ?_)) (by repeat (first | exact oN | refine oC rfl ?_)) rfl (Vw.le.refl _)
      ·
       refine h_new 7 tok rfl rfl rfl rfl rfl rfl ?_
       refine h_two 4 5 (by kernel_rfl) ?_ ?_
       ·
        refine yH 4 rfl rfl rfl rfl rfl ?_
        refine h_two 5 8 (by kernel_rfl) ?_ ?_
        ·
         refine yH 5 rfl rfl rfl rfl rfl ?_
         refine h_one 8 (by kernel_rfl) ?_
         refine h_store 8 tok rfl rfl rfl rfl (by repeat' first | exact trivial | exact rfl | apply And.intro) (.inr ⟨(by repeat (first | exact oN | refine oC rfl ?_)), rfl, (by first | exact Vw.le.refl _ | assumption)⟩) ?_
         refine h_one 9 (by kernel_rfl) ?_
         refine yH 9 rfl rfl rfl rfl rfl ?_
         refine h_one 10 (by kernel_rfl) ?_
         refine yH 10 rfl rfl rfl rfl rfl ?_
         refine h_done [1, 4, 5, 6, 7, 8, 9, 10, 11, 12, 13, 14] (by kernel_rfl) rfl ?_
         exact x_meet () trivial (by repeat (first | exact fN | refine fC rfl ?_)) (by repeat (first | exact oN | refine oC rfl ?_)) rfl (Vw.le.refl _)
        ·
         refine h_store 8 tok rfl rfl rfl rfl (by repeat' first | exact trivial | exact rfl | apply And.intro) (.inr ⟨(by repeat (first | exact oN | refine oC rfl ?_)), rfl, (by first | exact Vw.le.refl _ | assumption)⟩) ?_
         refine h_one 5 (by kernel_rfl) ?_
         refine yH 5 rfl rfl rfl rfl rfl ?_
         refine h_one 9 (by kernel_rfl) ?_
         refine yH 9 rfl rfl rfl rfl rfl ?_
         refine h_one 10 (by kernel_rfl) ?_
         refine yH 10 rfl rfl rfl rfl rfl ?_
         refine h_done [1, 4, 5, 6, 7, 8, 9, 10, 11, 12, 13, 14] (by kernel_rfl) rfl ?_
         exact x_meet () trivial (by repeat (first | exact fN | refine fC rfl ?_)) (by repeat (first | exact oN | refine oC rfl ?_)) rfl (Vw.le.refl _)
       ·
        refine yH 5 rfl rfl rfl rfl rfl ?_
        refine h_one 4 (by kernel_rfl) ?_
        refine yH 4 rfl rfl rfl rfl rfl ?_
        refine h_one 8 (by kernel_rfl) ?_
        refine h_store 8 tok rfl rfl rfl rfl (by repeat' first | exact trivial | exact rfl | apply And.intro) (.inr ⟨(by repeat (first | exact oN | refine oC rfl ?_)), rfl, (by first | exact Vw.le.refl _ | assumption)⟩) ?_
        refine h_one 9 (by kernel_rfl) ?_
        refine yH 9 rfl rfl rfl rfl rfl ?_
        refine h_one 10 (by kernel_rfl) ?_
        refine yH 10 rfl rfl rfl rfl rfl ?_
        refine h_done [1, 4, 5, 6, 7, 8, 9, 10, 11, 12, 13, 14] (by kernel_rfl) rfl ?_
        exact x_meet () trivial (by repeat (first | exact fN | refine fC rfl ?_)) (by repeat (first | exact oN | refine oC rfl ?_)) rfl (Vw.le.refl _)
     ·
      refine h_new 7 tok rfl rfl rfl rfl rfl rfl ?_
      refine h_three 4 5 6 (by kernel_rfl) ?_ ?_ ?_
      ·
       refine yH 4 rfl rfl rfl rfl rfl ?_
       refine h_three 5 6 8 (by kernel_rfl) ?_ ?_ ?_
       ·
        refine yH 5 rfl rfl rfl rfl rfl ?_
        refine h_two 6 8 (by kernel_rfl) ?_ ?_
        ·
         refine yH 6 rfl rfl rfl rfl rfl ?_
         refine h_one 8 (by kernel_rfl) ?_
         refine h_store 8 tok rfl rfl rfl rfl (by repeat' first | exact trivial | exact rfl | apply And.intro) (.inr ⟨(by repeat (first | exact oN | refine oC rfl ?_)), rfl, (by first | exact Vw.le.refl _ | assumption)⟩) ?_
         refine h_one 9 (by kernel_rfl) ?_
         refine yH 9 rfl rfl rfl rfl rfl ?_
         refine h_one 10 (by kernel_rfl) ?_
         refine yH 10 rfl rfl rfl rfl rfl ?_
         refine h_done [1, 4, 5, 6, 7, 8, 9, 10, 11, 12, 13, 14] (by kernel_rfl) rfl ?_
         exact x_meet () trivial (by repeat (first | exact fN | refine fC rfl ?_)) (by repeat (first | exact oN | refine oC rfl ?_)) rfl (Vw.le.refl _)
        ·
         refine h_store 8 tok rfl rfl rfl rfl (by repeat' first | exact trivial | exact rfl | apply And.intro) (.inr ⟨(by repeat (first | exact oN | refine oC rfl ?_)), rfl, (by first | exact Vw.le.refl _ | assumption)⟩) ?_
         refine h_two 6 9 (by kernel_rfl) ?_ ?_
         ·
          refine yH 6 rfl rfl rfl rfl rfl ?_
          refine h_one 9 (by kernel_rfl) ?_
          refine yH 9 rfl rfl rfl rfl rfl ?_
          refine h_one 10 (by kernel_rfl) ?_
          refine yH 10 rfl rfl rfl rfl rfl ?_
          refine h_done [1, 4, 5, 6, 7, 8, 9, 10, 11, 12, 13, 14] (by kernel_rfl) rfl ?_
          exact x_meet () trivial (by repeat (first | exact fN | refine fC rfl ?_)) (by repeat (first | exact oN | refine oC rfl ?_)) rfl (Vw.le.refl _)
         ·
          refine yH 9 rfl rfl rfl rfl rfl ?_
          refine h_one 6 (by kernel_rfl) ?_
          refine yH 6 rfl rfl rfl rfl rfl ?_
          refine h_one 10 (by kernel_rfl) ?_
          refine yH 10 rfl rfl rfl rfl rfl ?_
          refine h_done [1, 4, 5, 6, 7, 8, 9, 10, 11, 12, 13, 14] (by kernel_rfl) rfl ?_
          exact x_meet () trivial (by repeat (first | exact fN | refine fC rfl ?_)) (by repeat (first | exact oN | refine oC rfl ?_)) rfl (Vw.le.refl _)
       ·
        refine yH 6 rfl rfl rfl rfl rfl ?_
        refine h_two 5 8 (by kernel_rfl) ?_ ?_
        ·
         refine yH 5 rfl rfl rfl rfl rfl ?_
         refine h_one 8 (by kernel_rfl) ?_
         refine h_store 8 tok rfl rfl rfl rfl (by repeat' first | exact trivial | exact rfl | apply And.intro) (.inr ⟨(by repeat (first | exact oN | refine oC rfl ?_)), rfl, (by first | exact Vw.le.refl _ | assumption)⟩) ?_
         refine h_one 9 (by kernel_rfl) ?_
         refine yH 9 rfl rfl rfl rfl rfl ?_
         refine h_one 10 (by kernel_rfl) ?_
         refine yH 10 rfl rfl rfl rfl rfl ?_
         refine h_done [1, 4, 5, 6, 7, 8, 9, 10, 11, 12, 13, 14] (by kernel_rfl) rfl ?_
         exact x_meet () trivial (by repeat (first | exact fN | refine fC rfl ?_)) (by repeat (first | exact oN | refine oC rfl ?_)) rfl (Vw.le.refl _)
        ·
         refine h_store 8 tok rfl rfl rfl rfl (by repeat' first | exact trivial | exact rfl | apply And.intro) (.inr ⟨(by repeat (first | exact oN | refine oC rfl ?_)), rfl, (by first | exact Vw.le.refl _ | assumption)⟩) ?_
         refine h_one 5 (by kernel_rfl) ?_
         refine yH 5 rfl rfl rfl rfl rfl ?_
         refine h_one 9 (by kernel_rfl) ?_
         refine yH 9 rfl rfl rfl rfl rfl ?_
         refine h_one 10 (by kernel_rfl) ?_
         refine yH 10 rfl rfl rfl rfl rfl ?_
         refine h_done [1, 4, 5, 6, 7, 8, 9, 10, 11, 12, 13, 14] (by kernel_rfl) rfl ?_
         exact x_meet () trivial (by repeat (first | exact fN | refine fC rfl ?_)) (by repeat (first | exact oN | refine oC rfl ?_)) rfl (Vw.le.refl _)
       ·
        refine h_store 8 tok rfl rfl rfl rfl (by repeat' first | exact trivial | exact rfl | apply And.intro) (.inr ⟨(by repeat (first | exact oN | refine oC rfl ?_)), rfl, (by first | exact Vw.le.refl _ | assumption)⟩) ?_
        refine h_two 5 6 (by kernel_rfl) ?_ ?_
        ·
         refine yH 5 rfl rfl rfl rfl rfl ?_
         refine h_two 6 9 (by kernel_rfl) ?_ ?_
         ·
          refine yH 6 rfl rfl rfl rfl rfl ?_
          refine h_one 9 (by kernel_rfl) ?_
          refine yH 9 rfl rfl rfl rfl rfl ?_
          refine h_one 10 (by kernel_rfl) ?_
          refine yH 10 rfl rfl rfl rfl rfl ?_
          refine h_done [1, 4, 5, 6, 7, 8, 9, 10, 11, 12, 13, 14] (by kernel_rfl) rfl ?_
          exact x_meet () trivial (by repeat (first | exact fN | refine fC rfl ?_)) (by repeat (first | exact oN | refine oC rfl ?_)) rfl (Vw.le.refl _)
         ·
          refine yH 9 rfl rfl rfl rfl rfl ?_
          refine h_one 6 (by kernel_rfl) ?_
          refine yH 6 rfl rfl rfl rfl rfl ?_
          refine h_one 10 (by kernel_rfl) ?_
          refine yH 10 rfl rfl rfl rfl rfl ?_
          refine h_done [1, 4, 5, 6, 7, 8, 9, 10, 11, 12, 13, 14] (by kernel_rfl) rfl ?_
          exact x_meet () trivial (by repeat (first | exact fN | refine fC rfl ?_)) (by repeat (first | exact oN | refine oC rfl ?_)) rfl (Vw.le.refl _)
        ·
         refine yH 6 rfl rfl rfl rfl rfl ?_
         refine h_one 5 (by kernel_rfl) ?_
         refine yH 5 rfl rfl rfl rfl rfl ?_
         refine h_one 9 (by kernel_rfl) ?_
         refine yH 9 rfl rfl rfl rfl rfl ?_
         refine h_one 10 (by kernel_rfl) ?_
         refine yH 10 rfl rfl rfl rfl rfl ?_
         refine h_done [1, 4, 5, 6, 7, 8, 9, 10, 11, 12, 13, 14] (by kernel_rfl) rfl ?_
         exact x_meet () trivial (by repeat (first | exact fN | refine fC rfl ?_)) (by repeat (first | exact oN | refine oC rfl ?_)) rfl (Vw.le.refl _)
      ·
       refine yH 5 rfl rfl rfl rfl rfl ?_
       refine h_two 4 6 (by kernel_rfl) ?_ ?_
       ·
        refine yH 4 rfl rfl rfl rfl rfl ?_
        refine h_two 6 8 (by kernel_rfl) ?_ ?_
        ·
         refine yH 6 rfl rfl rfl rfl rfl ?_
         refine h_one 8 (by kernel_rfl) ?_
         refine h_store 8 tok rfl rfl rfl rfl (by repeat' first | exact trivial | exact rfl | apply And.intro) (.inr ⟨(by repeat (first | exact oN | refine oC rfl ?_)), rfl, (by first | exact Vw.le.refl _ | assumption)⟩) ?_
         refine h_one 9 (by kernel_rfl) ?_
         refine yH 9 rfl rfl rfl rfl rfl ?_
         refine h_one 10 (by kernel_rfl) ?_
         refine yH 10 rfl rfl rfl rfl rfl ?_
         refine h_done [1, 4, 5, 6, 7, 8, 9, 10, 11, 12, 13, 14] (by kernel_rfl) rfl ?_
         exact x_meet () trivial (by repeat (first | exact fN | refine fC rfl ?_)) (by repeat (first | exact oN | refine oC rfl ?_)) rfl (Vw.le.refl _)
        ·
         refine h_store 8 tok rfl rfl rfl rfl (by repeat' first | exact trivial | exact rfl | apply And.intro) (.inr ⟨(by repeat (first | exact oN | refine oC rfl ?_)), rfl, (by first | exact Vw.le.refl _ | assumption)⟩) ?_
         refine h_two 6 9 (by kernel_rfl) ?_ ?_
         ·
          refine yH 6 rfl rfl rfl rfl rfl ?_
          refine h_one 9 (by kernel_rfl) ?_
          refine yH 9 rfl rfl rfl rfl rfl ?_
          refine h_one 10 (by kernel_rfl) ?_
          refine yH 10 rfl rfl rfl rfl rfl ?_
          refine h_done [1, 4, 5, 6, 7, 8, 9, 10, 11, 12, 13, 14] (by kernel_rfl) rfl ?_
          exact x_meet () trivial (by repeat (first | exact fN | refine fC rfl ?_)) (by repeat (first | exact oN | refine oC rfl ?_)) rfl (Vw.le.refl _)
         ·
          refine yH 9 rfl rfl rfl rfl rfl ?_
          refine h_one 6 (by kernel_rfl) ?_
          refine yH 6 rfl rfl rfl rfl rfl ?_
          refine h_one 10 (by kernel_rfl) ?_
          refine yH 10 rfl rfl rfl rfl rfl ?_
          refine h_done [1, 4, 5, 6, 7, 8, 9, 10, 11, 12, 13, 14] (by kernel_rfl) rfl ?_
          exact x_meet () trivial (by repeat (first | exact fN | refine fC rfl ?_)) (by repeat (first | exact oN | refine oC rfl ?_)) rfl (Vw.le.refl _)
       ·
        refine yH 6 rfl rfl rfl rfl rfl ?_
        refine h_one 4 (by kernel_rfl) ?_
        refine yH 4 rfl rfl rfl rfl rfl ?_
        refine h_one 8 (by kernel_rfl) ?_
        refine h_store 8 tok rfl rfl rfl rfl (by repeat' first | exact trivial | exact rfl | apply And.intro) (.inr ⟨(by repeat (first | exact oN | refine oC rfl ?_)), rfl, (by first | exact Vw.le.refl _ | assumption)⟩) ?_
        refine h_one 9 (by kernel_rfl) ?_
        refine yH 9 rfl rfl rfl rfl rfl ?_
        refine h_one 10 (by kernel_rfl) ?_
        refine yH 10 rfl rfl rfl rfl rfl ?_
        refine h_done [1, 4, 5, 6, 7, 8, 9, 10, 11, 12, 13, 14] (by kernel_rfl) rfl ?_
        exact x_meet () trivial (by repeat (first | exact fN | refine fC rfl ?_)) (by repeat (first | exact oN | refine oC rfl ?_)) rfl (Vw.le.refl _)
      ·
       refine yH 6 rfl rfl rfl rfl rfl ?_
       refine h_two 4 5 (by kernel_rfl) ?_ ?_
       ·
        refine yH 4 rfl rfl rfl rfl rfl ?_
        refine h_two 5 8 (by kernel_rfl) ?_ ?_
        ·
         refine yH 5 rfl rfl rfl rfl rfl ?_
         refine h_one 8 (by kernel_rfl) ?_
         refine h_store 8 tok rfl rfl rfl rfl (by repeat' first | exact trivial | exact rfl | apply And.intro) (.inr ⟨(by repeat (first | exact oN | refine oC rfl ?_)), rfl, (by first | exact Vw.le.refl _ | assumption)⟩) ?_
         refine h_one 9 (by kernel_rfl) ?_
         refine yH 9 rfl rfl rfl rfl rfl ?_
         refine h_one 10 (by kernel_rfl) ?_
         refine yH 10 rfl rfl rfl rfl rfl ?_
         refine h_done [1, 4, 5, 6, 7, 8, 9, 10, 11, 12, 13, 14] (by kernel_rfl) rfl ?_
         exact x_meet () trivial (by repeat (first | exact fN | refine fC rfl ?_)) (by repeat (first | exact oN | refine oC rfl ?_)) rfl (Vw.le.refl _)
        ·
         refine h_store 8 tok rfl rfl rfl rfl (by repeat' first | exact trivial | exact rfl | apply And.intro) (.inr ⟨(by repeat (first | exact oN | refine oC rfl ?_)), rfl, (by first | exact Vw.le.refl _ | assumption)⟩) ?_
         refine h_one 5 (by kernel_rfl) ?_
         refine yH 5 rfl rfl rfl rfl rfl ?_
         refine h_one 9 (by kernel_rfl) ?_
         refine yH 9 rfl rfl rfl rfl rfl ?_
         refine h_one 10 (by kernel_rfl) ?_
         refine yH 10 rfl rfl rfl rfl rfl ?_
         refine h_done [1, 4, 5, 6, 7, 8, 9, 10, 11, 12, 13, 14] (by kernel_rfl) rfl ?_
         exact x_meet () trivial (by repeat (first | exact fN | refine fC rfl ?_)) (by repeat (first | exact oN | refine oC rfl ?_)) rfl (Vw.le.refl _)
       ·
        refine yH 5 rfl rfl rfl rfl rfl ?_
        refine h_one 4 (by kernel_rfl) ?_
        refine yH 4 rfl rfl rfl rfl rfl ?_
        refine h_one 8 (by kernel_rfl) ?_
        refine h_store 8 tok rfl rfl rfl rfl (by repeat' first | exact trivial | exact rfl | apply And.intro) (.inr ⟨(by repeat (first | exact oN | refine oC rfl ?_)), rfl, (by first | exact Vw.le.refl _ | assumption)⟩) ?_
        refine h_one 9 (by kernel_rfl) ?_
        refine yH 9 rfl rfl rfl rfl rfl ?_
        refine h_one 10 (by kernel_rfl) ?_
        refine yH 10 rfl rfl rfl rfl rfl ?_
        refine h_done [1, 4, 5, 6, 7, 8, 9, 10, 11, 12, 13, 14] (by kernel_rfl) rfl ?_
        exact x_meet () trivial (by repeat (first | exact fN | refine fC rfl ?_)) (by repeat (first | exact oN | refine oC rfl ?_)) rfl (Vw.le.refl _)
    ·
     refine h_new 7 tok rfl rfl rfl rfl rfl rfl ?_
     refine h_one 3 (by kernel_rfl) ?_
     refine yH 3 rfl rfl rfl rfl rfl ?_
     refine h_three 4 5 6 (by kernel_rfl) ?_ ?_ ?_
     ·
      refine yH 4 rfl rfl rfl rfl rfl ?_
      refine h_three 5 6 8 (by kernel_rfl) ?_ ?_ ?_
      ·
       refine yH 5 rfl rfl rfl rfl rfl ?_
       refine h_two 6 8 (by kernel_rfl) ?_ ?_
       ·
        refine yH 6 rfl rfl rfl rfl rfl ?_
        refine h_one 8 (by kernel_rfl) ?_
        refine h_store 8 tok rfl rfl rfl rfl (by repeat' first | exact trivial | exact rfl | apply And.intro) (.inr ⟨(by repeat (first | exact oN | refine oC rfl ?_)), rfl, (by first | exact Vw.le.refl _ | assumption)⟩) ?_
        refine h_one 9 (by kernel_rfl) ?_
        refine yH 9 rfl rfl rfl rfl rfl ?_
        refine h_one 10 (by kernel_rfl) ?_
        refine yH 10 rfl rfl rfl rfl rfl ?_
        refine h_done [1, 4, 5, 6, 7, 8, 9, 10, 11, 12, 13, 14] (by kernel_rfl) rfl ?_
        exact x_meet () trivial (by repeat (first | exact fN | refine fC rfl ?_)) (by repeat (first | exact oN | refine oC rfl ?_)) rfl (Vw.le.refl _)
       ·
        refine h_store 8 tok rfl rfl rfl rfl (by repeat' first | exact trivial | exact rfl | apply And.intro) (.inr ⟨(by repeat (first | exact oN | refine oC rfl ?_)), rfl, (by first | exact Vw.le.refl _ | assumption)⟩) ?_
        refine h_two 6 9 (by kernel_rfl) ?_ ?_
        ·
         refine yH 6 rfl rfl rfl rfl rfl ?_
         refine h_one 9 (by kernel_rfl) ?_
         refine yH 9 rfl rfl rfl rfl rfl ?_
         refine h_one 10 (by kernel_rfl) ?_
         refine yH 10 rfl rfl rfl rfl rfl ?_
         refine h_done [1, 4, 5, 6, 7, 8, 9, 10, 11, 12, 13, 14] (by kernel_rfl) rfl ?_
         exact x_meet () trivial (by repeat (first | exact fN | refine fC rfl ?_)) (by repeat (first | exact oN | refine oC rfl ?_)) rfl (Vw.le.refl _)
        ·
         refine yH 9 rfl rfl rfl rfl rfl ?_
         refine h_one 6 (by kernel_rfl) ?_
         refine yH 6 rfl rfl rfl rfl rfl ?_
         refine h_one 10 (by kernel_rfl) ?_
         refine yH 10 rfl rfl rfl rfl rfl ?_
         refine h_done [1, 4, 5, 6, 7, 8, 9, 10, 11, 12, 13, 14] (by kernel_rfl) rfl ?_
         exact x_meet () trivial (by repeat (first | exact fN | refine fC rfl ?_)) (by repeat (first | exact oN | refine oC rfl ?_)) rfl (Vw.le.refl _)
      ·
       refine yH 6 rfl rfl rfl rfl rfl ?_
       refine h_two 5 8 (by kernel_rfl) ?_ ?_
       ·
        refine yH 5 rfl rfl rfl rfl rfl ?_
        refine h_one 8 (by kernel_rfl) ?_
        refine h_store 8 tok rfl rfl rfl rfl (by repeat' first | exact trivial | exact rfl | apply And.intro) (.inr ⟨(by repeat (first | exact oN | refine oC rfl ?_)), rfl, (by first | exact Vw.le.refl _ | assumption)⟩) ?_
        refine h_one 9 (by kernel_rfl) ?_
        refine yH 9 rfl rfl rfl rfl rfl ?_
        refine h_one 10 (by kernel_rfl) ?_
        refine yH 10 rfl rfl rfl rfl rfl ?_
        refine h_done [1, 4, 5, 6, 7, 8, 9, 10, 11, 12, 13, 14] (by kernel_rfl) rfl ?_
        exact x_meet () trivial (by repeat (first | exact fN | refine fC rfl ?_)) (by repeat (first | exact oN | refine oC rfl ?_)) rfl (Vw.le.refl _)
       ·
        refine h_store 8 tok rfl rfl rfl rfl (by repeat' first | exact trivial | exact rfl | apply And.intro) (.inr ⟨(by repeat (first | exact oN | refine oC rfl ?_)), rfl, (by first | exact Vw.le.refl _ | assumption)⟩) ?_
        refine h_one 5 (by kernel_rfl) ?_
        refine yH 5 rfl rfl rfl rfl rfl ?_
        refine h_one 9 (by kernel_rfl) ?_
        refine yH 9 rfl rfl rfl rfl rfl ?_
        refine h_one 10 (by kernel_rfl) ?_
        refine yH 10 rfl rfl rfl rfl rfl ?_
        refine h_done [1, 4, 5, 6, 7, 8, 9, 10, 11, 12, 13, 14] (by kernel_rfl) rfl ?_
        exact x_meet () trivial (by repeat (first | exact fN | refine fC rfl ?_)) (by repeat (first | exact oN | refine oC rfl ?_)) rfl (Vw.le.refl _)
      ·
       refine h_store 8 tok rfl rfl rfl rfl (by repeat' first | exact trivial | exact rfl | apply And.intro) (.inr ⟨(by repeat (first | exact oN | refine oC rfl ?_)), rfl, (by first | exact Vw.le.refl _ | assumption)⟩) ?_
       refine h_two 5 6 (by kernel_rfl) ?_ ?_
       ·
        refine yH 5 rfl rfl rfl rfl rfl ?_
        refine h_two 6 9 (by kernel_rfl) ?_ ?_
        ·
         refine yH 6 rfl rfl rfl rfl rfl ?_
         refine h_one 9 (by kernel_rfl) ?_
         refine yH 9 rfl rfl rfl rfl rfl ?_
         refine h_one 10 (by kernel_rfl) ?_
         refine yH 10 rfl rfl rfl rfl rfl ?_
         refine h_done [1, 4, 5, 6, 7, 8, 9, 10, 11, 12, 13, 14] (by kernel_rfl) rfl ?_
         exact x_meet () trivial (by repeat (first | exact fN | refine fC rfl ?_)) (by repeat (first | exact oN | refine oC rfl ?_)) rfl (Vw.le.refl _)
        ·
         refine yH 9 rfl rfl rfl rfl rfl ?_
         refine h_one 6 (by kernel_rfl) ?_
         refine yH 6 rfl rfl rfl rfl rfl ?_
         refine h_one 10 (by kernel_rfl) ?_
         refine yH 10 rfl rfl rfl rfl rfl ?_
         refine h_done [1, 4, 5, 6, 7, 8, 9, 10, 11, 12, 13, 14] (by kernel_rfl) rfl ?_
         exact x_meet () trivial (by repeat (first | exact fN | refine fC rfl ?_)) (by repeat (first | exact oN | refine oC rfl ?_)) rfl (Vw.le.refl _)
       ·
        refine yH 6 rfl rfl rfl rfl rfl ?_
        refine h_one 5 (by kernel_rfl) ?_
        refine yH 5 rfl rfl rfl rfl rfl ?_
        refine h_one 9 (by kernel_rfl) ?_
        refine yH 9 rfl rfl rfl rfl rfl ?_
        refine h_one 10 (by kernel_rfl) ?_
        refine yH 10 rfl rfl rfl rfl rfl ?_
        refine h_done [1, 4, 5, 6, 7, 8, 9, 10, 11, 12, 13, 14] (by kernel_rfl) rfl ?_
        exact x_meet () trivial (by repeat (first | exact fN | refine fC rfl ?_)) (by repeat (first | exact oN | refine oC rfl ?_)) rfl (Vw.le.refl _)
     ·
      refine yH 5 rfl rfl rfl rfl rfl ?_
      refine h_two 4 6 (by kernel_rfl) ?_ ?_
      ·
       refine yH 4 rfl rfl rfl rfl rfl ?_
       refine h_two 6 8 (by kernel_rfl) ?_ ?_
       ·
        refine yH 6 rfl rfl rfl rfl rfl ?_
        refine h_one 8 (by kernel_rfl) ?_
        refine h_store 8 tok rfl rfl rfl rfl (by repeat' first | exact trivial | exact rfl | apply And.intro) (.inr ⟨(by repeat (first | exact oN | refine oC rfl ?_)), rfl, (by first | exact Vw.le.refl _ | assumption)⟩) ?_
        refine h_one 9 (by kernel_rfl) ?_
        refine yH 9 rfl rfl rfl rfl rfl ?_
        refine h_one 10 (by kernel_rfl) ?_
        refine yH 10 rfl rfl rfl rfl rfl ?_
        refine h_done [1, 4, 5, 6, 7, 8, 9, 10, 11, 12, 13, 14] (by kernel_rfl) rfl ?_
        exact x_meet () trivial (by repeat (first | exact fN | refine fC rfl ?_)) (by repeat (first | exact oN | refine oC rfl ?_)) rfl (Vw.le.refl _)
       ·
        refine h_store 8 tok rfl rfl rfl rfl (by repeat' first | exact trivial | exact rfl | apply And.intro) (.inr ⟨(by repeat (first | exact oN | refine oC rfl ?_)), rfl, (by first | exact Vw.le.refl _ | assumption)⟩) ?_
        refine h_two 6 9 (by kernel_rfl) ?_ ?_
        ·
         refine yH 6 rfl rfl rfl rfl rfl ?_
         refine h_one 9 (by kernel_rfl) ?_
         refine yH 9 rfl rfl rfl rfl rfl ?_
         refine h_one 10 (by kernel_rfl) ?_
         refine yH 10 rfl rfl rfl rfl rfl ?_
         refine h_done [1, 4, 5, 6, 7, 8, 9, 10, 11, 12, 13, 14] (by kernel_rfl) rfl ?_
         exact x_meet () trivial (by repeat (first | exact fN | refine fC rfl ?_)) (by repeat (first | exact oN | refine oC rfl ?_)) rfl (Vw.le.refl _)
        ·
         refine yH 9 rfl rfl rfl rfl rfl ?_
         refine h_one 6 (by kernel_rfl) ?_
         refine yH 6 rfl rfl rfl rfl rfl ?_
         refine h_one 10 (by kernel_rfl) ?_
         refine yH 10 rfl rfl rfl rfl rfl ?_
         refine h_done [1, 4, 5, 6, 7, 8, 9, 10, 11, 12, 13, 14] (by kernel_rfl) rfl ?_
         exact x_meet () trivial (by repeat (first | exact fN | refine fC rfl ?_)) (by repeat (first | exact oN | refine oC rfl ?_)) rfl (Vw.le.refl _)
      ·
       refine yH 6 rfl rfl rfl rfl rfl ?_
       refine h_one 4 (by kernel_rfl) ?_
       refine yH 4 rfl rfl rfl rfl rfl ?_
       refine h_one 8 (by kernel_rfl) ?_
       refine h_store 8 tok rfl rfl rfl rfl (by repeat' first | exact trivial | exact rfl | apply And.intro) (.inr ⟨(by repeat (first | exact oN | refine oC rfl ?_)), rfl, (by first | exact Vw.le.refl _ | assumption)⟩) ?_
       refine h_one 9 (by kernel_rfl) ?_
       refine yH 9 rfl rfl rfl rfl rfl ?_
       refine h_one 10 (by kernel_rfl) ?_
       refine yH 10 rfl rfl rfl rfl rfl ?_
       refine h_done [1, 4, 5, 6, 7, 8, 9, 10, 11, 12, 13, 14] (by kernel_rfl) rfl ?_
       exact x_meet () trivial (by repeat (first | exact fN | refine fC rfl ?_)) (by repeat (first | exact oN | refine oC rfl ?_)) rfl (Vw.le.refl _)
     ·
      refine yH 6 rfl rfl rfl rfl rfl ?_
      refine h_two 4 5 (by kernel_rfl) ?_ ?_
      ·
       refine yH 4 rfl rfl rfl rfl rfl ?_
       refine h_two 5 8 (by kernel_rfl) ?_ ?_
       ·
        refine yH 5 rfl rfl rfl rfl rfl ?_
        refine h_one 8 (by kernel_rfl) ?_
        refine h_store 8 tok rfl rfl rfl rfl (by repeat' first | exact trivial | exact rfl | apply And.intro) (.inr ⟨(by repeat (first | exact oN | refine oC rfl ?_)), rfl, (by first | exact Vw.le.refl _ | assumption)⟩) ?_
        refine h_one 9 (by kernel_rfl) ?_
        refine yH 9 rfl rfl rfl rfl rfl ?_
        refine h_one 10 (by kernel_rfl) ?_
        refine yH 10 rfl rfl rfl rfl rfl ?_
        refine h_done [1, 4, 5, 6, 7, 8, 9, 10, 11, 12, 13, 14] (by kernel_rfl) rfl ?_
        exact x_meet () trivial (by repeat (first | exact fN | refine fC rfl ?_)) (by repeat (first | exact oN | refine oC rfl ?_)) rfl (Vw.le.refl _)
       ·
        refine h_store 8 tok rfl rfl rfl rfl (by repeat' first | exact trivial | exact rfl | apply And.intro) (.inr ⟨(by repeat (first | exact oN | refine oC rfl ?_)), rfl, (by first | exact Vw.le.refl _ | assumption)⟩) ?_
        refine h_one 5 (by kernel_rfl) ?_
        refine yH 5 rfl rfl rfl rfl rfl ?_
        refine h_one 9 (by kernel_rfl) ?_
        refine yH 9 rfl rfl rfl rfl rfl ?_
        refine h_one 10 (by kernel_rfl) ?_
        refine yH 10 rfl rfl rfl rfl rfl ?_
        refine h_done [1, 4, 5, 6, 7, 8, 9, 10, 11, 12, 13, 14] (by kernel_rfl) rfl ?_
        exact x_meet () trivial (by repeat (first | exact fN | refine fC rfl ?_)) (by repeat (first | exact oN | refine oC rfl ?_)) rfl (Vw.le.refl _)
      ·
       refine yH 5 rfl rfl rfl rfl rfl ?_
       refine h_one 4 (by kernel_rfl) ?_
       refine yH 4 rfl rfl rfl rfl rfl ?_
       refine h_one 8 (by kernel_rfl) ?_
       refine h_store 8 tok rfl rfl rfl rfl (by repeat' first | exact trivial | exact rfl | apply And.intro) (.inr ⟨(by repeat (first | exact oN | refine oC rfl ?_)), rfl, (by first | exact Vw.le.refl _ | assumption)⟩) ?_
       refine h_one 9 (by kernel_rfl) ?_
       refine yH 9 rfl rfl rfl rfl rfl ?_
       refine h_one 10 (by kernel_rfl) ?_
       refine yH 10 rfl rfl rfl rfl rfl ?_
       refine h_done [1, 4, 5, 6, 7, 8, 9, 10, 11, 12, 13, 14] (by kernel_rfl) rfl ?_
       exact x_meet () trivial (by repeat (first | exact fN | refine fC rfl ?_)) (by repeat (first | exact oN | refine oC rfl ?_)) rfl (Vw.le.refl _)
   ·
    refine h_new 7 tok rfl rfl rfl rfl rfl rfl ?_
    refine h_one 2 (by kernel_rfl) ?_
    refine h_call 2 (.a (.v (.tuple #[rpV 0 16 4 7 (.slice ra rn rc) (.slice none 0 0) 0 7, .bool true, I 0]))) rfl rfl rfl fnok24 rfl rfl rfl (fun hg E w1 hm => by exact rpTake3_c geo21 geo21_ok 0 16 7 _ _ _ _ _ _ 0 7 _ _) ?_
    refine h_one 3 (by kernel_rfl) ?_
    refine yH 3 rfl rfl rfl rfl rfl ?_
    refine h_three 4 5 6 (by kernel_rfl) ?_ ?_ ?_
    ·
     refine yH 4 rfl rfl rfl rfl rfl ?_
     refine h_three 5 6 8 (by kernel_rfl) ?_ ?_ ?_
     ·
      refine yH 5 rfl rfl rfl rfl rfl ?_
      refine h_two 6 8 (by kernel_rfl) ?_ ?_
      ·
       refine yH 6 rfl rfl rfl rfl rfl ?_
       refine h_one 8 (by kernel_rfl) ?_
       refine h_store 8 tok rfl rfl rfl rfl (by repeat' first | exact trivial | exact rfl | apply And.intro) (.inr ⟨(by repeat (first | exact oN | refine oC rfl ?_)), rfl, (by first | exact Vw.le.refl _ | assumption)⟩) ?_
       refine h_one 9 (by kernel_rfl) ?_
       refine yH 9 rfl rfl rfl rfl rfl ?_
       refine h_one 10 (by kernel_rfl) ?_
       refine yH 10 rfl rfl rfl rfl rfl ?_
       refine h_done [1, 4, 5, 6, 7, 8, 9, 10, 11, 12, 13, 14] (by kernel_rfl) rfl ?_
       exact x_meet () trivial (by repeat (first | exact fN | refine fC rfl ?_)) (by repeat (first | exact oN | refine oC rfl ?_)) rfl (Vw.le.refl _)
      ·
       refine h_store 8 tok rfl rfl rfl rfl (by repeat' first | exact trivial | exact rfl | apply And.intro) (.inr ⟨(by repeat (first | exact oN | refine oC rfl ?_)), rfl, (by first | exact Vw.le.refl _ | assumption)⟩) ?_
       refine h_two 6 9 (by kernel_rfl) ?_ ?_
       ·
        refine yH 6 rfl rfl rfl rfl rfl ?_
        refine h_one 9 (by kernel_rfl) ?_
        refine yH 9 rfl rfl rfl rfl rfl ?_
        refine h_one 10 (by kernel_rfl) ?_
        refine yH 10 rfl rfl rfl rfl rfl ?_
        refine h_done [1, 4, 5, 6, 7, 8, 9, 10, 11, 12, 13, 14] (by kernel_rfl) rfl ?_
        exact x_meet () trivial (by repeat (first | exact fN | refine fC rfl ?_)) (by repeat (first | exact oN | refine oC rfl ?_)) rfl (Vw.le.refl _)
       ·
        refine yH 9 rfl rfl rfl rfl rfl ?_
        refine h_one 6 (by kernel_rfl) ?_
        refine yH 6 rfl rfl rfl rfl rfl ?_
        refine h_one 10 (by kernel_rfl) ?_
        refine yH 10 rfl rfl rfl rfl rfl ?_
        refine h_done [1, 4, 5, 6, 7, 8, 9, 10, 11, 12, 13, 14] (by kernel_rfl) rfl ?_
        exact x_meet () trivial (by repeat (first | exact fN | refine fC rfl ?_)) (by repeat (first | exact oN | refine oC rfl ?_)) rfl (Vw.le.refl _)
     ·
      refine yH 6 rfl rfl rfl rfl rfl ?_
      refine h_two 5 8 (by kernel_rfl) ?_ ?_
      ·
       refine yH 5 rfl rfl rfl rfl rfl ?_
       refine h_one 8 (by kernel_rfl) ?_
       refine h_store 8 tok rfl rfl rfl rfl (by repeat' first | exact trivial | exact rfl | apply And.intro) (.inr ⟨(by repeat (first | exact oN | refine oC rfl ?_)), rfl, (by first | exact Vw.le.refl _ | assumption)⟩) ?_
       refine h_one 9 (by kernel_rfl) ?_
       refine yH 9 rfl rfl rfl rfl rfl ?_
       refine h_one 10 (by kernel_rfl) ?_
       refine yH 10 rfl rfl rfl rfl rfl ?_
       refine h_done [1, 4, 5, 6, 7, 8, 9, 10, 11, 12, 13, 14] (by kernel_rfl) rfl ?_
       exact x_meet () trivial (by repeat (first | exact fN | refine fC rfl ?_)) (by repeat (first | exact oN | refine oC rfl ?_)) rfl (Vw.le.refl _)
      ·
       refine h_store 8 tok rfl rfl rfl rfl (by repeat' first | exact trivial | exact rfl | apply And.intro) (.inr ⟨(by repeat (first | exact oN | refine oC rfl ?_)), rfl, (by first | exact Vw.le.refl _ | assumption)⟩) ?_
       refine h_one 5 (by kernel_rfl) ?_
       refine yH 5 rfl rfl rfl rfl rfl ?_
       refine h_one 9 (by kernel_rfl) ?_
       refine yH 9 rfl rfl rfl rfl rfl ?_
       refine h_one 10 (by kernel_rfl) ?_
       refine yH 10 rfl rfl rfl rfl rfl ?_
       refine h_done [1, 4, 5, 6, 7, 8, 9, 10, 11, 12, 13, 14] (by kernel_rfl) rfl ?_
       exact x_meet () trivial (by repeat (first | exact fN | refine fC rfl ?_)) (by repeat (first | exact oN | refine oC rfl ?_)) rfl (Vw.le.refl _)
     ·
      refine h_store 8 tok rfl rfl rfl rfl (by repeat' first | exact trivial | exact rfl | apply And.intro) (.inr ⟨(by repeat (first | exact oN | refine oC rfl ?_)), rfl, (by first | exact Vw.le.refl _ | assumption)⟩) ?_
      refine h_two 5 6 (by kernel_rfl) ?_ ?_
      ·
       refine yH 5 rfl rfl rfl rfl rfl ?_
       refine h_two 6 9 (by kernel_rfl) ?_ ?_
       ·
        refine yH 6 rfl rfl rfl rfl rfl ?_
        refine h_one 9 (by kernel_rfl) ?_
        refine yH 9 rfl rfl rfl rfl rfl ?_
        refine h_one 10 (by kernel_rfl) ?_
        refine yH 10 rfl rfl rfl rfl rfl ?_
        refine h_done [1, 4, 5, 6, 7, 8, 9, 10, 11, 12, 13, 14] (by kernel_rfl) rfl ?_
        exact x_meet () trivial (by repeat (first | exact fN | refine fC rfl ?_)) (by repeat (first | exact oN | refine oC rfl ?_)) rfl (Vw.le.refl _)
       ·
        refine yH 9 rfl rfl rfl rfl rfl ?_
        refine h_one 6 (by kernel_rfl) ?_
        refine yH 6 rfl rfl rfl rfl rfl ?_
        refine h_one 10 (by kernel_rfl) ?_
        refine yH 10 rfl rfl rfl rfl rfl ?_
        refine h_done [1, 4, 5, 6, 7, 8, 9, 10, 11, 12, 13, 14] (by kernel_rfl) rfl ?_
        exact x_meet () trivial (by repeat (first | exact fN | refine fC rfl ?_)) (by repeat (first | exact oN | refine oC rfl ?_)) rfl (Vw.le.refl _)
      ·
       refine yH 6 rfl rfl rfl rfl rfl ?_
       refine h_one 5 (by kernel_rfl) ?_
       refine yH 5 rfl rfl rfl rfl rfl ?_
       refine h_one 9 (by kernel_rfl) ?_
       refine yH 9 rfl rfl rfl rfl rfl ?_
       refine h_one 10 (by kernel_rfl) ?_
       refine yH 10 rfl rfl rfl rfl rfl ?_
       refine h_done [1, 4, 5, 6, 7, 8, 9, 10, 11, 12, 13, 14] (by kernel_rfl) rfl ?_
       exact x_meet () trivial (by repeat (first | exact fN | refine fC rfl ?_)) (by repeat (first | exact oN | refine oC rfl ?_)) rfl (Vw.le.refl _)
    ·
     refine yH 5 rfl rfl rfl rfl rfl ?_
     refine h_two 4 6 (by kernel_rfl) ?_ ?_
     ·
      refine yH 4 rfl rfl rfl rfl rfl ?_
      refine h_two 6 8 (by kernel_rfl) ?_ ?_
      ·
       refine yH 6 rfl rfl rfl rfl rfl ?_
       refine h_one 8 (by kernel_rfl) ?_
       refine h_store 8 tok rfl rfl rfl rfl (by repeat' first | exact trivial | exact rfl | apply And.intro) (.inr ⟨(by repeat (first | exact oN | refine oC rfl ?_)), rfl, (by first | exact Vw.le.refl _ | assumption)⟩) ?_
       refine h_one 9 (by kernel_rfl) ?_
       refine yH 9 rfl rfl rfl rfl rfl ?_
       refine h_one 10 (by kernel_rfl) ?_
       refine yH 10 rfl rfl rfl rfl rfl ?_
       refine h_done [1, 4, 5, 6, 7, 8, 9, 10, 11, 12, 13, 14] (by kernel_rfl) rfl ?_
       exact x_meet () trivial (by repeat (first | exact fN | refine fC rfl ?_)) (by repeat (first | exact oN | refine oC rfl ?_)) rfl (Vw.le.refl _)
      ·
       refine h_store 8 tok rfl rfl rfl rfl (by repeat' first | exact trivial | exact rfl | apply And.intro) (.inr ⟨(by repeat (first | exact oN | refine oC rfl ?_)), rfl, (by first | exact Vw.le.refl _ | assumption)⟩) ?_
       refine h_two 6 9 (by kernel_rfl) ?_ ?_
       ·
        refine yH 6 rfl rfl rfl rfl rfl ?_
        refine h_one 9 (by kernel_rfl) ?_
        refine yH 9 rfl rfl rfl rfl rfl ?_
        refine h_one 10 (by kernel_rfl) ?_
        refine yH 10 rfl rfl rfl rfl rfl ?_
        refine h_done [1, 4, 5, 6, 7, 8, 9, 10, 11, 12, 13, 14] (by kernel_rfl) rfl ?_
        exact x_meet () trivial (by repeat (first | exact fN | refine fC rfl ?_)) (by repeat (first | exact oN | refine oC rfl ?_)) rfl (Vw.le.refl _)
       ·
        refine yH 9 rfl rfl rfl rfl rfl ?_
        refine h_one 6 (by kernel_rfl) ?_
        refine yH 6 rfl rfl rfl rfl rfl ?_
        refine h_one 10 (by kernel_rfl) ?_
        refine yH 10 rfl rfl rfl rfl rfl ?_
        refine h_done [1, 4, 5, 6, 7, 8, 9, 10, 11, 12, 13, 14] (by kernel_rfl) rfl ?_
        exact x_meet () trivial (by repeat (first | exact fN | refine fC rfl ?_)) (by repeat (first | exact oN | refine oC rfl ?_)) rfl (Vw.le.refl _)
     ·
      refine yH 6 rfl rfl rfl rfl rfl ?_
      refine h_one 4 (by kernel_rfl) ?_
      refine yH 4 rfl rfl rfl rfl rfl ?_
      refine h_one 8 (by kernel_rfl) ?_
      refine h_store 8 tok rfl rfl rfl rfl (by repeat' first | exact trivial | exact rfl | apply And.intro) (.inr ⟨(by repeat (first | exact oN | refine oC rfl ?_)), rfl, (by first | exact Vw.le.refl _ | assumption)⟩) ?_
      refine h_one 9 (by kernel_rfl) ?_
      refine yH 9 rfl rfl rfl rfl rfl ?_
      refine h_one 10 (by kernel_rfl) ?_
      refine yH 10 rfl rfl rfl rfl rfl ?_
      refine h_done [1, 4, 5, 6, 7, 8, 9, 10, 11, 12, 13, 14] (by kernel_rfl) rfl ?_
      exact x_meet () trivial (by repeat (first | exact fN | refine fC rfl ?_)) (by repeat (first | exact oN | refine oC rfl ?_)) rfl (Vw.le.refl _)
    ·
     refine yH 6 rfl rfl rfl rfl rfl ?_
     refine h_two 4 5 (by kernel_rfl) ?_ ?_
     ·
      refine yH 4 rfl rfl rfl rfl rfl ?_
      refine h_two 5 8 (by kernel_rfl) ?_ ?_
      ·
       refine yH 5 rfl rfl rfl rfl rfl ?_
       refine h_one 8 (by kernel_rfl) ?_
       refine h_store 8 tok rfl rfl rfl rfl (by repeat' first | exact trivial | exact rfl | apply And.intro) (.inr ⟨(by repeat (first | exact oN | refine oC rfl ?_)), rfl, (by first | exact Vw.le.refl _ | assumption)⟩) ?_
       refine h_one 9 (by kernel_rfl) ?_
       refine yH 9 rfl rfl rfl rfl rfl ?_
       refine h_one 10 (by kernel_rfl) ?_
       refine yH 10 rfl rfl rfl rfl rfl ?_
       refine h_done [1, 4, 5, 6, 7, 8, 9, 10, 11, 12, 13, 14] (by kernel_rfl) rfl ?_
       exact x_meet () trivial (by repeat (first | exact fN | refine fC rfl ?_)) (by repeat (first | exact oN | refine oC rfl ?_)) rfl (Vw.le.refl _)
      ·
       refine h_store 8 tok rfl rfl rfl rfl (by repeat' first | exact trivial | exact rfl | apply And.intro) (.inr ⟨(by repeat (first | exact oN | refine oC rfl ?_)), rfl, (by first | exact Vw.le.refl _ | assumption)⟩) ?_
       refine h_one 5 (by kernel_rfl) ?_
       refine yH 5 rfl rfl rfl rfl rfl ?_
       refine h_one 9 (by kernel_rfl) ?_
       refine yH 9 rfl rfl rfl rfl rfl ?_
       refine h_one 10 (by kernel_rfl) ?_
       refine yH 10 rfl rfl rfl rfl rfl ?_
       refine h_done [1, 4, 5, 6, 7, 8, 9, 10, 11, 12, 13, 14] (by kernel_rfl) rfl ?_
       exact x_meet () trivial (by repeat (first | exact fN | refine fC rfl ?_)) (by repeat (first | exact oN | refine oC rfl ?_)) rfl (Vw.le.refl _)
     ·
      refine yH 5 rfl rfl rfl rfl rfl ?_
      refine h_one 4 (by kernel_rfl) ?_
      refine yH 4 rfl rfl rfl rfl rfl ?_
      refine h_one 8 (by kernel_rfl) ?_
      refine h_store 8 tok rfl rfl rfl rfl (by repeat' first | exact trivial | exact rfl | apply And.intro) (.inr ⟨(by repeat (first | exact oN | refine oC rfl ?_)), rfl, (by first | exact Vw.le.refl _ | assumption)⟩) ?_
      refine h_one 9 (by kernel_rfl) ?_
      refine yH 9 rfl rfl rfl rfl rfl ?_
      refine h_one 10 (by kernel_rfl) ?_
      refine yH 10 rfl rfl rfl rfl rfl ?_
      refine h_done [1, 4, 5, 6, 7, 8, 9, 10, 11, 12, 13, 14] (by kernel_rfl) rfl ?_
      exact x_meet () trivial (by repeat (first | exact fN | refine fC rfl ?_)) (by repeat (first | exact oN | refine oC rfl ?_)) rfl (Vw.le.refl _)
  ·
   refine h_new 7 tok rfl rfl rfl rfl rfl rfl ?_
   refine h_one 0 (by kernel_rfl) ?_
   refine h_call 0 (.a (.v geo21.val)) rfl rfl rfl fnok22 rfl rfl rfl (fun hg E w1 hm => by exact geo21_c _) ?_
   refine h_one 2 (by kernel_rfl) ?_
   refine h_call 2 (.a (.v (.tuple #[rpV 0 16 4 7 (.slice ra rn rc) (.slice none 0 0) 0 7, .bool true, I 0]))) rfl rfl rfl fnok24 rfl rfl rfl (fun hg E w1 hm => by exact rpTake3_c geo21 geo21_ok 0 16 7 _ _ _ _ _ _ 0 7 _ _) ?_
   refine h_one 3 (by kernel_rfl) ?_
   refine yH 3 rfl rfl rfl rfl rfl ?_
   refine h_three 4 5 6 (by kernel_rfl) ?_ ?_ ?_
   ·
    refine yH 4 rfl rfl rfl rfl rfl ?_
    refine h_three 5 6 8 (by kernel_rfl) ?_ ?_ ?_
    ·
     refine yH 5 rfl rfl rfl rfl rfl ?_
     refine h_two 6 8 (by kernel_rfl) ?_ ?_
     ·
      refine yH 6 rfl rfl rfl rfl rfl ?_
      refine h_one 8 (by kernel_rfl) ?_
      refine h_store 8 tok rfl rfl rfl rfl (by repeat' first | exact trivial | exact rfl | apply And.intro) (.inr ⟨(by repeat (first | exact oN | refine oC rfl ?_)), rfl, (by first | exact Vw.le.refl _ | assumption)⟩) ?_
      refine h_one 9 (by kernel_rfl) ?_
      refine yH 9 rfl rfl rfl rfl rfl ?_
      refine h_one 10 (by kernel_rfl) ?_
      refine yH 10 rfl rfl rfl rfl rfl ?_
      refine h_done [1, 4, 5, 6, 7, 8, 9, 10, 11, 12, 13, 14] (by kernel_rfl) rfl ?_
      exact x_meet () trivial (by repeat (first | exact fN | refine fC rfl ?_)) (by repeat (first | exact oN | refine oC rfl ?_)) rfl (Vw.le.refl _)
     ·
      refine h_store 8 tok rfl rfl rfl rfl (by repeat' first | exact trivial | exact rfl | apply And.intro) (.inr ⟨(by repeat (first | exact oN | refine oC rfl ?_)), rfl, (by first | exact Vw.le.refl _ | assumption)⟩) ?_
      refine h_two 6 9 (by kernel_rfl) ?_ ?_
      ·
       refine yH 6 rfl rfl rfl rfl rfl ?_
       refine h_one 9 (by kernel_rfl) ?_
       refine yH 9 rfl rfl rfl rfl rfl ?_
       refine h_one 10 (by kernel_rfl) ?_
       refine yH 10 rfl rfl rfl rfl rfl ?_
       refine h_done [1, 4, 5, 6, 7, 8, 9, 10, 11, 12, 13, 14] (by kernel_rfl) rfl ?_
       exact x_meet () trivial (by repeat (first | exact fN | refine fC rfl ?_)) (by repeat (first | exact oN | refine oC rfl ?_)) rfl (Vw.le.refl _)
      ·
       refine yH 9 rfl rfl rfl rfl rfl ?_
       refine h_one 6 (by kernel_rfl) ?_
       refine yH 6 rfl rfl rfl rfl rfl ?_
       refine h_one 10 (by kernel_rfl) ?_
       refine yH 10 rfl rfl rfl rfl rfl ?_
       refine h_done [1, 4, 5, 6, 7, 8, 9, 10, 11, 12, 13, 14] (by kernel_rfl) rfl ?_
       exact x_meet () trivial (by repeat (first | exact fN | refine fC rfl ?_)) (by repeat (first | exact oN | refine oC rfl ?_)) rfl (Vw.le.refl _)
    ·
     refine yH 6 rfl rfl rfl rfl rfl ?_
     refine h_two 5 8 (by kernel_rfl) ?_ ?_
     ·
      refine yH 5 rfl rfl rfl rfl rfl ?_
      refine h_one 8 (by kernel_rfl) ?_
      refine h_store 8 tok rfl rfl rfl rfl (by repeat' first | exact trivial | exact rfl | apply And.intro) (.inr ⟨(by repeat (first | exact oN | refine oC rfl ?_)), rfl, (by first | exact Vw.le.refl _ | assumption)⟩) ?_
      refine h_one 9 (by kernel_rfl) ?_
      refine yH 9 rfl rfl rfl rfl rfl ?_
      refine h_one 10 (by kernel_rfl) ?_
      refine yH 10 rfl rfl rfl rfl rfl ?_
      refine h_done [1, 4, 5, 6, 7, 8, 9, 10, 11, 12, 13, 14] (by kernel_rfl) rfl ?_
      exact x_meet () trivial (by repeat (first | exact fN | refine fC rfl ?_)) (by repeat (first | exact oN | refine oC rfl ?_)) rfl (Vw.le.refl _)
     ·
      refine h_store 8 tok rfl rfl rfl rfl (by repeat' first | exact trivial | exact rfl | apply And.intro) (.inr ⟨(by repeat (first | exact oN | refine oC rfl ?_)), rfl, (by first | exact Vw.le.refl _ | assumption)⟩) ?_
      refine h_one 5 (by kernel_rfl) ?_
      refine yH 5 rfl rfl rfl rfl rfl ?_
      refine h_one 9 (by kernel_rfl) ?_
      refine yH 9 rfl rfl rfl rfl rfl ?_
      refine h_one 10 (by kernel_rfl) ?_
      refine yH 10 rfl rfl rfl rfl rfl ?_
      refine h_done [1, 4, 5, 6, 7, 8, 9, 10, 11, 12, 13, 14] (by kernel_rfl) rfl ?_
      exact x_meet () trivial (by repeat (first | exact fN | refine fC rfl ?_)) (by repeat (first | exact oN | refine oC rfl ?_)) rfl (Vw.le.refl _)
    ·
     refine h_store 8 tok rfl rfl rfl rfl (by repeat' first | exact trivial | exact rfl | apply And.intro) (.inr ⟨(by repeat (first | exact oN | refine oC rfl ?_)), rfl, (by first | exact Vw.le.refl _ | assumption)⟩) ?_
     refine h_two 5 6 (by kernel_rfl) ?_ ?_
     ·
      refine yH 5 rfl rfl rfl rfl rfl ?_
      refine h_two 6 9 (by kernel_rfl) ?_ ?_
      ·
       refine yH 6 rfl rfl rfl rfl rfl ?_
       refine h_one 9 (by kernel_rfl) ?_
       refine yH 9 rfl rfl rfl rfl rfl ?_
       refine h_one 10 (by kernel_rfl) ?_
       refine yH 10 rfl rfl rfl rfl rfl ?_
       refine h_done [1, 4, 5, 6, 7, 8, 9, 10, 11, 12, 13, 14] (by kernel_rfl) rfl ?_
       exact x_meet () trivial (by repeat (first | exact fN | refine fC rfl ?_)) (by repeat (first | exact oN | refine oC rfl ?_)) rfl (Vw.le.refl _)
      ·
       refine yH 9 rfl rfl rfl rfl rfl ?_
       refine h_one 6 (by kernel_rfl) ?_
       refine yH 6 rfl rfl rfl rfl rfl ?_
       refine h_one 10 (by kernel_rfl) ?_
       refine yH 10 rfl rfl rfl rfl rfl ?_
       refine h_done [1, 4, 5, 6, 7, 8, 9, 10, 11, 12, 13, 14] (by kernel_rfl) rfl ?_
       exact x_meet () trivial (by repeat (first | exact fN | refine fC rfl ?_)) (by repeat (first | exact oN | refine oC rfl ?_)) rfl (Vw.le.refl _)
     ·
      refine yH 6 rfl rfl rfl rfl rfl ?_
      refine h_one 5 (by kernel_rfl) ?_
      refine yH 5 rfl rfl rfl rfl rfl ?_
      refine h_one 9 (by kernel_rfl) ?_
      refine yH 9 rfl rfl rfl rfl rfl ?_
      refine h_one 10 (by kernel_rfl) ?_
      refine yH 10 rfl rfl rfl rfl rfl ?_
      refine h_done [1, 4, 5, 6, 7, 8, 9, 10, 11, 12, 13, 14] (by kernel_rfl) rfl ?_
      exact x_meet () trivial (by repeat (first | exact fN | refine fC rfl ?_)) (by repeat (first | exact oN | refine oC rfl ?_)) rfl (Vw.le.refl _)
   ·
    refine yH 5 rfl rfl rfl rfl rfl ?_
    refine h_two 4 6 (by kernel_rfl) ?_ ?_
    ·
     refine yH 4 rfl rfl rfl rfl rfl ?_
     refine h_two 6 8 (by kernel_rfl) ?_ ?_
     ·
      refine yH 6 rfl rfl rfl rfl rfl ?_
      refine h_one 8 (by kernel_rfl) ?_
      refine h_store 8 tok rfl rfl rfl rfl (by repeat' first | exact trivial | exact rfl | apply And.intro) (.inr ⟨(by repeat (first | exact oN | refine oC rfl ?_)), rfl, (by first | exact Vw.le.refl _ | assumption)⟩) ?_
      refine h_one 9 (by kernel_rfl) ?_
      refine yH 9 rfl rfl rfl rfl rfl ?_
      refine h_one 10 (by kernel_rfl) ?_
      refine yH 10 rfl rfl rfl rfl rfl ?_
      refine h_done [1, 4, 5, 6, 7, 8, 9, 10, 11, 12, 13, 14] (by kernel_rfl) rfl ?_
      exact x_meet () trivial (by repeat (first | exact fN | refine fC rfl ?_)) (by repeat (first | exact oN | refine oC rfl ?_)) rfl (Vw.le.refl _)
     ·
      refine h_store 8 tok rfl rfl rfl rfl (by repeat' first | exact trivial | exact rfl | apply And.intro) (.inr ⟨(by repeat (first | exact oN | refine oC rfl ?_)), rfl, (by first | exact Vw.le.refl _ | assumption)⟩) ?_
      refine h_two 6 9 (by kernel_rfl) ?_ ?_
      ·
       refine yH 6 rfl rfl rfl rfl rfl ?_
       refine h_one 9 (by kernel_rfl) ?_
       refine yH 9 rfl rfl rfl rfl rfl ?_
       refine h_one 10 (by kernel_rfl) ?_
       refine yH 10 rfl rfl rfl rfl rfl ?_
       refine h_done [1, 4, 5, 6, 7, 8, 9, 10, 11, 12, 13, 14] (by kernel_rfl) rfl ?_
       exact x_meet () trivial (by repeat (first | exact fN | refine fC rfl ?_)) (by repeat (first | exact oN | refine oC rfl ?_)) rfl (Vw.le.refl _)
      ·
       refine yH 9 rfl rfl rfl rfl rfl ?_
       refine h_one 6 (by kernel_rfl) ?_
       refine yH 6 rfl rfl rfl rfl rfl ?_
       refine h_one 10 (by kernel_rfl) ?_
       refine yH 10 rfl rfl rfl rfl rfl ?_
       refine h_done [1, 4, 5, 6, 7, 8, 9, 10, 11, 12, 13, 14] (by kernel_rfl) rfl ?_
       exact x_meet () trivial (by repeat (first | exact fN | refine fC rfl ?_)) (by repeat (first | exact oN | refine oC rfl ?_)) rfl (Vw.le.refl _)
    ·
     refine yH 6 rfl rfl rfl rfl rfl ?_
     refine h_one 4 (by kernel_rfl) ?_
     refine yH 4 rfl rfl rfl rfl rfl ?_
     refine h_one 8 (by kernel_rfl) ?_
     refine h_store 8 tok rfl rfl rfl rfl (by repeat' first | exact trivial | exact rfl | apply And.intro) (.inr ⟨(by repeat (first | exact oN | refine oC rfl ?_)), rfl, (by first | exact Vw.le.refl _ | assumption)⟩) ?_
     refine h_one 9 (by kernel_rfl) ?_
     refine yH 9 rfl rfl rfl rfl rfl ?_
     refine h_one 10 (by kernel_rfl) ?_
     refine yH 10 rfl rfl rfl rfl rfl ?_
     refine h_done [1, 4, 5, 6, 7, 8, 9, 10, 11, 12, 13, 14] (by kernel_rfl) rfl ?_
     exact x_meet () trivial (by repeat (first | exact fN | refine fC rfl ?_)) (by repeat (first | exact oN | refine oC rfl ?_)) rfl (Vw.le.refl _)
   ·
    refine yH 6 rfl rfl rfl rfl rfl ?_
    refine h_two 4 5 (by kernel_rfl) ?_ ?_
    ·
     refine yH 4 rfl rfl rfl rfl rfl ?_
     refine h_two 5 8 (by kernel_rfl) ?_ ?_
     ·
      refine yH 5 rfl rfl rfl rfl rfl ?_
      refine h_one 8 (by kernel_rfl) ?_
      refine h_store 8 tok rfl rfl rfl rfl (by repeat' first | exact trivial | exact rfl | apply And.intro) (.inr ⟨(by repeat (first | exact oN | refine oC rfl ?_)), rfl, (by first | exact Vw.le.refl _ | assumption)⟩) ?_
      refine h_one 9 (by kernel_rfl) ?_
      refine yH 9 rfl rfl rfl rfl rfl ?_
      refine h_one 10 (by kernel_rfl) ?_
      refine yH 10 rfl rfl rfl rfl rfl ?_
      refine h_done [1, 4, 5, 6, 7, 8, 9, 10, 11, 12, 13, 14] (by kernel_rfl) rfl ?_
      exact x_meet () trivial (by repeat (first | exact fN | refine fC rfl ?_)) (by repeat (first | exact oN | refine oC rfl ?_)) rfl (Vw.le.refl _)
     ·
      refine h_store 8 tok rfl rfl rfl rfl (by repeat' first | exact trivial | exact rfl | apply And.intro) (.inr ⟨(by repeat (first | exact oN | refine oC rfl ?_)), rfl, (by first | exact Vw.le.refl _ | assumption)⟩) ?_
      refine h_one 5 (by kernel_rfl) ?_
      refine yH 5 rfl rfl rfl rfl rfl ?_
      refine h_one 9 (by kernel_rfl) ?_
      refine yH 9 rfl rfl rfl rfl rfl ?_
      refine h_one 10 (by kernel_rfl) ?_
      refine yH 10 rfl rfl rfl rfl rfl ?_
      refine h_done [1, 4, 5, 6, 7, 8, 9, 10, 11, 12, 13, 14] (by kernel_rfl) rfl ?_
      exact x_meet () trivial (by repeat (first | exact fN | refine fC rfl ?_)) (by repeat (first | exact oN | refine oC rfl ?_)) rfl (Vw.le.refl _)
    ·
     refine yH 5 rfl rfl rfl rfl rfl ?_
     refine h_one 4 (by kernel_rfl) ?_
     refine yH 4 rfl rfl rfl rfl rfl ?_
     refine h_one 8 (by kernel_rfl) ?_
     refine h_store 8 tok rfl rfl rfl rfl (by repeat' first | exact trivial | exact rfl | apply And.intro) (.inr ⟨(by repeat (first | exact oN | refine oC rfl ?_)), rfl, (by first | exact Vw.le.refl _ | assumption)⟩) ?_
     refine h_one 9 (by kernel_rfl) ?_
     refine yH 9 rfl rfl rfl rfl rfl ?_
     refine h_one 10 (by kernel_rfl) ?_
     refine yH 10 rfl rfl rfl rfl rfl ?_
     refine h_done [1, 4, 5, 6, 7, 8, 9, 10, 11, 12, 13, 14] (by kernel_rfl) rfl ?_
     exact x_meet () trivial (by repeat (first | exact fN | refine fC rfl ?_)) (by repeat (first | exact oN | refine oC rfl ?_)) rfl (Vw.le.refl _)
 rintro ⟨⟩ -
 refine x_then (c_seq (c_seq (c_region ?_)))
 iterate 26 refine yO rfl rfl rfl rfl ?_
 refine o_call (.a (.v _)) rfl rfl fnok25 rfl rfl rfl (fun hg E w1 hm => by exact rover_c _ _ _ _ _ _ _ _ _) ?_
 iterate 2 refine yO rfl rfl rfl rfl ?_
 refine o_end [1, 5, 8, 11, 83] rfl ?_
 refine x_then ?_
 refine c_cond rfl (fun h => ?_) (fun h => ?_)
 ·
  refine c_seq (c_region ?_)
  refine yO rfl rfl rfl rfl ?_
  refine o_end [0] rfl ?_
  refine x_then (c_ret (x_then_ret ?_))
  refine b_ret tok rfl ?_
  exact absurd h (by decide)
 ·
  refine c_skip (x_then (c_seq ?_))
  refine c_draw mixed (by kernel_rfl) ?_
  iterate 6 refine d_yield rfl rfl rfl (yV rfl) rfl ?_
  refine d_call (.a (.v _)) rfl rfl fnok22 rfl rfl rfl (fun hg E w1 hm => by exact geo21_c _) ?_
  refine d_call (.a (.v _)) rfl rfl fnok26 rfl rfl rfl (fun hg E w1 hm => by exact refHead_c geo21 geo21_ok 0 _) ?_
  iterate 10 refine d_yield rfl rfl rfl (yV rfl) rfl ?_
  refine d_call (.a (.v _)) rfl rfl fnok22 rfl rfl rfl (fun hg E w1 hm => by exact geo21_c _) ?_
  refine d_call (.a (.v _)) rfl rfl fnok27 rfl rfl rfl (fun hg E w1 hm => by exact refJour_c geo21 geo21_ok 0 7 _) ?_
  iterate 14 refine d_yield rfl rfl rfl (yV rfl) rfl ?_
  refine d_call (.a (.v _)) rfl rfl fnok22 rfl rfl rfl (fun hg E w1 hm => by exact geo21_c _) ?_
  refine d_call (.a (.v _)) rfl rfl fnok14 rfl rfl rfl (fun hg E w1 hm => by exact most21_c _) ?_
  iterate 3 refine d_yield rfl rfl rfl (yV rfl) rfl ?_
  refine d_end [0] rfl ?_
  refine x_then (c_ret ?_)
  refine b_ret tok rfl ?_
  intro E w' hm _
  refine ⟨?_, hm.below (hle1)⟩
  have g1 : headV geo21 0 = 11 := by decide
  have g2 : jourV geo21 0 (IntKind.i64.wrap (7 + (([] : List Record).length : Int))) = 15 := by decide
  have g3 : jourV geo21 0 7 = 15 := by decide
  rw [g1, g2, g3]
  simp [readK, readN]
  rfl
theorem rwhole_c (V : Vw) (sv : Value) (l : List Record) (w : World) (hV : V.le (vw w)) (hs0 : SlOf V Record.cells 6 sv l) (hn : l.length ≤ 1000000) :
  Calls Tryz.prog 44 #[sv] w fun e w' => e = .returned (I (whole l)) ∧ Below w.heap.size w w' := by
 have hs := hs0.mono hV
 refine enter (E := E0) (O := []) (nl := 0) (V := vw w) [.a (.v sv)] Tryz.func44 rfl rfl (mem0 E0 0 w) rfl rfl ?_
 refine c_seq (c_region ?_)
 refine yO rfl rfl rfl rfl ?_
 refine o_end [0] rfl ?_
 refine x_then (c_seq (c_region ?_))
 refine yO rfl rfl rfl rfl ?_
 refine o_end [0, 3] rfl ?_
 refine x_then (c_seq (c_seq (c_region ?_)))
 refine yO rfl rfl rfl rfl ?_
 refine o_end [0, 3, 4] rfl ?_
 refine x_then (c_block ?_)
 refine c_loopK [0] [] rfl rfl (σ := Nat × Nat) (fun (i, n) => [(3, .a (.v (I n))), (4, .a (.v (I i)))]) (fun (i, n) => []) (fun (i, n) => i ≤ l.length ∧ n ≤ i ∧ whole l = wholeFrom (l.drop i) i n (i - n)) (fun (i, n) => l.length - i) ((0, 0)) (⟨by omega, by omega, rfl⟩) (by repeat (first | exact fN | refine fC rfl ?_)) (by repeat (first | exact oN | refine oC rfl ?_)) rfl ?_
 rintro ⟨i, n⟩ ⟨hi, hni, hw⟩
 dsimp only at hi hni hw ⊢
 iterate 2 refine c_seq ?_
 refine c_region ?_
 iterate 2 refine yO rfl rfl rfl rfl ?_
 refine o_yield rfl rfl rfl (y_len tok rfl (fun hg => hs.sl)) ?_
 refine yO rfl rfl rfl rfl ?_
 refine o_end [0, 3, 4, 8] rfl ?_
 refine x_then ?_
 refine c_cond rfl (fun h => ?_) (fun h => ?_)
 ·
  simp only [Xa, Xb, Xc, Xd, Xe, Xf, Xg, Xh, Xi, Xj, Xk, Xl, Xm, Xn, Xo, Xp] at h
  refine c_skip (x_then (c_seq (c_block (c_seq (c_seq ?_)))))
  refine c_region ?_
  iterate 2 refine yO rfl rfl rfl rfl ?_
  obtain ⟨r, h_r⟩ := hs.at (k := i) (by omega)
  rw [drop_at h_r, wholeFrom] at hw
  have hwi : IntKind.i64.wrap ((i : Int) + 1) = ((i + 1 : Nat) : Int) := wrapI (by omega) (by omega)
  have hlt_r := lt_of_at h_r
  refine o_yield rfl rfl rfl (y_idx tok rfl (fun hg => hs.sl) (fun hg => ⟨by omega, by omega⟩)) ?_
  refine o_yield rfl rfl rfl (y_fel tok rfl (fun hg => hs.sl) (fun hg => by omega)) ?_
  refine o_yield rfl rfl rfl (y_lel tok (i) 5 (r) rfl (fun hg => hs) (fun hg => h_r) rfl rfl) ?_
  refine yO rfl rfl rfl rfl ?_
  refine o_end [0, 3, 4, 16] rfl ?_
  refine x_then ?_
  refine c_cond rfl (fun h => ?_) (fun h => ?_)
  ·
   simp only [Xa, Xb, Xc, Xd, Xe, Xf, Xg, Xh, Xi, Xj, Xk, Xl, Xm, Xn, Xo, Xp] at h
   refine c_exit (x_then_exit (x_block_hit (x_then (c_region ?_))))
   iterate 3 refine yO rfl rfl rfl rfl ?_
   refine o_end [0, 3, 4] rfl ?_
   refine x_then ?_
   rw [if_pos h, show i - n + 1 = i + 1 - n by omega] at hw
   rw [hwi]
   refine x_round ((i + 1, n)) (⟨by dsimp only; omega, by dsimp only; omega, hw⟩) (by first | omega | (dsimp only; omega)) (by repeat (first | exact fN | refine fC rfl ?_)) (by repeat (first | exact oN | refine oC rfl ?_)) rfl (Vw.le.refl _)
  ·
   simp only [Xa, Xb, Xc, Xd, Xe, Xf, Xg, Xh, Xi, Xj, Xk, Xl, Xm, Xn, Xo, Xp] at h
   rw [if_neg h] at hw
   clear h
   refine c_skip (x_then (c_seq (c_seq (c_region ?_))))
   iterate 2 refine yO rfl rfl rfl rfl ?_
   have hwd : IntKind.i64.wrap ((i : Int) - n) = ((i - n : Nat) : Int) := by rw [wrapI (by omega) (by omega)]; omega
   have hlt_r := lt_of_at h_r
   refine o_yield rfl rfl rfl (y_idx tok rfl (fun hg => hs.sl) (fun hg => ⟨by omega, by omega⟩)) ?_
   refine o_yield rfl rfl rfl (y_fel tok rfl (fun hg => hs.sl) (fun hg => by omega)) ?_
   refine o_yield rfl rfl rfl (y_lel tok (i) 5 (r) rfl (fun hg => hs) (fun hg => h_r) rfl rfl) ?_
   iterate 4 refine yO rfl rfl rfl rfl ?_
   refine o_end [0, 3, 4, 25] rfl ?_
   refine x_then ?_
   refine c_cond rfl (fun h => ?_) (fun h => ?_)
   ·
    simp only [Xa, Xb, Xc, Xd, Xe, Xf, Xg, Xh, Xi, Xj, Xk, Xl, Xm, Xn, Xo, Xp] at h
    refine c_seq (c_region ?_)
    iterate 2 refine yO rfl rfl rfl rfl ?_
    refine o_end [2] rfl ?_
    refine x_then (c_ret (x_then_ret (x_block_ret (x_then_ret (x_then_ret ?_)))))
    refine x_block_ret (x_then_ret ?_)
    refine b_ret tok rfl ?_
    rw [hwd] at h
    rw [if_pos h] at hw
    intro E w' hm _
    refine ⟨?_, hm.below (Vw.le.refl _)⟩
    rw [hw]; rfl
   ·
    simp only [Xa, Xb, Xc, Xd, Xe, Xf, Xg, Xh, Xi, Xj, Xk, Xl, Xm, Xn, Xo, Xp] at h
    refine c_skip (x_then (c_region ?_))
    iterate 3 refine yO rfl rfl rfl rfl ?_
    refine o_end [0, 3, 4] rfl ?_
    refine x_block (x_then (c_region ?_))
    iterate 3 refine yO rfl rfl rfl rfl ?_
    refine o_end [0, 3, 4] rfl ?_
    refine x_then ?_
    rw [hwd] at h
    rw [if_neg (by simpa using h)] at hw
    rw [hwi]
    refine x_round ((i + 1, i + 1)) (⟨by dsimp only; omega, by dsimp only; omega, by dsimp only; rw [hw, Nat.sub_self]⟩) (by first | omega | (dsimp only; omega)) (by repeat (first | exact fN | refine fC rfl ?_)) (by repeat (first | exact oN | refine oC rfl ?_)) rfl (Vw.le.refl _)
 ·
  simp only [Xa, Xb, Xc, Xd, Xe, Xf, Xg, Xh, Xi, Xj, Xk, Xl, Xm, Xn, Xo, Xp] at h
  refine c_exit (x_then_exit (x_then_exit (x_block_hit (x_then (c_seq ?_)))))
  refine c_region ?_
  iterate 2 refine yO rfl rfl rfl rfl ?_
  refine o_end [2] rfl ?_
  refine x_then (c_ret ?_)
  refine b_ret tok rfl ?_
  have hil : i = l.length := by omega
  subst hil
  rw [List.drop_length, wholeFrom] at hw
  intro E w' hm _
  refine ⟨?_, hm.below (Vw.le.refl _)⟩
  rw [hw]; rfl
def RowR (L : List Record) (w : World) (e : Ending) (w' : World) : Prop :=
 (∃ v, e = .returned v ∧ w'.ownsRow w.heap.size 74 6 v L.length (L.flatMap Record.cells)) ∧ Below w.heap.size w w'
def RowRV (L : List Record) (x : Value) (V' : Vw) : Prop := ∃ a n c, x = .slice a n c ∧ SlOf V' Record.cells 6 (.slice a n c) L
theorem rowR_V {V : Vw} {f : Nat} {L : List Record} {args : Array Value} {w : World} (hV : V.le (vw w)) (h : Calls Tryz.prog f args w (RowR L w)) :
  Calls Tryz.prog f args w fun e w' => ∃ x V', e = .returned x ∧ Below w.heap.size w w' ∧ Vext w.heap.size V V' w' ∧ RowRV L x V' := by
 refine h.mono ?_
 rintro e w' ⟨⟨v, rfl, hown⟩, hb⟩
 obtain ⟨V', hx, hsl⟩ := ownsRow_vext hV hb hown
 obtain ⟨a, n, c, rfl⟩ := sl_shape hsl
 exact ⟨_, V', rfl, hb, hx, a, n, c, rfl, hsl, fun _ => rfl⟩
theorem rWhole17_c (V : Vw) (sv : Value) (l : List Record) (w : World) (hV : V.le (vw w)) (hs0 : SlOf V Record.cells 6 sv l) (hn : l.length ≤ 1000000) :
  Calls Tryz.prog 32 #[sv] w (RowR (l.take (whole l)) w) := by
 have hs := hs0.mono hV
 have hw := whole_le l
 have hl : (l.take (whole l)).length = whole l := by rw [List.length_take]; omega
 have hcut : SlOf (vw w) Record.cells 6 (sliceV sv 0 (whole l) 6) (l.take (whole l)) := by
  have := hs.cut (lo := 0) (hi := whole l) (by omega) hw
  simpa using this
 refine enter (E := E0) (O := []) (nl := 0) (V := vw w) [.a (.v sv)] Tryz.func32 rfl rfl (mem0 E0 0 w) rfl rfl ?_
 refine c_seq (c_region ?_)
 refine yO rfl rfl rfl rfl ?_
 refine o_end [0] rfl ?_
 refine x_then (c_seq (c_region ?_))
 refine o_step rfl rfl rfl rfl rfl (s_bs tok 6 rfl rfl rfl) (fun _ _ => ?_)
 iterate 2 refine yO rfl rfl rfl rfl ?_
 refine o_call (.a (.v _)) rfl rfl fnok44 rfl rfl rfl (fun hg E w1 hm => by exact rwhole_c (vw w) _ l _ hm.leV hs hn) ?_
 refine o_yield rfl rfl rfl (y_sl tok rfl (fun hg => hs.sl) (fun hg => by dsimp only [Option.getD]; omega)) ?_
 rw [show ((some ((whole l : Nat) : Int)).getD (l.length : Int)).toNat = whole l by simp [Option.getD]]
 refine o_step rfl rfl rfl rfl rfl (s_app tok ((l.take (whole l)).flatMap Record.cells) rfl (fun E w hm => hcut.sl.src hm.get) (fun _ _ _ => rec_ones _) (by dsimp only; omega)) (fun _ _ => ?_)
 refine yO rfl rfl rfl rfl ?_
 refine o_end [2] rfl ?_
 refine x_then (c_ret ?_)
 refine b_ret tok rfl ?_
 rw [List.nil_append, Nat.zero_add (l.take (whole l)).length]
 intro E w' hm _
 exact ⟨⟨E.κ 1, rfl, hm.rowFresh (Vw.le.refl _) (l := 1) rfl⟩, hm.below (Vw.le.refl _)⟩
end Go.Proofs.YtlafboeohojcbaaGreat
