import Derived.Test.YtikdaehmaaogdaaMRp1
/- Replays compared; what the document says of a journal without records. -/
set_option linter.unusedVariables false
set_option linter.unusedSimpArgs false
set_option maxRecDepth 100000
namespace Go.Proofs.Ytikdaehmaaogdaa
open Go Go.Eng Go.RowKit

theorem rp_read_empty : readB ByteArray.empty = false := by
  have h : ofB 6 ByteArray.empty = false := by
    unfold ofB openB
    simp
  unfold readB
  simp [fieldsR, h]

theorem rp_isB_empty (key lsn : Int) : isB ByteArray.empty key lsn = false := by rw [isB, rp_read_empty]; rfl

/-- A header's text for a small tail, by what it is alone. -/
theorem headT {n : Int} (h : fitsB n 6 = true) : ∃ sv : ByteArray, headS n = (sv, 0) ∧ tailOk sv = some n ∧ sv.size ≤ maxLen := by
  have e : headS n = (strOf (sealL 2 (leB 6 n)), 0) := by rw [headS, if_pos h]
  have ht := tail_head h
  rw [e] at ht
  refine ⟨strOf (sealL 2 (leB 6 n)), e, ht, ?_⟩
  simp only [strOf_size, sealL_len, maxLen]
  have : (leB 6 n).length = 6 := by simp [leB, leTake_len]
  omega

abbrev geo21 : Geo := ⟨1, 1, 2, 1, 4, 8, 1, 2⟩
theorem geo21_ok : geo21.Ok := by constructor <;> simp [R64]
theorem geo21_b : geoB geo21 = true := by decide
theorem geo21_c (w : World) : Calls Try.prog 46 #[] w fun e w' => e = .returned geo21.val ∧ Below w.heap.size w w' := by
  refine enter (E := E0) (O := []) (nl := 0) (V := vw w) [] Try.func46 rfl rfl (mem0 E0 0 w) rfl rfl ?_
  refine c_seq ?_
  refine c_region ?_
  refine o_new tok rfl rfl rfl rfl ?_
  refine o_end [0] rfl ?_
  refine x_then ?_
  refine c_seq ?_
  refine c_region ?_
  refine o_yield rfl rfl rfl (y_val tok rfl) ?_
  refine o_store tok rfl rfl rfl (by first | exact ⟨trivial, trivial⟩ | (repeat' first | exact trivial | exact rfl | apply And.intro); done | simp [onesP, oneP, lk, Value.oneCell']) ?_
  refine o_end [0] rfl ?_
  refine x_then ?_
  refine c_ret ?_
  refine b_ret tok rfl ?_
  intro E w' hm _
  refine ⟨?_, hm.below (Vw.le.refl _)⟩
  rfl

theorem most21_c (w : World) : Calls Try.prog 49 #[geo21.val] w fun e w' => e = .returned (I 8) ∧ Below w.heap.size w w' := by
  refine enter (E := E0) (O := []) (nl := 0) (V := vw w) [.a (.v geo21.val)] Try.func49 rfl rfl (mem0 E0 0 w) rfl rfl ?_
  refine c_seq ?_
  refine c_region ?_
  refine o_new tok rfl rfl rfl rfl ?_
  refine o_yield rfl rfl rfl (y_val tok rfl) ?_
  refine o_end [1] rfl ?_
  refine x_then ?_
  refine c_seq ?_
  refine c_region ?_
  refine o_yield rfl rfl rfl (y_val tok rfl) ?_
  refine o_yield rfl rfl rfl (y_val tok rfl) ?_
  refine o_yield rfl rfl rfl (y_val tok rfl) ?_
  refine o_yield rfl rfl rfl (y_val tok rfl) ?_
  refine o_yield rfl rfl rfl (y_val tok rfl) ?_
  refine o_yield rfl rfl rfl (y_val tok rfl) ?_
  refine o_yield rfl rfl rfl (y_val tok rfl) ?_
  refine o_yield rfl rfl rfl (y_val tok rfl) ?_
  refine o_yield rfl rfl rfl (y_val tok rfl) ?_
  refine o_yield rfl rfl rfl (y_val tok rfl) ?_
  refine o_end [2] rfl ?_
  refine x_then ?_
  refine c_ret ?_
  refine b_ret tok rfl ?_
  intro E w' hm _
  refine ⟨?_, hm.below (Vw.le.refl _)⟩
  rfl

theorem begin21_c (w : World) : Calls Try.prog 7 #[geo21.val, I 0, I 16] w fun e w' => e = .returned (.tuple #[rpV 0 16 0 0 (.slice none 0 0) (.slice none 0 0) 0 0, I 0]) ∧ Below w.heap.size w w' := by
  refine (rbegin_c geo21 geo21_ok 0 16 w).mono ?_
  rintro e w' ⟨hb, ⟨_, _, _, he⟩ | ⟨hn, _⟩⟩
  · exact ⟨he, hb⟩
  · exact absurd (by decide) hn

theorem wakes21_c (w : World) : Calls Try.prog 8 #[] w fun e w' => e = .returned (.bool true) ∧ Below w.heap.size w w' := by
  obtain ⟨sv, hsv, htl, hsz⟩ := headT (n := 7) (by decide)
  have hh := fun w => refHeadS_c 7 w
  rw [hsv] at hh
  have htv : tailV sv = 7 ∧ tailE sv = 0 := by rw [tailV, tailE, htl]; exact ⟨rfl, rfl⟩
  have hw0 := fun w => rpWant0_c geo21 geo21_ok 0 16 0 (.slice none 0 0) (.slice none 0 0) 0 0 w
  have ht0 : ∀ w, Calls Try.prog 10 #[geo21.val, rpV 0 16 0 0 (.slice none 0 0) (.slice none 0 0) 0 0, S sv] w fun e w' => e = .returned (.tuple #[rpV 0 16 1 7 (.slice none 0 0) (.slice none 0 0) 0 0, .bool false, I 0]) ∧ Below w.heap.size w w' := fun w => (rpTake0_c geo21 geo21_ok 0 16 0 none none 0 0 0 0 0 0 sv hsz w).mono (by
    rintro e w' ⟨hb, ⟨_, he⟩ | ⟨hn, _⟩⟩
    · exact ⟨by rw [he, htv.1], hb⟩
    · exact absurd htv.2 hn)
  have hnil := fun V => slNil V Record.cells 6 0 (fun _ => rfl)
  have hw1 := fun w => rpWant1_c (vw w) geo21 geo21_ok 0 16 7 none 0 0 (.slice none 0 0) 0 0 [] w (hnil _)
  have hrl : rowL [] ByteArray.empty 16 7 = [] := by rw [rowL, rp_isB_empty, if_neg (by simp)]
  have hrd : rowD geo21 [] ByteArray.empty 16 7 = true := by rw [rowD, rp_isB_empty]; rfl
  have ht1 := fun V w hV => rpTake1_c V geo21 geo21_ok geo21_b 0 16 7 none 0 0 none 0 0 0 0 [] ByteArray.empty (by simp) w hV (hnil _) (by simp) 7 (by decide) (by rw [hrl]; rfl)
  rw [hrl, hrd] at ht1
  have hw3 := fun lv w => rpWant3_c geo21 geo21_ok 0 16 7 lv (.slice none 0 0) 0 7 w
  have htK : tailK geo21 0 7 = 2 ∧ tailN geo21 0 7 = headV geo21 0 ∧ tailT geo21 0 7 = sv := by
    have h0 : (headS 7).2 = 0 ∧ 0 ≤ headV geo21 0 := ⟨by rw [hsv], by decide⟩
    rw [tailK, tailN, tailT, if_pos h0, if_pos h0, if_pos h0, hsv]
    exact ⟨rfl, rfl, rfl⟩
  rw [htK.1, htK.2.1, htK.2.2] at hw3
  refine enter (E := E0) (O := []) (nl := 0) (V := vw w) [] Try.func8 rfl rfl (mem0 E0 0 w) rfl rfl ?_
  refine c_seq ?_
  refine c_region ?_
  refine o_yield rfl rfl rfl (y_val tok rfl) ?_
  refine o_end [] rfl ?_
  refine x_then ?_
  refine c_seq ?_
  refine c_region ?_
  refine o_call (.a (.v _)) rfl rfl fnok12 rfl rfl rfl (fun hg E w1 hm => by exact hh _) ?_
  refine o_yield rfl rfl rfl (y_val tok rfl) ?_
  refine o_yield rfl rfl rfl (y_val tok rfl) ?_
  refine o_yield rfl rfl rfl (y_val tok rfl) ?_
  refine o_yield rfl rfl rfl (y_val tok rfl) ?_
  refine o_yield rfl rfl rfl (y_val tok rfl) ?_
  refine o_end [1] rfl ?_
  refine x_then ?_
  refine c_seq ?_
  refine c_region ?_
  refine o_call (.a (.v _)) rfl rfl fnok46 rfl rfl rfl (fun hg E w1 hm => by exact geo21_c _) ?_
  refine o_call (.a (.v _)) rfl rfl fnok7 rfl rfl rfl (fun hg E w1 hm => by exact begin21_c _) ?_
  refine o_yield rfl rfl rfl (y_val tok rfl) ?_
  refine o_yield rfl rfl rfl (y_val tok rfl) ?_
  refine o_yield rfl rfl rfl (y_val tok rfl) ?_
  refine o_new tok rfl rfl rfl rfl ?_
  refine o_store tok rfl rfl rfl (by first | exact ⟨trivial, trivial⟩ | (repeat' first | exact trivial | exact rfl | apply And.intro); done | simp [onesP, oneP, lk, Value.oneCell']) ?_
  refine o_yield rfl rfl rfl (y_val tok rfl) ?_
  refine o_end [1, 3, 4] rfl ?_
  refine x_then ?_
  refine c_seq ?_
  refine k_trim [1, 3, 4] [] 1 rfl rfl (by repeat (first | exact SubF.nil | refine SubF.cons rfl ?_)) (by repeat (first | exact SubO.nil | refine SubO.cons rfl ?_)) rfl ?_
  refine c_heldM (σ := Unit) (fun _ => [(1, .a (.v (S sv))), (3, .a (.ptr 0 0)), (4, .a (.v (I 0))), (5, .a (.ptr 1 0))]) (fun _ => [(0, .lit ((rpL 0 16 0 0 (.slice none 0 0) (.slice none 0 0) 0 0).map .v) 30), (1, .lit [.v (I8 (readK (headV geo21 0))), .v (I (readN (headV geo21 0))), .v (S ByteArray.empty), .v (I 0)] 81)]) (2) (fun _ => vw w) (fun _ => True) mixed ?_ ?_
  ·
    refine t_take 1 rfl (by kernel_rfl) rfl rfl rfl (y_val tok rfl) rfl ?_
    refine t_go ?_
    refine h_two 0 3 (by kernel_rfl) ?_ ?_
    ·
      refine h_call 0 (.a (.v geo21.val)) rfl rfl rfl fnok46 rfl rfl rfl (fun hg E w1 hm => by exact geo21_c _) ?_
      refine h_two 2 3 (by kernel_rfl) ?_ ?_
      ·
        refine h_call 2 (.a (.v (actV (readK (headV geo21 0)) (readN (headV geo21 0)) ByteArray.empty))) rfl rfl rfl fnok47 rfl rfl rfl (fun hg E w1 hm => by exact hw0 _) ?_
        refine h_one 3 (by kernel_rfl) ?_
        refine h_new 3 tok rfl rfl rfl rfl rfl rfl ?_
        refine h_one 4 (by kernel_rfl) ?_
        refine h_store 4 tok rfl rfl rfl rfl (by first | exact ⟨trivial, trivial⟩ | (repeat' first | exact trivial | exact rfl | apply And.intro); done | simp [onesP, oneP, lk, Value.oneCell']) (.inr ⟨(by repeat (first | exact SubO.nil | refine SubO.cons rfl ?_)), rfl, (by first | exact Vw.le.refl _ | assumption)⟩) ?_
        refine h_done [1, 3, 4, 5] (by kernel_rfl) rfl ?_
        exact x_meet () trivial (by repeat (first | exact SubF.nil | refine SubF.cons rfl ?_)) (by repeat (first | exact SubO.nil | refine SubO.cons rfl ?_)) rfl (Vw.le.refl _)
      ·
        refine h_new 3 tok rfl rfl rfl rfl rfl rfl ?_
        refine h_one 2 (by kernel_rfl) ?_
        refine h_call 2 (.a (.v (actV (readK (headV geo21 0)) (readN (headV geo21 0)) ByteArray.empty))) rfl rfl rfl fnok47 rfl rfl rfl (fun hg E w1 hm => by exact hw0 _) ?_
        refine h_one 4 (by kernel_rfl) ?_
        refine h_store 4 tok rfl rfl rfl rfl (by first | exact ⟨trivial, trivial⟩ | (repeat' first | exact trivial | exact rfl | apply And.intro); done | simp [onesP, oneP, lk, Value.oneCell']) (.inr ⟨(by repeat (first | exact SubO.nil | refine SubO.cons rfl ?_)), rfl, (by first | exact Vw.le.refl _ | assumption)⟩) ?_
        refine h_done [1, 3, 4, 5] (by kernel_rfl) rfl ?_
        exact x_meet () trivial (by repeat (first | exact SubF.nil | refine SubF.cons rfl ?_)) (by repeat (first | exact SubO.nil | refine SubO.cons rfl ?_)) rfl (Vw.le.refl _)
    ·
      refine h_new 3 tok rfl rfl rfl rfl rfl rfl ?_
      refine h_one 0 (by kernel_rfl) ?_
      refine h_call 0 (.a (.v geo21.val)) rfl rfl rfl fnok46 rfl rfl rfl (fun hg E w1 hm => by exact geo21_c _) ?_
      refine h_one 2 (by kernel_rfl) ?_
      refine h_call 2 (.a (.v (actV (readK (headV geo21 0)) (readN (headV geo21 0)) ByteArray.empty))) rfl rfl rfl fnok47 rfl rfl rfl (fun hg E w1 hm => by exact hw0 _) ?_
      refine h_one 4 (by kernel_rfl) ?_
      refine h_store 4 tok rfl rfl rfl rfl (by first | exact ⟨trivial, trivial⟩ | (repeat' first | exact trivial | exact rfl | apply And.intro); done | simp [onesP, oneP, lk, Value.oneCell']) (.inr ⟨(by repeat (first | exact SubO.nil | refine SubO.cons rfl ?_)), rfl, (by first | exact Vw.le.refl _ | assumption)⟩) ?_
      refine h_done [1, 3, 4, 5] (by kernel_rfl) rfl ?_
      exact x_meet () trivial (by repeat (first | exact SubF.nil | refine SubF.cons rfl ?_)) (by repeat (first | exact SubO.nil | refine SubO.cons rfl ?_)) rfl (Vw.le.refl _)
  rintro ⟨⟩ -
  refine x_then ?_
  refine c_seq ?_
  refine c_heldS [8] mixed rfl (by repeat (first | exact SubO.nil | refine SubO.cons rfl ?_)) (by first | rfl | simp [okCels, allOk_plain]) ?_
  refine t_takeD 1 rfl (by kernel_rfl) rfl rfl rfl (y_val tok rfl) rfl ?_
  refine t_takeD 2 rfl (by kernel_rfl) rfl rfl rfl (y_val tok rfl) rfl ?_
  refine t_go ?_
  refine h_one 0 (by kernel_rfl) ?_
  refine h_call 0 (.a (.v _)) rfl rfl rfl fnok46 rfl rfl rfl (fun hg E w1 hm => by exact geo21_c _) ?_
  refine h_one 3 (by kernel_rfl) ?_
  refine h_call 3 (.a (.v _)) rfl rfl rfl fnok10 rfl rfl rfl (fun hg E w1 hm => by exact ht0 _) ?_
  refine h_one 4 (by kernel_rfl) ?_
  refine h_yield 4 rfl rfl rfl rfl (y_val tok rfl) ?_
  refine h_takeD 5 rfl (by kernel_rfl) rfl rfl rfl rfl (y_val tok rfl) rfl ?_
  refine h_takeR 6 rfl (by kernel_rfl) rfl rfl rfl (fun _ => y_val tok rfl) rfl ?_
  refine h_takeR 7 rfl (by kernel_rfl) rfl rfl rfl (fun _ => y_val tok rfl) rfl ?_
  refine h_one 8 (by kernel_rfl) ?_
  refine h_store 8 tok rfl rfl rfl rfl (by first | exact ⟨trivial, trivial⟩ | (repeat' first | exact trivial | exact rfl | apply And.intro); done | simp [onesP, oneP, lk, Value.oneCell']) (.inl rfl) ?_
  refine h_one 9 (by kernel_rfl) ?_
  refine h_yield 9 rfl rfl rfl rfl (y_val tok rfl) ?_
  refine h_one 10 (by kernel_rfl) ?_
  refine h_yield 10 rfl rfl rfl rfl (y_val tok rfl) ?_
  refine h_done [1, 3, 4, 5, 6, 7] (by kernel_rfl) rfl ?_
  refine x_then ?_
  refine c_seq ?_
  refine k_trim [1, 3, 4, 5, 6, 7] [] 2 rfl rfl (by repeat (first | exact SubF.nil | refine SubF.cons rfl ?_)) (by repeat (first | exact SubO.nil | refine SubO.cons rfl ?_)) rfl ?_
  refine c_heldM (σ := Unit) (fun _ => [(1, .a (.v (S sv))), (3, .a (.ptr 0 0)), (4, .a (.v (I 0))), (5, .a (.ptr 1 0)), (6, .a (.v (.bool false))), (7, .a (.v (I 0))), (8, .a (.ptr 2 0))]) (fun _ => [(0, .lit ((rpL 0 16 1 7 (.slice none 0 0) (.slice none 0 0) 0 0).map .v) 30), (1, .lit [.v (I8 (readK (headV geo21 0))), .v (I (readN (headV geo21 0))), .v (S ByteArray.empty), .v (I 0)] 81), (2, .lit [.v (I8 (readK (jourV geo21 0 (IntKind.i64.wrap (7 + (([] : List Record).length : Int)))))), .v (I (readN (jourV geo21 0 (IntKind.i64.wrap (7 + (([] : List Record).length : Int)))))), .v (S ByteArray.empty), .v (I 0)] 81)]) (3) (fun _ => vw w) (fun _ => True) mixed ?_ ?_
  ·
    refine t_take 1 rfl (by kernel_rfl) rfl rfl rfl (y_val tok rfl) rfl ?_
    refine t_go ?_
    refine h_two 0 3 (by kernel_rfl) ?_ ?_
    ·
      refine h_call 0 (.a (.v geo21.val)) rfl rfl rfl fnok46 rfl rfl rfl (fun hg E w1 hm => by exact geo21_c _) ?_
      refine h_two 2 3 (by kernel_rfl) ?_ ?_
      ·
        refine h_call 2 (.a (.v (actV (readK (jourV geo21 0 (IntKind.i64.wrap (7 + (([] : List Record).length : Int))))) (readN (jourV geo21 0 (IntKind.i64.wrap (7 + (([] : List Record).length : Int))))) ByteArray.empty))) rfl rfl rfl fnok47 rfl rfl rfl (fun hg E w1 hm => by exact hw1 _) ?_
        refine h_one 3 (by kernel_rfl) ?_
        refine h_new 3 tok rfl rfl rfl rfl rfl rfl ?_
        refine h_one 4 (by kernel_rfl) ?_
        refine h_store 4 tok rfl rfl rfl rfl (by first | exact ⟨trivial, trivial⟩ | (repeat' first | exact trivial | exact rfl | apply And.intro); done | simp [onesP, oneP, lk, Value.oneCell']) (.inr ⟨(by repeat (first | exact SubO.nil | refine SubO.cons rfl ?_)), rfl, (by first | exact Vw.le.refl _ | assumption)⟩) ?_
        refine h_done [1, 3, 4, 5, 6, 7, 8] (by kernel_rfl) rfl ?_
        exact x_meet () trivial (by repeat (first | exact SubF.nil | refine SubF.cons rfl ?_)) (by repeat (first | exact SubO.nil | refine SubO.cons rfl ?_)) rfl (Vw.le.refl _)
      ·
        refine h_new 3 tok rfl rfl rfl rfl rfl rfl ?_
        refine h_one 2 (by kernel_rfl) ?_
        refine h_call 2 (.a (.v (actV (readK (jourV geo21 0 (IntKind.i64.wrap (7 + (([] : List Record).length : Int))))) (readN (jourV geo21 0 (IntKind.i64.wrap (7 + (([] : List Record).length : Int))))) ByteArray.empty))) rfl rfl rfl fnok47 rfl rfl rfl (fun hg E w1 hm => by exact hw1 _) ?_
        refine h_one 4 (by kernel_rfl) ?_
        refine h_store 4 tok rfl rfl rfl rfl (by first | exact ⟨trivial, trivial⟩ | (repeat' first | exact trivial | exact rfl | apply And.intro); done | simp [onesP, oneP, lk, Value.oneCell']) (.inr ⟨(by repeat (first | exact SubO.nil | refine SubO.cons rfl ?_)), rfl, (by first | exact Vw.le.refl _ | assumption)⟩) ?_
        refine h_done [1, 3, 4, 5, 6, 7, 8] (by kernel_rfl) rfl ?_
        exact x_meet () trivial (by repeat (first | exact SubF.nil | refine SubF.cons rfl ?_)) (by repeat (first | exact SubO.nil | refine SubO.cons rfl ?_)) rfl (Vw.le.refl _)
    ·
      refine h_new 3 tok rfl rfl rfl rfl rfl rfl ?_
      refine h_one 0 (by kernel_rfl) ?_
      refine h_call 0 (.a (.v geo21.val)) rfl rfl rfl fnok46 rfl rfl rfl (fun hg E w1 hm => by exact geo21_c _) ?_
      refine h_one 2 (by kernel_rfl) ?_
      refine h_call 2 (.a (.v (actV (readK (jourV geo21 0 (IntKind.i64.wrap (7 + (([] : List Record).length : Int))))) (readN (jourV geo21 0 (IntKind.i64.wrap (7 + (([] : List Record).length : Int))))) ByteArray.empty))) rfl rfl rfl fnok47 rfl rfl rfl (fun hg E w1 hm => by exact hw1 _) ?_
      refine h_one 4 (by kernel_rfl) ?_
      refine h_store 4 tok rfl rfl rfl rfl (by first | exact ⟨trivial, trivial⟩ | (repeat' first | exact trivial | exact rfl | apply And.intro); done | simp [onesP, oneP, lk, Value.oneCell']) (.inr ⟨(by repeat (first | exact SubO.nil | refine SubO.cons rfl ?_)), rfl, (by first | exact Vw.le.refl _ | assumption)⟩) ?_
      refine h_done [1, 3, 4, 5, 6, 7, 8] (by kernel_rfl) rfl ?_
      exact x_meet () trivial (by repeat (first | exact SubF.nil | refine SubF.cons rfl ?_)) (by repeat (first | exact SubO.nil | refine SubO.cons rfl ?_)) rfl (Vw.le.refl _)
  rintro ⟨⟩ -
  refine x_then ?_
  refine c_seq ?_
  refine c_heldS [7] mixed rfl (by repeat (first | exact SubO.nil | refine SubO.cons rfl ?_)) (by first | rfl | simp [okCels, allOk_plain]) ?_
  refine t_takeD 1 rfl (by kernel_rfl) rfl rfl rfl (y_val tok rfl) rfl ?_
  refine t_go ?_
  refine h_one 0 (by kernel_rfl) ?_
  refine h_call 0 (.a (.v _)) rfl rfl rfl fnok46 rfl rfl rfl (fun hg E w1 hm => by exact geo21_c _) ?_
  refine h_one 2 (by kernel_rfl) ?_
  refine h_callV 2 (fun v V' => ∃ ra rn rc, v = .tuple #[rpR true 0 16 7 ra rn rc none 0 0 0 0, .bool false, I 0] ∧ SlOf V' Record.cells 6 (.slice ra rn rc) []) rfl rfl rfl fnok10 rfl rfl (fun hg E w1 hm => by exact ht1 (vw w) _ hm.leV) ?_
  rintro v V1 hle1 hv
  obtain ⟨ra, rn, rc, rfl, _⟩ := hv rfl
  refine h_one 3 (by kernel_rfl) ?_
  refine h_yield 3 rfl rfl rfl rfl (y_val tok rfl) ?_
  refine h_takeD 4 rfl (by kernel_rfl) rfl rfl rfl rfl (y_val tok rfl) rfl ?_
  refine h_takeR 5 rfl (by kernel_rfl) rfl rfl rfl (fun _ => y_val tok rfl) rfl ?_
  refine h_takeR 6 rfl (by kernel_rfl) rfl rfl rfl (fun _ => y_val tok rfl) rfl ?_
  refine h_one 7 (by kernel_rfl) ?_
  refine h_store 7 tok rfl rfl rfl rfl (by first | exact ⟨trivial, trivial⟩ | (repeat' first | exact trivial | exact rfl | apply And.intro); done | simp [onesP, oneP, lk, Value.oneCell']) (.inl rfl) ?_
  refine h_one 8 (by kernel_rfl) ?_
  refine h_yield 8 rfl rfl rfl rfl (y_val tok rfl) ?_
  refine h_one 9 (by kernel_rfl) ?_
  refine h_yield 9 rfl rfl rfl rfl (y_val tok rfl) ?_
  refine h_done [1, 3, 4, 5, 6, 7, 8, 9, 10] (by kernel_rfl) rfl ?_
  refine x_then ?_
  refine c_seq ?_
  refine k_trim [1, 3, 4, 5, 6, 7, 8, 9, 10] [] 3 rfl rfl (by repeat (first | exact SubF.nil | refine SubF.cons rfl ?_)) (by repeat (first | exact SubO.nil | refine SubO.cons rfl ?_)) rfl ?_
  refine c_heldM (σ := Unit) (fun _ => [(1, .a (.v (S sv))), (3, .a (.ptr 0 0)), (4, .a (.v (I 0))), (5, .a (.ptr 1 0)), (6, .a (.v (.bool false))), (7, .a (.v (I 0))), (8, .a (.ptr 2 0)), (9, .a (.v (.bool false))), (10, .a (.v (I 0))), (11, .a (.ptr 3 0))]) (fun _ => [(0, .lit ((rpL 0 16 3 7 (.slice ra rn rc) (.slice none 0 0) 0 7).map .v) 30), (1, .lit [.v (I8 (readK (headV geo21 0))), .v (I (readN (headV geo21 0))), .v (S ByteArray.empty), .v (I 0)] 81), (2, .lit [.v (I8 (readK (jourV geo21 0 (IntKind.i64.wrap (7 + (([] : List Record).length : Int)))))), .v (I (readN (jourV geo21 0 (IntKind.i64.wrap (7 + (([] : List Record).length : Int)))))), .v (S ByteArray.empty), .v (I 0)] 81), (3, .lit [.v (I8 2), .v (I (headV geo21 0)), .v (S sv), .v (I 0)] 81)]) (4) (fun _ => V1) (fun _ => True) mixed ?_ ?_
  ·
    refine t_take 1 rfl (by kernel_rfl) rfl rfl rfl (y_val tok rfl) rfl ?_
    refine t_go ?_
    refine h_two 0 3 (by kernel_rfl) ?_ ?_
    ·
      refine h_call 0 (.a (.v geo21.val)) rfl rfl rfl fnok46 rfl rfl rfl (fun hg E w1 hm => by exact geo21_c _) ?_
      refine h_two 2 3 (by kernel_rfl) ?_ ?_
      ·
        refine h_call 2 (.a (.v (actV 2 (headV geo21 0) sv))) rfl rfl rfl fnok47 rfl rfl rfl (fun hg E w1 hm => by exact hw3 _ _) ?_
        refine h_one 3 (by kernel_rfl) ?_
        refine h_new 3 tok rfl rfl rfl rfl rfl rfl ?_
        refine h_one 4 (by kernel_rfl) ?_
        refine h_store 4 tok rfl rfl rfl rfl (by first | exact ⟨trivial, trivial⟩ | (repeat' first | exact trivial | exact rfl | apply And.intro); done | simp [onesP, oneP, lk, Value.oneCell']) (.inr ⟨(by repeat (first | exact SubO.nil | refine SubO.cons rfl ?_)), rfl, (by first | exact Vw.le.refl _ | assumption)⟩) ?_
        refine h_done [1, 3, 4, 5, 6, 7, 8, 9, 10, 11] (by kernel_rfl) rfl ?_
        exact x_meet () trivial (by repeat (first | exact SubF.nil | refine SubF.cons rfl ?_)) (by repeat (first | exact SubO.nil | refine SubO.cons rfl ?_)) rfl (Vw.le.refl _)
      ·
        refine h_new 3 tok rfl rfl rfl rfl rfl rfl ?_
        refine h_one 2 (by kernel_rfl) ?_
        refine h_call 2 (.a (.v (actV 2 (headV geo21 0) sv))) rfl rfl rfl fnok47 rfl rfl rfl (fun hg E w1 hm => by exact hw3 _ _) ?_
        refine h_one 4 (by kernel_rfl) ?_
        refine h_store 4 tok rfl rfl rfl rfl (by first | exact ⟨trivial, trivial⟩ | (repeat' first | exact trivial | exact rfl | apply And.intro); done | simp [onesP, oneP, lk, Value.oneCell']) (.inr ⟨(by repeat (first | exact SubO.nil | refine SubO.cons rfl ?_)), rfl, (by first | exact Vw.le.refl _ | assumption)⟩) ?_
        refine h_done [1, 3, 4, 5, 6, 7, 8, 9, 10, 11] (by kernel_rfl) rfl ?_
        exact x_meet () trivial (by repeat (first | exact SubF.nil | refine SubF.cons rfl ?_)) (by repeat (first | exact SubO.nil | refine SubO.cons rfl ?_)) rfl (Vw.le.refl _)
    ·
      refine h_new 3 tok rfl rfl rfl rfl rfl rfl ?_
      refine h_one 0 (by kernel_rfl) ?_
      refine h_call 0 (.a (.v geo21.val)) rfl rfl rfl fnok46 rfl rfl rfl (fun hg E w1 hm => by exact geo21_c _) ?_
      refine h_one 2 (by kernel_rfl) ?_
      refine h_call 2 (.a (.v (actV 2 (headV geo21 0) sv))) rfl rfl rfl fnok47 rfl rfl rfl (fun hg E w1 hm => by exact hw3 _ _) ?_
      refine h_one 4 (by kernel_rfl) ?_
      refine h_store 4 tok rfl rfl rfl rfl (by first | exact ⟨trivial, trivial⟩ | (repeat' first | exact trivial | exact rfl | apply And.intro); done | simp [onesP, oneP, lk, Value.oneCell']) (.inr ⟨(by repeat (first | exact SubO.nil | refine SubO.cons rfl ?_)), rfl, (by first | exact Vw.le.refl _ | assumption)⟩) ?_
      refine h_done [1, 3, 4, 5, 6, 7, 8, 9, 10, 11] (by kernel_rfl) rfl ?_
      exact x_meet () trivial (by repeat (first | exact SubF.nil | refine SubF.cons rfl ?_)) (by repeat (first | exact SubO.nil | refine SubO.cons rfl ?_)) rfl (Vw.le.refl _)
  rintro ⟨⟩ -
  refine x_then ?_
  refine c_seq ?_
  refine c_heldM (σ := Unit) (fun _ => [(1, .a (.v (S sv))), (4, .a (.v (I 0))), (5, .a (.ptr 1 0)), (6, .a (.v (.bool false))), (7, .a (.v (I 0))), (8, .a (.ptr 2 0)), (9, .a (.v (.bool false))), (10, .a (.v (I 0))), (11, .a (.ptr 3 0)), (12, .a (.ptr 4 0)), (13, .a (.v (.bool true))), (14, .a (.v (I 0)))]) (fun _ => [(4, .lit ((rpL 0 16 4 7 (.slice ra rn rc) (.slice none 0 0) 0 7).map .v) 30), (1, .lit [.v (I8 (readK (headV geo21 0))), .v (I (readN (headV geo21 0))), .v (S ByteArray.empty), .v (I 0)] 81), (2, .lit [.v (I8 (readK (jourV geo21 0 (IntKind.i64.wrap (7 + (([] : List Record).length : Int)))))), .v (I (readN (jourV geo21 0 (IntKind.i64.wrap (7 + (([] : List Record).length : Int)))))), .v (S ByteArray.empty), .v (I 0)] 81), (3, .lit [.v (I8 2), .v (I (headV geo21 0)), .v (S sv), .v (I 0)] 81)]) (5) (fun _ => V1) (fun _ => True) mixed ?_ ?_
  ·
    refine t_take 1 rfl (by kernel_rfl) rfl rfl rfl (y_val tok rfl) rfl ?_
    refine t_go ?_
    refine h_two 0 7 (by kernel_rfl) ?_ ?_
    ·
      refine h_call 0 (.a (.v geo21.val)) rfl rfl rfl fnok46 rfl rfl rfl (fun hg E w1 hm => by exact geo21_c _) ?_
      refine h_two 2 7 (by kernel_rfl) ?_ ?_
      ·
        refine h_call 2 (.a (.v (.tuple #[rpV 0 16 4 7 (.slice ra rn rc) (.slice none 0 0) 0 7, .bool true, I 0]))) rfl rfl rfl fnok10 rfl rfl rfl (fun hg E w1 hm => by exact rpTake3_c geo21 geo21_ok 0 16 7 _ _ _ _ _ _ 0 7 _ _) ?_
        refine h_two 3 7 (by kernel_rfl) ?_ ?_
        ·
          refine h_yield 3 rfl rfl rfl rfl (y_val tok rfl) ?_
          refine h_four 4 5 6 7 (by kernel_rfl) ?_ ?_ ?_ ?_
          ·
            refine h_yield 4 rfl rfl rfl rfl (y_val tok rfl) ?_
            refine h_three 5 6 7 (by kernel_rfl) ?_ ?_ ?_
            ·
              refine h_yield 5 rfl rfl rfl rfl (y_val tok rfl) ?_
              refine h_two 6 7 (by kernel_rfl) ?_ ?_
              ·
                refine h_yield 6 rfl rfl rfl rfl (y_val tok rfl) ?_
                refine h_one 7 (by kernel_rfl) ?_
                refine h_new 7 tok rfl rfl rfl rfl rfl rfl ?_
                refine h_one 8 (by kernel_rfl) ?_
                refine h_store 8 tok rfl rfl rfl rfl (by first | exact ⟨trivial, trivial⟩ | (repeat' first | exact trivial | exact rfl | apply And.intro); done | simp [onesP, oneP, lk, Value.oneCell']) (.inr ⟨(by repeat (first | exact SubO.nil | refine SubO.cons rfl ?_)), rfl, (by first | exact Vw.le.refl _ | assumption)⟩) ?_
                refine h_one 9 (by kernel_rfl) ?_
                refine h_yield 9 rfl rfl rfl rfl (y_val tok rfl) ?_
                refine h_one 10 (by kernel_rfl) ?_
                refine h_yield 10 rfl rfl rfl rfl (y_val tok rfl) ?_
                refine h_done [1, 4, 5, 6, 7, 8, 9, 10, 11, 12, 13, 14] (by kernel_rfl) rfl ?_
                exact x_meet () trivial (by repeat (first | exact SubF.nil | refine SubF.cons rfl ?_)) (by repeat (first | exact SubO.nil | refine SubO.cons rfl ?_)) rfl (Vw.le.refl _)
              ·
                refine h_new 7 tok rfl rfl rfl rfl rfl rfl ?_
                refine h_two 6 8 (by kernel_rfl) ?_ ?_
                ·
                  refine h_yield 6 rfl rfl rfl rfl (y_val tok rfl) ?_
                  refine h_one 8 (by kernel_rfl) ?_
                  refine h_store 8 tok rfl rfl rfl rfl (by first | exact ⟨trivial, trivial⟩ | (repeat' first | exact trivial | exact rfl | apply And.intro); done | simp [onesP, oneP, lk, Value.oneCell']) (.inr ⟨(by repeat (first | exact SubO.nil | refine SubO.cons rfl ?_)), rfl, (by first | exact Vw.le.refl _ | assumption)⟩) ?_
                  refine h_one 9 (by kernel_rfl) ?_
                  refine h_yield 9 rfl rfl rfl rfl (y_val tok rfl) ?_
                  refine h_one 10 (by kernel_rfl) ?_
                  refine h_yield 10 rfl rfl rfl rfl (y_val tok rfl) ?_
                  refine h_done [1, 4, 5, 6, 7, 8, 9, 10, 11, 12, 13, 14] (by kernel_rfl) rfl ?_
                  exact x_meet () trivial (by repeat (first | exact SubF.nil | refine SubF.cons rfl ?_)) (by repeat (first | exact SubO.nil | refine SubO.cons rfl ?_)) rfl (Vw.le.refl _)
                ·
                  refine h_store 8 tok rfl rfl rfl rfl (by first | exact ⟨trivial, trivial⟩ | (repeat' first | exact trivial | exact rfl | apply And.intro); done | simp [onesP, oneP, lk, Value.oneCell']) (.inr ⟨(by repeat (first | exact SubO.nil | refine SubO.cons rfl ?_)), rfl, (by first | exact Vw.le.refl _ | assumption)⟩) ?_
                  refine h_two 6 9 (by kernel_rfl) ?_ ?_
                  ·
                    refine h_yield 6 rfl rfl rfl rfl (y_val tok rfl) ?_
                    refine h_one 9 (by kernel_rfl) ?_
                    refine h_yield 9 rfl rfl rfl rfl (y_val tok rfl) ?_
                    refine h_one 10 (by kernel_rfl) ?_
                    refine h_yield 10 rfl rfl rfl rfl (y_val tok rfl) ?_
                    refine h_done [1, 4, 5, 6, 7, 8, 9, 10, 11, 12, 13, 14] (by kernel_rfl) rfl ?_
                    exact x_meet () trivial (by repeat (first | exact SubF.nil | refine SubF.cons rfl ?_)) (by repeat (first | exact SubO.nil | refine SubO.cons rfl ?_)) rfl (Vw.le.refl _)
                  ·
                    refine h_yield 9 rfl rfl rfl rfl (y_val tok rfl) ?_
                    refine h_one 6 (by kernel_rfl) ?_
                    refine h_yield 6 rfl rfl rfl rfl (y_val tok rfl) ?_
                    refine h_one 10 (by kernel_rfl) ?_
                    refine h_yield 10 rfl rfl rfl rfl (y_val tok rfl) ?_
                    refine h_done [1, 4, 5, 6, 7, 8, 9, 10, 11, 12, 13, 14] (by kernel_rfl) rfl ?_
                    exact x_meet () trivial (by repeat (first | exact SubF.nil | refine SubF.cons rfl ?_)) (by repeat (first | exact SubO.nil | refine SubO.cons rfl ?_)) rfl (Vw.le.refl _)
            ·
              refine h_yield 6 rfl rfl rfl rfl (y_val tok rfl) ?_
              refine h_two 5 7 (by kernel_rfl) ?_ ?_
              ·
                refine h_yield 5 rfl rfl rfl rfl (y_val tok rfl) ?_
                refine h_one 7 (by kernel_rfl) ?_
                refine h_new 7 tok rfl rfl rfl rfl rfl rfl ?_
                refine h_one 8 (by kernel_rfl) ?_
                refine h_store 8 tok rfl rfl rfl rfl (by first | exact ⟨trivial, trivial⟩ | (repeat' first | exact trivial | exact rfl | apply And.intro); done | simp [onesP, oneP, lk, Value.oneCell']) (.inr ⟨(by repeat (first | exact SubO.nil | refine SubO.cons rfl ?_)), rfl, (by first | exact Vw.le.refl _ | assumption)⟩) ?_
                refine h_one 9 (by kernel_rfl) ?_
                refine h_yield 9 rfl rfl rfl rfl (y_val tok rfl) ?_
                refine h_one 10 (by kernel_rfl) ?_
                refine h_yield 10 rfl rfl rfl rfl (y_val tok rfl) ?_
                refine h_done [1, 4, 5, 6, 7, 8, 9, 10, 11, 12, 13, 14] (by kernel_rfl) rfl ?_
                exact x_meet () trivial (by repeat (first | exact SubF.nil | refine SubF.cons rfl ?_)) (by repeat (first | exact SubO.nil | refine SubO.cons rfl ?_)) rfl (Vw.le.refl _)
              ·
                refine h_new 7 tok rfl rfl rfl rfl rfl rfl ?_
                refine h_two 5 8 (by kernel_rfl) ?_ ?_
                ·
                  refine h_yield 5 rfl rfl rfl rfl (y_val tok rfl) ?_
                  refine h_one 8 (by kernel_rfl) ?_
                  refine h_store 8 tok rfl rfl rfl rfl (by first | exact ⟨trivial, trivial⟩ | (repeat' first | exact trivial | exact rfl | apply And.intro); done | simp [onesP, oneP, lk, Value.oneCell']) (.inr ⟨(by repeat (first | exact SubO.nil | refine SubO.cons rfl ?_)), rfl, (by first | exact Vw.le.refl _ | assumption)⟩) ?_
                  refine h_one 9 (by kernel_rfl) ?_
                  refine h_yield 9 rfl rfl rfl rfl (y_val tok rfl) ?_
                  refine h_one 10 (by kernel_rfl) ?_
                  refine h_yield 10 rfl rfl rfl rfl (y_val tok rfl) ?_
                  refine h_done [1, 4, 5, 6, 7, 8, 9, 10, 11, 12, 13, 14] (by kernel_rfl) rfl ?_
                  exact x_meet () trivial (by repeat (first | exact SubF.nil | refine SubF.cons rfl ?_)) (by repeat (first | exact SubO.nil | refine SubO.cons rfl ?_)) rfl (Vw.le.refl _)
                ·
                  refine h_store 8 tok rfl rfl rfl rfl (by first | exact ⟨trivial, trivial⟩ | (repeat' first | exact trivial | exact rfl | apply And.intro); done | simp [onesP, oneP, lk, Value.oneCell']) (.inr ⟨(by repeat (first | exact SubO.nil | refine SubO.cons rfl ?_)), rfl, (by first | exact Vw.le.refl _ | assumption)⟩) ?_
                  refine h_one 5 (by kernel_rfl) ?_
                  refine h_yield 5 rfl rfl rfl rfl (y_val tok rfl) ?_
                  refine h_one 9 (by kernel_rfl) ?_
                  refine h_yield 9 rfl rfl rfl rfl (y_val tok rfl) ?_
                  refine h_one 10 (by kernel_rfl) ?_
                  refine h_yield 10 rfl rfl rfl rfl (y_val tok rfl) ?_
                  refine h_done [1, 4, 5, 6, 7, 8, 9, 10, 11, 12, 13, 14] (by kernel_rfl) rfl ?_
                  exact x_meet () trivial (by repeat (first | exact SubF.nil | refine SubF.cons rfl ?_)) (by repeat (first | exact SubO.nil | refine SubO.cons rfl ?_)) rfl (Vw.le.refl _)
            ·
              refine h_new 7 tok rfl rfl rfl rfl rfl rfl ?_
              refine h_three 5 6 8 (by kernel_rfl) ?_ ?_ ?_
              ·
                refine h_yield 5 rfl rfl rfl rfl (y_val tok rfl) ?_
                refine h_two 6 8 (by kernel_rfl) ?_ ?_
                ·
                  refine h_yield 6 rfl rfl rfl rfl (y_val tok rfl) ?_
                  refine h_one 8 (by kernel_rfl) ?_
                  refine h_store 8 tok rfl rfl rfl rfl (by first | exact ⟨trivial, trivial⟩ | (repeat' first | exact trivial | exact rfl | apply And.intro); done | simp [onesP, oneP, lk, Value.oneCell']) (.inr ⟨(by repeat (first | exact SubO.nil | refine SubO.cons rfl ?_)), rfl, (by first | exact Vw.le.refl _ | assumption)⟩) ?_
                  refine h_one 9 (by kernel_rfl) ?_
                  refine h_yield 9 rfl rfl rfl rfl (y_val tok rfl) ?_
                  refine h_one 10 (by kernel_rfl) ?_
                  refine h_yield 10 rfl rfl rfl rfl (y_val tok rfl) ?_
                  refine h_done [1, 4, 5, 6, 7, 8, 9, 10, 11, 12, 13, 14] (by kernel_rfl) rfl ?_
                  exact x_meet () trivial (by repeat (first | exact SubF.nil | refine SubF.cons rfl ?_)) (by repeat (first | exact SubO.nil | refine SubO.cons rfl ?_)) rfl (Vw.le.refl _)
                ·
                  refine h_store 8 tok rfl rfl rfl rfl (by first | exact ⟨trivial, trivial⟩ | (repeat' first | exact trivial | exact rfl | apply And.intro); done | simp [onesP, oneP, lk, Value.oneCell']) (.inr ⟨(by repeat (first | exact SubO.nil | refine SubO.cons rfl ?_)), rfl, (by first | exact Vw.le.refl _ | assumption)⟩) ?_
                  refine h_two 6 9 (by kernel_rfl) ?_ ?_
                  ·
                    refine h_yield 6 rfl rfl rfl rfl (y_val tok rfl) ?_
                    refine h_one 9 (by kernel_rfl) ?_
                    refine h_yield 9 rfl rfl rfl rfl (y_val tok rfl) ?_
                    refine h_one 10 (by kernel_rfl) ?_
                    refine h_yield 10 rfl rfl rfl rfl (y_val tok rfl) ?_
                    refine h_done [1, 4, 5, 6, 7, 8, 9, 10, 11, 12, 13, 14] (by kernel_rfl) rfl ?_
                    exact x_meet () trivial (by repeat (first | exact SubF.nil | refine SubF.cons rfl ?_)) (by repeat (first | exact SubO.nil | refine SubO.cons rfl ?_)) rfl (Vw.le.refl _)
                  ·
                    refine h_yield 9 rfl rfl rfl rfl (y_val tok rfl) ?_
                    refine h_one 6 (by kernel_rfl) ?_
                    refine h_yield 6 rfl rfl rfl rfl (y_val tok rfl) ?_
                    refine h_one 10 (by kernel_rfl) ?_
                    refine h_yield 10 rfl rfl rfl rfl (y_val tok rfl) ?_
                    refine h_done [1, 4, 5, 6, 7, 8, 9, 10, 11, 12, 13, 14] (by kernel_rfl) rfl ?_
                    exact x_meet () trivial (by repeat (first | exact SubF.nil | refine SubF.cons rfl ?_)) (by repeat (first | exact SubO.nil | refine SubO.cons rfl ?_)) rfl (Vw.le.refl _)
              ·
                refine h_yield 6 rfl rfl rfl rfl (y_val tok rfl) ?_
                refine h_two 5 8 (by kernel_rfl) ?_ ?_
                ·
                  refine h_yield 5 rfl rfl rfl rfl (y_val tok rfl) ?_
                  refine h_one 8 (by kernel_rfl) ?_
                  refine h_store 8 tok rfl rfl rfl rfl (by first | exact ⟨trivial, trivial⟩ | (repeat' first | exact trivial | exact rfl | apply And.intro); done | simp [onesP, oneP, lk, Value.oneCell']) (.inr ⟨(by repeat (first | exact SubO.nil | refine SubO.cons rfl ?_)), rfl, (by first | exact Vw.le.refl _ | assumption)⟩) ?_
                  refine h_one 9 (by kernel_rfl) ?_
                  refine h_yield 9 rfl rfl rfl rfl (y_val tok rfl) ?_
                  refine h_one 10 (by kernel_rfl) ?_
                  refine h_yield 10 rfl rfl rfl rfl (y_val tok rfl) ?_
                  refine h_done [1, 4, 5, 6, 7, 8, 9, 10, 11, 12, 13, 14] (by kernel_rfl) rfl ?_
                  exact x_meet () trivial (by repeat (first | exact SubF.nil | refine SubF.cons rfl ?_)) (by repeat (first | exact SubO.nil | refine SubO.cons rfl ?_)) rfl (Vw.le.refl _)
                ·
                  refine h_store 8 tok rfl rfl rfl rfl (by first | exact ⟨trivial, trivial⟩ | (repeat' first | exact trivial | exact rfl | apply And.intro); done | simp [onesP, oneP, lk, Value.oneCell']) (.inr ⟨(by repeat (first | exact SubO.nil | refine SubO.cons rfl ?_)), rfl, (by first | exact Vw.le.refl _ | assumption)⟩) ?_
                  refine h_one 5 (by kernel_rfl) ?_
                  refine h_yield 5 rfl rfl rfl rfl (y_val tok rfl) ?_
                  refine h_one 9 (by kernel_rfl) ?_
                  refine h_yield 9 rfl rfl rfl rfl (y_val tok rfl) ?_
                  refine h_one 10 (by kernel_rfl) ?_
                  refine h_yield 10 rfl rfl rfl rfl (y_val tok rfl) ?_
                  refine h_done [1, 4, 5, 6, 7, 8, 9, 10, 11, 12, 13, 14] (by kernel_rfl) rfl ?_
                  exact x_meet () trivial (by repeat (first | exact SubF.nil | refine SubF.cons rfl ?_)) (by repeat (first | exact SubO.nil | refine SubO.cons rfl ?_)) rfl (Vw.le.refl _)
              ·
                refine h_store 8 tok rfl rfl rfl rfl (by first | exact ⟨trivial, trivial⟩ | (repeat' first | exact trivial | exact rfl | apply And.intro); done | simp [onesP, oneP, lk, Value.oneCell']) (.inr ⟨(by repeat (first | exact SubO.nil | refine SubO.cons rfl ?_)), rfl, (by first | exact Vw.le.refl _ | assumption)⟩) ?_
                refine h_two 5 6 (by kernel_rfl) ?_ ?_
                ·
                  refine h_yield 5 rfl rfl rfl rfl (y_val tok rfl) ?_
                  refine h_two 6 9 (by kernel_rfl) ?_ ?_
                  ·
                    refine h_yield 6 rfl rfl rfl rfl (y_val tok rfl) ?_
                    refine h_one 9 (by kernel_rfl) ?_
                    refine h_yield 9 rfl rfl rfl rfl (y_val tok rfl) ?_
                    refine h_one 10 (by kernel_rfl) ?_
                    refine h_yield 10 rfl rfl rfl rfl (y_val tok rfl) ?_
                    refine h_done [1, 4, 5, 6, 7, 8, 9, 10, 11, 12, 13, 14] (by kernel_rfl) rfl ?_
                    exact x_meet () trivial (by repeat (first | exact SubF.nil | refine SubF.cons rfl ?_)) (by repeat (first | exact SubO.nil | refine SubO.cons rfl ?_)) rfl (Vw.le.refl _)
                  ·
                    refine h_yield 9 rfl rfl rfl rfl (y_val tok rfl) ?_
                    refine h_one 6 (by kernel_rfl) ?_
                    refine h_yield 6 rfl rfl rfl rfl (y_val tok rfl) ?_
                    refine h_one 10 (by kernel_rfl) ?_
                    refine h_yield 10 rfl rfl rfl rfl (y_val tok rfl) ?_
                    refine h_done [1, 4, 5, 6, 7, 8, 9, 10, 11, 12, 13, 14] (by kernel_rfl) rfl ?_
                    exact x_meet () trivial (by repeat (first | exact SubF.nil | refine SubF.cons rfl ?_)) (by repeat (first | exact SubO.nil | refine SubO.cons rfl ?_)) rfl (Vw.le.refl _)
                ·
                  refine h_yield 6 rfl rfl rfl rfl (y_val tok rfl) ?_
                  refine h_one 5 (by kernel_rfl) ?_
                  refine h_yield 5 rfl rfl rfl rfl (y_val tok rfl) ?_
                  refine h_one 9 (by kernel_rfl) ?_
                  refine h_yield 9 rfl rfl rfl rfl (y_val tok rfl) ?_
                  refine h_one 10 (by kernel_rfl) ?_
                  refine h_yield 10 rfl rfl rfl rfl (y_val tok rfl) ?_
                  refine h_done [1, 4, 5, 6, 7, 8, 9, 10, 11, 12, 13, 14] (by kernel_rfl) rfl ?_
                  exact x_meet () trivial (by repeat (first | exact SubF.nil | refine SubF.cons rfl ?_)) (by repeat (first | exact SubO.nil | refine SubO.cons rfl ?_)) rfl (Vw.le.refl _)
          ·
            refine h_yield 5 rfl rfl rfl rfl (y_val tok rfl) ?_
            refine h_three 4 6 7 (by kernel_rfl) ?_ ?_ ?_
            ·
              refine h_yield 4 rfl rfl rfl rfl (y_val tok rfl) ?_
              refine h_two 6 7 (by kernel_rfl) ?_ ?_
              ·
                refine h_yield 6 rfl rfl rfl rfl (y_val tok rfl) ?_
                refine h_one 7 (by kernel_rfl) ?_
                refine h_new 7 tok rfl rfl rfl rfl rfl rfl ?_
                refine h_one 8 (by kernel_rfl) ?_
                refine h_store 8 tok rfl rfl rfl rfl (by first | exact ⟨trivial, trivial⟩ | (repeat' first | exact trivial | exact rfl | apply And.intro); done | simp [onesP, oneP, lk, Value.oneCell']) (.inr ⟨(by repeat (first | exact SubO.nil | refine SubO.cons rfl ?_)), rfl, (by first | exact Vw.le.refl _ | assumption)⟩) ?_
                refine h_one 9 (by kernel_rfl) ?_
                refine h_yield 9 rfl rfl rfl rfl (y_val tok rfl) ?_
                refine h_one 10 (by kernel_rfl) ?_
                refine h_yield 10 rfl rfl rfl rfl (y_val tok rfl) ?_
                refine h_done [1, 4, 5, 6, 7, 8, 9, 10, 11, 12, 13, 14] (by kernel_rfl) rfl ?_
                exact x_meet () trivial (by repeat (first | exact SubF.nil | refine SubF.cons rfl ?_)) (by repeat (first | exact SubO.nil | refine SubO.cons rfl ?_)) rfl (Vw.le.refl _)
              ·
                refine h_new 7 tok rfl rfl rfl rfl rfl rfl ?_
                refine h_two 6 8 (by kernel_rfl) ?_ ?_
                ·
                  refine h_yield 6 rfl rfl rfl rfl (y_val tok rfl) ?_
                  refine h_one 8 (by kernel_rfl) ?_
                  refine h_store 8 tok rfl rfl rfl rfl (by first | exact ⟨trivial, trivial⟩ | (repeat' first | exact trivial | exact rfl | apply And.intro); done | simp [onesP, oneP, lk, Value.oneCell']) (.inr ⟨(by repeat (first | exact SubO.nil | refine SubO.cons rfl ?_)), rfl, (by first | exact Vw.le.refl _ | assumption)⟩) ?_
                  refine h_one 9 (by kernel_rfl) ?_
                  refine h_yield 9 rfl rfl rfl rfl (y_val tok rfl) ?_
                  refine h_one 10 (by kernel_rfl) ?_
                  refine h_yield 10 rfl rfl rfl rfl (y_val tok rfl) ?_
                  refine h_done [1, 4, 5, 6, 7, 8, 9, 10, 11, 12, 13, 14] (by kernel_rfl) rfl ?_
                  exact x_meet () trivial (by repeat (first | exact SubF.nil | refine SubF.cons rfl ?_)) (by repeat (first | exact SubO.nil | refine SubO.cons rfl ?_)) rfl (Vw.le.refl _)
                ·
                  refine h_store 8 tok rfl rfl rfl rfl (by first | exact ⟨trivial, trivial⟩ | (repeat' first | exact trivial | exact rfl | apply And.intro); done | simp [onesP, oneP, lk, Value.oneCell']) (.inr ⟨(by repeat (first | exact SubO.nil | refine SubO.cons rfl ?_)), rfl, (by first | exact Vw.le.refl _ | assumption)⟩) ?_
                  refine h_two 6 9 (by kernel_rfl) ?_ ?_
                  ·
                    refine h_yield 6 rfl rfl rfl rfl (y_val tok rfl) ?_
                    refine h_one 9 (by kernel_rfl) ?_
                    refine h_yield 9 rfl rfl rfl rfl (y_val tok rfl) ?_
                    refine h_one 10 (by kernel_rfl) ?_
                    refine h_yield 10 rfl rfl rfl rfl (y_val tok rfl) ?_
                    refine h_done [1, 4, 5, 6, 7, 8, 9, 10, 11, 12, 13, 14] (by kernel_rfl) rfl ?_
                    exact x_meet () trivial (by repeat (first | exact SubF.nil | refine SubF.cons rfl ?_)) (by repeat (first | exact SubO.nil | refine SubO.cons rfl ?_)) rfl (Vw.le.refl _)
                  ·
                    refine h_yield 9 rfl rfl rfl rfl (y_val tok rfl) ?_
                    refine h_one 6 (by kernel_rfl) ?_
                    refine h_yield 6 rfl rfl rfl rfl (y_val tok rfl) ?_
                    refine h_one 10 (by kernel_rfl) ?_
                    refine h_yield 10 rfl rfl rfl rfl (y_val tok rfl) ?_
                    refine h_done [1, 4, 5, 6, 7, 8, 9, 10, 11, 12, 13, 14] (by kernel_rfl) rfl ?_
                    exact x_meet () trivial (by repeat (first | exact SubF.nil | refine SubF.cons rfl ?_)) (by repeat (first | exact SubO.nil | refine SubO.cons rfl ?_)) rfl (Vw.le.refl _)
            ·
              refine h_yield 6 rfl rfl rfl rfl (y_val tok rfl) ?_
              refine h_two 4 7 (by kernel_rfl) ?_ ?_
              ·
                refine h_yield 4 rfl rfl rfl rfl (y_val tok rfl) ?_
                refine h_one 7 (by kernel_rfl) ?_
                refine h_new 7 tok rfl rfl rfl rfl rfl rfl ?_
                refine h_one 8 (by kernel_rfl) ?_
                refine h_store 8 tok rfl rfl rfl rfl (by first | exact ⟨trivial, trivial⟩ | (repeat' first | exact trivial | exact rfl | apply And.intro); done | simp [onesP, oneP, lk, Value.oneCell']) (.inr ⟨(by repeat (first | exact SubO.nil | refine SubO.cons rfl ?_)), rfl, (by first | exact Vw.le.refl _ | assumption)⟩) ?_
                refine h_one 9 (by kernel_rfl) ?_
                refine h_yield 9 rfl rfl rfl rfl (y_val tok rfl) ?_
                refine h_one 10 (by kernel_rfl) ?_
                refine h_yield 10 rfl rfl rfl rfl (y_val tok rfl) ?_
                refine h_done [1, 4, 5, 6, 7, 8, 9, 10, 11, 12, 13, 14] (by kernel_rfl) rfl ?_
                exact x_meet () trivial (by repeat (first | exact SubF.nil | refine SubF.cons rfl ?_)) (by repeat (first | exact SubO.nil | refine SubO.cons rfl ?_)) rfl (Vw.le.refl _)
              ·
                refine h_new 7 tok rfl rfl rfl rfl rfl rfl ?_
                refine h_one 4 (by kernel_rfl) ?_
                refine h_yield 4 rfl rfl rfl rfl (y_val tok rfl) ?_
                refine h_one 8 (by kernel_rfl) ?_
                refine h_store 8 tok rfl rfl rfl rfl (by first | exact ⟨trivial, trivial⟩ | (repeat' first | exact trivial | exact rfl | apply And.intro); done | simp [onesP, oneP, lk, Value.oneCell']) (.inr ⟨(by repeat (first | exact SubO.nil | refine SubO.cons rfl ?_)), rfl, (by first | exact Vw.le.refl _ | assumption)⟩) ?_
                refine h_one 9 (by kernel_rfl) ?_
                refine h_yield 9 rfl rfl rfl rfl (y_val tok rfl) ?_
                refine h_one 10 (by kernel_rfl) ?_
                refine h_yield 10 rfl rfl rfl rfl (y_val tok rfl) ?_
                refine h_done [1, 4, 5, 6, 7, 8, 9, 10, 11, 12, 13, 14] (by kernel_rfl) rfl ?_
                exact x_meet () trivial (by repeat (first | exact SubF.nil | refine SubF.cons rfl ?_)) (by repeat (first | exact SubO.nil | refine SubO.cons rfl ?_)) rfl (Vw.le.refl _)
            ·
              refine h_new 7 tok rfl rfl rfl rfl rfl rfl ?_
              refine h_two 4 6 (by kernel_rfl) ?_ ?_
              ·
                refine h_yield 4 rfl rfl rfl rfl (y_val tok rfl) ?_
                refine h_two 6 8 (by kernel_rfl) ?_ ?_
                ·
                  refine h_yield 6 rfl rfl rfl rfl (y_val tok rfl) ?_
                  refine h_one 8 (by kernel_rfl) ?_
                  refine h_store 8 tok rfl rfl rfl rfl (by first | exact ⟨trivial, trivial⟩ | (repeat' first | exact trivial | exact rfl | apply And.intro); done | simp [onesP, oneP, lk, Value.oneCell']) (.inr ⟨(by repeat (first | exact SubO.nil | refine SubO.cons rfl ?_)), rfl, (by first | exact Vw.le.refl _ | assumption)⟩) ?_
                  refine h_one 9 (by kernel_rfl) ?_
                  refine h_yield 9 rfl rfl rfl rfl (y_val tok rfl) ?_
                  refine h_one 10 (by kernel_rfl) ?_
                  refine h_yield 10 rfl rfl rfl rfl (y_val tok rfl) ?_
                  refine h_done [1, 4, 5, 6, 7, 8, 9, 10, 11, 12, 13, 14] (by kernel_rfl) rfl ?_
                  exact x_meet () trivial (by repeat (first | exact SubF.nil | refine SubF.cons rfl ?_)) (by repeat (first | exact SubO.nil | refine SubO.cons rfl ?_)) rfl (Vw.le.refl _)
                ·
                  refine h_store 8 tok rfl rfl rfl rfl (by first | exact ⟨trivial, trivial⟩ | (repeat' first | exact trivial | exact rfl | apply And.intro); done | simp [onesP, oneP, lk, Value.oneCell']) (.inr ⟨(by repeat (first | exact SubO.nil | refine SubO.cons rfl ?_)), rfl, (by first | exact Vw.le.refl _ | assumption)⟩) ?_
                  refine h_two 6 9 (by kernel_rfl) ?_ ?_
                  ·
                    refine h_yield 6 rfl rfl rfl rfl (y_val tok rfl) ?_
                    refine h_one 9 (by kernel_rfl) ?_
                    refine h_yield 9 rfl rfl rfl rfl (y_val tok rfl) ?_
                    refine h_one 10 (by kernel_rfl) ?_
                    refine h_yield 10 rfl rfl rfl rfl (y_val tok rfl) ?_
                    refine h_done [1, 4, 5, 6, 7, 8, 9, 10, 11, 12, 13, 14] (by kernel_rfl) rfl ?_
                    exact x_meet () trivial (by repeat (first | exact SubF.nil | refine SubF.cons rfl ?_)) (by repeat (first | exact SubO.nil | refine SubO.cons rfl ?_)) rfl (Vw.le.refl _)
                  ·
                    refine h_yield 9 rfl rfl rfl rfl (y_val tok rfl) ?_
                    refine h_one 6 (by kernel_rfl) ?_
                    refine h_yield 6 rfl rfl rfl rfl (y_val tok rfl) ?_
                    refine h_one 10 (by kernel_rfl) ?_
                    refine h_yield 10 rfl rfl rfl rfl (y_val tok rfl) ?_
                    refine h_done [1, 4, 5, 6, 7, 8, 9, 10, 11, 12, 13, 14] (by kernel_rfl) rfl ?_
                    exact x_meet () trivial (by repeat (first | exact SubF.nil | refine SubF.cons rfl ?_)) (by repeat (first | exact SubO.nil | refine SubO.cons rfl ?_)) rfl (Vw.le.refl _)
              ·
                refine h_yield 6 rfl rfl rfl rfl (y_val tok rfl) ?_
                refine h_one 4 (by kernel_rfl) ?_
                refine h_yield 4 rfl rfl rfl rfl (y_val tok rfl) ?_
                refine h_one 8 (by kernel_rfl) ?_
                refine h_store 8 tok rfl rfl rfl rfl (by first | exact ⟨trivial, trivial⟩ | (repeat' first | exact trivial | exact rfl | apply And.intro); done | simp [onesP, oneP, lk, Value.oneCell']) (.inr ⟨(by repeat (first | exact SubO.nil | refine SubO.cons rfl ?_)), rfl, (by first | exact Vw.le.refl _ | assumption)⟩) ?_
                refine h_one 9 (by kernel_rfl) ?_
                refine h_yield 9 rfl rfl rfl rfl (y_val tok rfl) ?_
                refine h_one 10 (by kernel_rfl) ?_
                refine h_yield 10 rfl rfl rfl rfl (y_val tok rfl) ?_
                refine h_done [1, 4, 5, 6, 7, 8, 9, 10, 11, 12, 13, 14] (by kernel_rfl) rfl ?_
                exact x_meet () trivial (by repeat (first | exact SubF.nil | refine SubF.cons rfl ?_)) (by repeat (first | exact SubO.nil | refine SubO.cons rfl ?_)) rfl (Vw.le.refl _)
          ·
            refine h_yield 6 rfl rfl rfl rfl (y_val tok rfl) ?_
            refine h_three 4 5 7 (by kernel_rfl) ?_ ?_ ?_
            ·
              refine h_yield 4 rfl rfl rfl rfl (y_val tok rfl) ?_
              refine h_two 5 7 (by kernel_rfl) ?_ ?_
              ·
                refine h_yield 5 rfl rfl rfl rfl (y_val tok rfl) ?_
                refine h_one 7 (by kernel_rfl) ?_
                refine h_new 7 tok rfl rfl rfl rfl rfl rfl ?_
                refine h_one 8 (by kernel_rfl) ?_
                refine h_store 8 tok rfl rfl rfl rfl (by first | exact ⟨trivial, trivial⟩ | (repeat' first | exact trivial | exact rfl | apply And.intro); done | simp [onesP, oneP, lk, Value.oneCell']) (.inr ⟨(by repeat (first | exact SubO.nil | refine SubO.cons rfl ?_)), rfl, (by first | exact Vw.le.refl _ | assumption)⟩) ?_
                refine h_one 9 (by kernel_rfl) ?_
                refine h_yield 9 rfl rfl rfl rfl (y_val tok rfl) ?_
                refine h_one 10 (by kernel_rfl) ?_
                refine h_yield 10 rfl rfl rfl rfl (y_val tok rfl) ?_
                refine h_done [1, 4, 5, 6, 7, 8, 9, 10, 11, 12, 13, 14] (by kernel_rfl) rfl ?_
                exact x_meet () trivial (by repeat (first | exact SubF.nil | refine SubF.cons rfl ?_)) (by repeat (first | exact SubO.nil | refine SubO.cons rfl ?_)) rfl (Vw.le.refl _)
              ·
                refine h_new 7 tok rfl rfl rfl rfl rfl rfl ?_
                refine h_two 5 8 (by kernel_rfl) ?_ ?_
                ·
                  refine h_yield 5 rfl rfl rfl rfl (y_val tok rfl) ?_
                  refine h_one 8 (by kernel_rfl) ?_
                  refine h_store 8 tok rfl rfl rfl rfl (by first | exact ⟨trivial, trivial⟩ | (repeat' first | exact trivial | exact rfl | apply And.intro); done | simp [onesP, oneP, lk, Value.oneCell']) (.inr ⟨(by repeat (first | exact SubO.nil | refine SubO.cons rfl ?_)), rfl, (by first | exact Vw.le.refl _ | assumption)⟩) ?_
                  refine h_one 9 (by kernel_rfl) ?_
                  refine h_yield 9 rfl rfl rfl rfl (y_val tok rfl) ?_
                  refine h_one 10 (by kernel_rfl) ?_
                  refine h_yield 10 rfl rfl rfl rfl (y_val tok rfl) ?_
                  refine h_done [1, 4, 5, 6, 7, 8, 9, 10, 11, 12, 13, 14] (by kernel_rfl) rfl ?_
                  exact x_meet () trivial (by repeat (first | exact SubF.nil | refine SubF.cons rfl ?_)) (by repeat (first | exact SubO.nil | refine SubO.cons rfl ?_)) rfl (Vw.le.refl _)
                ·
                  refine h_store 8 tok rfl rfl rfl rfl (by first | exact ⟨trivial, trivial⟩ | (repeat' first | exact trivial | exact rfl | apply And.intro); done | simp [onesP, oneP, lk, Value.oneCell']) (.inr ⟨(by repeat (first | exact SubO.nil | refine SubO.cons rfl ?_)), rfl, (by first | exact Vw.le.refl _ | assumption)⟩) ?_
                  refine h_one 5 (by kernel_rfl) ?_
                  refine h_yield 5 rfl rfl rfl rfl (y_val tok rfl) ?_
                  refine h_one 9 (by kernel_rfl) ?_
                  refine h_yield 9 rfl rfl rfl rfl (y_val tok rfl) ?_
                  refine h_one 10 (by kernel_rfl) ?_
                  refine h_yield 10 rfl rfl rfl rfl (y_val tok rfl) ?_
                  refine h_done [1, 4, 5, 6, 7, 8, 9, 10, 11, 12, 13, 14] (by kernel_rfl) rfl ?_
                  exact x_meet () trivial (by repeat (first | exact SubF.nil | refine SubF.cons rfl ?_)) (by repeat (first | exact SubO.nil | refine SubO.cons rfl ?_)) rfl (Vw.le.refl _)
            ·
              refine h_yield 5 rfl rfl rfl rfl (y_val tok rfl) ?_
              refine h_two 4 7 (by kernel_rfl) ?_ ?_
              ·
                refine h_yield 4 rfl rfl rfl rfl (y_val tok rfl) ?_
                refine h_one 7 (by kernel_rfl) ?_
                refine h_new 7 tok rfl rfl rfl rfl rfl rfl ?_
                refine h_one 8 (by kernel_rfl) ?_
                refine h_store 8 tok rfl rfl rfl rfl (by first | exact ⟨trivial, trivial⟩ | (repeat' first | exact trivial | exact rfl | apply And.intro); done | simp [onesP, oneP, lk, Value.oneCell']) (.inr ⟨(by repeat (first | exact SubO.nil | refine SubO.cons rfl ?_)), rfl, (by first | exact Vw.le.refl _ | assumption)⟩) ?_
                refine h_one 9 (by kernel_rfl) ?_
                refine h_yield 9 rfl rfl rfl rfl (y_val tok rfl) ?_
                refine h_one 10 (by kernel_rfl) ?_
                refine h_yield 10 rfl rfl rfl rfl (y_val tok rfl) ?_
                refine h_done [1, 4, 5, 6, 7, 8, 9, 10, 11, 12, 13, 14] (by kernel_rfl) rfl ?_
                exact x_meet () trivial (by repeat (first | exact SubF.nil | refine SubF.cons rfl ?_)) (by repeat (first | exact SubO.nil | refine SubO.cons rfl ?_)) rfl (Vw.le.refl _)
              ·
                refine h_new 7 tok rfl rfl rfl rfl rfl rfl ?_
                refine h_one 4 (by kernel_rfl) ?_
                refine h_yield 4 rfl rfl rfl rfl (y_val tok rfl) ?_
                refine h_one 8 (by kernel_rfl) ?_
                refine h_store 8 tok rfl rfl rfl rfl (by first | exact ⟨trivial, trivial⟩ | (repeat' first | exact trivial | exact rfl | apply And.intro); done | simp [onesP, oneP, lk, Value.oneCell']) (.inr ⟨(by repeat (first | exact SubO.nil | refine SubO.cons rfl ?_)), rfl, (by first | exact Vw.le.refl _ | assumption)⟩) ?_
                refine h_one 9 (by kernel_rfl) ?_
                refine h_yield 9 rfl rfl rfl rfl (y_val tok rfl) ?_
                refine h_one 10 (by kernel_rfl) ?_
                refine h_yield 10 rfl rfl rfl rfl (y_val tok rfl) ?_
                refine h_done [1, 4, 5, 6, 7, 8, 9, 10, 11, 12, 13, 14] (by kernel_rfl) rfl ?_
                exact x_meet () trivial (by repeat (first | exact SubF.nil | refine SubF.cons rfl ?_)) (by repeat (first | exact SubO.nil | refine SubO.cons rfl ?_)) rfl (Vw.le.refl _)
            ·
              refine h_new 7 tok rfl rfl rfl rfl rfl rfl ?_
              refine h_two 4 5 (by kernel_rfl) ?_ ?_
              ·
                refine h_yield 4 rfl rfl rfl rfl (y_val tok rfl) ?_
                refine h_two 5 8 (by kernel_rfl) ?_ ?_
                ·
                  refine h_yield 5 rfl rfl rfl rfl (y_val tok rfl) ?_
                  refine h_one 8 (by kernel_rfl) ?_
                  refine h_store 8 tok rfl rfl rfl rfl (by first | exact ⟨trivial, trivial⟩ | (repeat' first | exact trivial | exact rfl | apply And.intro); done | simp [onesP, oneP, lk, Value.oneCell']) (.inr ⟨(by repeat (first | exact SubO.nil | refine SubO.cons rfl ?_)), rfl, (by first | exact Vw.le.refl _ | assumption)⟩) ?_
                  refine h_one 9 (by kernel_rfl) ?_
                  refine h_yield 9 rfl rfl rfl rfl (y_val tok rfl) ?_
                  refine h_one 10 (by kernel_rfl) ?_
                  refine h_yield 10 rfl rfl rfl rfl (y_val tok rfl) ?_
                  refine h_done [1, 4, 5, 6, 7, 8, 9, 10, 11, 12, 13, 14] (by kernel_rfl) rfl ?_
                  exact x_meet () trivial (by repeat (first | exact SubF.nil | refine SubF.cons rfl ?_)) (by repeat (first | exact SubO.nil | refine SubO.cons rfl ?_)) rfl (Vw.le.refl _)
                ·
                  refine h_store 8 tok rfl rfl rfl rfl (by first | exact ⟨trivial, trivial⟩ | (repeat' first | exact trivial | exact rfl | apply And.intro); done | simp [onesP, oneP, lk, Value.oneCell']) (.inr ⟨(by repeat (first | exact SubO.nil | refine SubO.cons rfl ?_)), rfl, (by first | exact Vw.le.refl _ | assumption)⟩) ?_
                  refine h_one 5 (by kernel_rfl) ?_
                  refine h_yield 5 rfl rfl rfl rfl (y_val tok rfl) ?_
                  refine h_one 9 (by kernel_rfl) ?_
                  refine h_yield 9 rfl rfl rfl rfl (y_val tok rfl) ?_
                  refine h_one 10 (by kernel_rfl) ?_
                  refine h_yield 10 rfl rfl rfl rfl (y_val tok rfl) ?_
                  refine h_done [1, 4, 5, 6, 7, 8, 9, 10, 11, 12, 13, 14] (by kernel_rfl) rfl ?_
                  exact x_meet () trivial (by repeat (first | exact SubF.nil | refine SubF.cons rfl ?_)) (by repeat (first | exact SubO.nil | refine SubO.cons rfl ?_)) rfl (Vw.le.refl _)
              ·
                refine h_yield 5 rfl rfl rfl rfl (y_val tok rfl) ?_
                refine h_one 4 (by kernel_rfl) ?_
                refine h_yield 4 rfl rfl rfl rfl (y_val tok rfl) ?_
                refine h_one 8 (by kernel_rfl) ?_
                refine h_store 8 tok rfl rfl rfl rfl (by first | exact ⟨trivial, trivial⟩ | (repeat' first | exact trivial | exact rfl | apply And.intro); done | simp [onesP, oneP, lk, Value.oneCell']) (.inr ⟨(by repeat (first | exact SubO.nil | refine SubO.cons rfl ?_)), rfl, (by first | exact Vw.le.refl _ | assumption)⟩) ?_
                refine h_one 9 (by kernel_rfl) ?_
                refine h_yield 9 rfl rfl rfl rfl (y_val tok rfl) ?_
                refine h_one 10 (by kernel_rfl) ?_
                refine h_yield 10 rfl rfl rfl rfl (y_val tok rfl) ?_
                refine h_done [1, 4, 5, 6, 7, 8, 9, 10, 11, 12, 13, 14] (by kernel_rfl) rfl ?_
                exact x_meet () trivial (by repeat (first | exact SubF.nil | refine SubF.cons rfl ?_)) (by repeat (first | exact SubO.nil | refine SubO.cons rfl ?_)) rfl (Vw.le.refl _)
          ·
            refine h_new 7 tok rfl rfl rfl rfl rfl rfl ?_
            refine h_three 4 5 6 (by kernel_rfl) ?_ ?_ ?_
            ·
              refine h_yield 4 rfl rfl rfl rfl (y_val tok rfl) ?_
              refine h_three 5 6 8 (by kernel_rfl) ?_ ?_ ?_
              ·
                refine h_yield 5 rfl rfl rfl rfl (y_val tok rfl) ?_
                refine h_two 6 8 (by kernel_rfl) ?_ ?_
                ·
                  refine h_yield 6 rfl rfl rfl rfl (y_val tok rfl) ?_
                  refine h_one 8 (by kernel_rfl) ?_
                  refine h_store 8 tok rfl rfl rfl rfl (by first | exact ⟨trivial, trivial⟩ | (repeat' first | exact trivial | exact rfl | apply And.intro); done | simp [onesP, oneP, lk, Value.oneCell']) (.inr ⟨(by repeat (first | exact SubO.nil | refine SubO.cons rfl ?_)), rfl, (by first | exact Vw.le.refl _ | assumption)⟩) ?_
                  refine h_one 9 (by kernel_rfl) ?_
                  refine h_yield 9 rfl rfl rfl rfl (y_val tok rfl) ?_
                  refine h_one 10 (by kernel_rfl) ?_
                  refine h_yield 10 rfl rfl rfl rfl (y_val tok rfl) ?_
                  refine h_done [1, 4, 5, 6, 7, 8, 9, 10, 11, 12, 13, 14] (by kernel_rfl) rfl ?_
                  exact x_meet () trivial (by repeat (first | exact SubF.nil | refine SubF.cons rfl ?_)) (by repeat (first | exact SubO.nil | refine SubO.cons rfl ?_)) rfl (Vw.le.refl _)
                ·
                  refine h_store 8 tok rfl rfl rfl rfl (by first | exact ⟨trivial, trivial⟩ | (repeat' first | exact trivial | exact rfl | apply And.intro); done | simp [onesP, oneP, lk, Value.oneCell']) (.inr ⟨(by repeat (first | exact SubO.nil | refine SubO.cons rfl ?_)), rfl, (by first | exact Vw.le.refl _ | assumption)⟩) ?_
                  refine h_two 6 9 (by kernel_rfl) ?_ ?_
                  ·
                    refine h_yield 6 rfl rfl rfl rfl (y_val tok rfl) ?_
                    refine h_one 9 (by kernel_rfl) ?_
                    refine h_yield 9 rfl rfl rfl rfl (y_val tok rfl) ?_
                    refine h_one 10 (by kernel_rfl) ?_
                    refine h_yield 10 rfl rfl rfl rfl (y_val tok rfl) ?_
                    refine h_done [1, 4, 5, 6, 7, 8, 9, 10, 11, 12, 13, 14] (by kernel_rfl) rfl ?_
                    exact x_meet () trivial (by repeat (first | exact SubF.nil | refine SubF.cons rfl ?_)) (by repeat (first | exact SubO.nil | refine SubO.cons rfl ?_)) rfl (Vw.le.refl _)
                  ·
                    refine h_yield 9 rfl rfl rfl rfl (y_val tok rfl) ?_
                    refine h_one 6 (by kernel_rfl) ?_
                    refine h_yield 6 rfl rfl rfl rfl (y_val tok rfl) ?_
                    refine h_one 10 (by kernel_rfl) ?_
                    refine h_yield 10 rfl rfl rfl rfl (y_val tok rfl) ?_
                    refine h_done [1, 4, 5, 6, 7, 8, 9, 10, 11, 12, 13, 14] (by kernel_rfl) rfl ?_
                    exact x_meet () trivial (by repeat (first | exact SubF.nil | refine SubF.cons rfl ?_)) (by repeat (first | exact SubO.nil | refine SubO.cons rfl ?_)) rfl (Vw.le.refl _)
              ·
                refine h_yield 6 rfl rfl rfl rfl (y_val tok rfl) ?_
                refine h_two 5 8 (by kernel_rfl) ?_ ?_
                ·
                  refine h_yield 5 rfl rfl rfl rfl (y_val tok rfl) ?_
                  refine h_one 8 (by kernel_rfl) ?_
                  refine h_store 8 tok rfl rfl rfl rfl (by first | exact ⟨trivial, trivial⟩ | (repeat' first | exact trivial | exact rfl | apply And.intro); done | simp [onesP, oneP, lk, Value.oneCell']) (.inr ⟨(by repeat (first | exact SubO.nil | refine SubO.cons rfl ?_)), rfl, (by first | exact Vw.le.refl _ | assumption)⟩) ?_
                  refine h_one 9 (by kernel_rfl) ?_
                  refine h_yield 9 rfl rfl rfl rfl (y_val tok rfl) ?_
                  refine h_one 10 (by kernel_rfl) ?_
                  refine h_yield 10 rfl rfl rfl rfl (y_val tok rfl) ?_
                  refine h_done [1, 4, 5, 6, 7, 8, 9, 10, 11, 12, 13, 14] (by kernel_rfl) rfl ?_
                  exact x_meet () trivial (by repeat (first | exact SubF.nil | refine SubF.cons rfl ?_)) (by repeat (first | exact SubO.nil | refine SubO.cons rfl ?_)) rfl (Vw.le.refl _)
                ·
                  refine h_store 8 tok rfl rfl rfl rfl (by first | exact ⟨trivial, trivial⟩ | (repeat' first | exact trivial | exact rfl | apply And.intro); done | simp [onesP, oneP, lk, Value.oneCell']) (.inr ⟨(by repeat (first | exact SubO.nil | refine SubO.cons rfl ?_)), rfl, (by first | exact Vw.le.refl _ | assumption)⟩) ?_
                  refine h_one 5 (by kernel_rfl) ?_
                  refine h_yield 5 rfl rfl rfl rfl (y_val tok rfl) ?_
                  refine h_one 9 (by kernel_rfl) ?_
                  refine h_yield 9 rfl rfl rfl rfl (y_val tok rfl) ?_
                  refine h_one 10 (by kernel_rfl) ?_
                  refine h_yield 10 rfl rfl rfl rfl (y_val tok rfl) ?_
                  refine h_done [1, 4, 5, 6, 7, 8, 9, 10, 11, 12, 13, 14] (by kernel_rfl) rfl ?_
                  exact x_meet () trivial (by repeat (first | exact SubF.nil | refine SubF.cons rfl ?_)) (by repeat (first | exact SubO.nil | refine SubO.cons rfl ?_)) rfl (Vw.le.refl _)
              ·
                refine h_store 8 tok rfl rfl rfl rfl (by first | exact ⟨trivial, trivial⟩ | (repeat' first | exact trivial | exact rfl | apply And.intro); done | simp [onesP, oneP, lk, Value.oneCell']) (.inr ⟨(by repeat (first | exact SubO.nil | refine SubO.cons rfl ?_)), rfl, (by first | exact Vw.le.refl _ | assumption)⟩) ?_
                refine h_two 5 6 (by kernel_rfl) ?_ ?_
                ·
                  refine h_yield 5 rfl rfl rfl rfl (y_val tok rfl) ?_
                  refine h_two 6 9 (by kernel_rfl) ?_ ?_
                  ·
                    refine h_yield 6 rfl rfl rfl rfl (y_val tok rfl) ?_
                    refine h_one 9 (by kernel_rfl) ?_
                    refine h_yield 9 rfl rfl rfl rfl (y_val tok rfl) ?_
                    refine h_one 10 (by kernel_rfl) ?_
                    refine h_yield 10 rfl rfl rfl rfl (y_val tok rfl) ?_
                    refine h_done [1, 4, 5, 6, 7, 8, 9, 10, 11, 12, 13, 14] (by kernel_rfl) rfl ?_
                    exact x_meet () trivial (by repeat (first | exact SubF.nil | refine SubF.cons rfl ?_)) (by repeat (first | exact SubO.nil | refine SubO.cons rfl ?_)) rfl (Vw.le.refl _)
                  ·
                    refine h_yield 9 rfl rfl rfl rfl (y_val tok rfl) ?_
                    refine h_one 6 (by kernel_rfl) ?_
                    refine h_yield 6 rfl rfl rfl rfl (y_val tok rfl) ?_
                    refine h_one 10 (by kernel_rfl) ?_
                    refine h_yield 10 rfl rfl rfl rfl (y_val tok rfl) ?_
                    refine h_done [1, 4, 5, 6, 7, 8, 9, 10, 11, 12, 13, 14] (by kernel_rfl) rfl ?_
                    exact x_meet () trivial (by repeat (first | exact SubF.nil | refine SubF.cons rfl ?_)) (by repeat (first | exact SubO.nil | refine SubO.cons rfl ?_)) rfl (Vw.le.refl _)
                ·
                  refine h_yield 6 rfl rfl rfl rfl (y_val tok rfl) ?_
                  refine h_one 5 (by kernel_rfl) ?_
                  refine h_yield 5 rfl rfl rfl rfl (y_val tok rfl) ?_
                  refine h_one 9 (by kernel_rfl) ?_
                  refine h_yield 9 rfl rfl rfl rfl (y_val tok rfl) ?_
                  refine h_one 10 (by kernel_rfl) ?_
                  refine h_yield 10 rfl rfl rfl rfl (y_val tok rfl) ?_
                  refine h_done [1, 4, 5, 6, 7, 8, 9, 10, 11, 12, 13, 14] (by kernel_rfl) rfl ?_
                  exact x_meet () trivial (by repeat (first | exact SubF.nil | refine SubF.cons rfl ?_)) (by repeat (first | exact SubO.nil | refine SubO.cons rfl ?_)) rfl (Vw.le.refl _)
            ·
              refine h_yield 5 rfl rfl rfl rfl (y_val tok rfl) ?_
              refine h_two 4 6 (by kernel_rfl) ?_ ?_
              ·
                refine h_yield 4 rfl rfl rfl rfl (y_val tok rfl) ?_
                refine h_two 6 8 (by kernel_rfl) ?_ ?_
                ·
                  refine h_yield 6 rfl rfl rfl rfl (y_val tok rfl) ?_
                  refine h_one 8 (by kernel_rfl) ?_
                  refine h_store 8 tok rfl rfl rfl rfl (by first | exact ⟨trivial, trivial⟩ | (repeat' first | exact trivial | exact rfl | apply And.intro); done | simp [onesP, oneP, lk, Value.oneCell']) (.inr ⟨(by repeat (first | exact SubO.nil | refine SubO.cons rfl ?_)), rfl, (by first | exact Vw.le.refl _ | assumption)⟩) ?_
                  refine h_one 9 (by kernel_rfl) ?_
                  refine h_yield 9 rfl rfl rfl rfl (y_val tok rfl) ?_
                  refine h_one 10 (by kernel_rfl) ?_
                  refine h_yield 10 rfl rfl rfl rfl (y_val tok rfl) ?_
                  refine h_done [1, 4, 5, 6, 7, 8, 9, 10, 11, 12, 13, 14] (by kernel_rfl) rfl ?_
                  exact x_meet () trivial (by repeat (first | exact SubF.nil | refine SubF.cons rfl ?_)) (by repeat (first | exact SubO.nil | refine SubO.cons rfl ?_)) rfl (Vw.le.refl _)
                ·
                  refine h_store 8 tok rfl rfl rfl rfl (by first | exact ⟨trivial, trivial⟩ | (repeat' first | exact trivial | exact rfl | apply And.intro); done | simp [onesP, oneP, lk, Value.oneCell']) (.inr ⟨(by repeat (first | exact SubO.nil | refine SubO.cons rfl ?_)), rfl, (by first | exact Vw.le.refl _ | assumption)⟩) ?_
                  refine h_two 6 9 (by kernel_rfl) ?_ ?_
                  ·
                    refine h_yield 6 rfl rfl rfl rfl (y_val tok rfl) ?_
                    refine h_one 9 (by kernel_rfl) ?_
                    refine h_yield 9 rfl rfl rfl rfl (y_val tok rfl) ?_
                    refine h_one 10 (by kernel_rfl) ?_
                    refine h_yield 10 rfl rfl rfl rfl (y_val tok rfl) ?_
                    refine h_done [1, 4, 5, 6, 7, 8, 9, 10, 11, 12, 13, 14] (by kernel_rfl) rfl ?_
                    exact x_meet () trivial (by repeat (first | exact SubF.nil | refine SubF.cons rfl ?_)) (by repeat (first | exact SubO.nil | refine SubO.cons rfl ?_)) rfl (Vw.le.refl _)
                  ·
                    refine h_yield 9 rfl rfl rfl rfl (y_val tok rfl) ?_
                    refine h_one 6 (by kernel_rfl) ?_
                    refine h_yield 6 rfl rfl rfl rfl (y_val tok rfl) ?_
                    refine h_one 10 (by kernel_rfl) ?_
                    refine h_yield 10 rfl rfl rfl rfl (y_val tok rfl) ?_
                    refine h_done [1, 4, 5, 6, 7, 8, 9, 10, 11, 12, 13, 14] (by kernel_rfl) rfl ?_
                    exact x_meet () trivial (by repeat (first | exact SubF.nil | refine SubF.cons rfl ?_)) (by repeat (first | exact SubO.nil | refine SubO.cons rfl ?_)) rfl (Vw.le.refl _)
              ·
                refine h_yield 6 rfl rfl rfl rfl (y_val tok rfl) ?_
                refine h_one 4 (by kernel_rfl) ?_
                refine h_yield 4 rfl rfl rfl rfl (y_val tok rfl) ?_
                refine h_one 8 (by kernel_rfl) ?_
                refine h_store 8 tok rfl rfl rfl rfl (by first | exact ⟨trivial, trivial⟩ | (repeat' first | exact trivial | exact rfl | apply And.intro); done | simp [onesP, oneP, lk, Value.oneCell']) (.inr ⟨(by repeat (first | exact SubO.nil | refine SubO.cons rfl ?_)), rfl, (by first | exact Vw.le.refl _ | assumption)⟩) ?_
                refine h_one 9 (by kernel_rfl) ?_
                refine h_yield 9 rfl rfl rfl rfl (y_val tok rfl) ?_
                refine h_one 10 (by kernel_rfl) ?_
                refine h_yield 10 rfl rfl rfl rfl (y_val tok rfl) ?_
                refine h_done [1, 4, 5, 6, 7, 8, 9, 10, 11, 12, 13, 14] (by kernel_rfl) rfl ?_
                exact x_meet () trivial (by repeat (first | exact SubF.nil | refine SubF.cons rfl ?_)) (by repeat (first | exact SubO.nil | refine SubO.cons rfl ?_)) rfl (Vw.le.refl _)
            ·
              refine h_yield 6 rfl rfl rfl rfl (y_val tok rfl) ?_
              refine h_two 4 5 (by kernel_rfl) ?_ ?_
              ·
                refine h_yield 4 rfl rfl rfl rfl (y_val tok rfl) ?_
                refine h_two 5 8 (by kernel_rfl) ?_ ?_
                ·
                  refine h_yield 5 rfl rfl rfl rfl (y_val tok rfl) ?_
                  refine h_one 8 (by kernel_rfl) ?_
                  refine h_store 8 tok rfl rfl rfl rfl (by first | exact ⟨trivial, trivial⟩ | (repeat' first | exact trivial | exact rfl | apply And.intro); done | simp [onesP, oneP, lk, Value.oneCell']) (.inr ⟨(by repeat (first | exact SubO.nil | refine SubO.cons rfl ?_)), rfl, (by first | exact Vw.le.refl _ | assumption)⟩) ?_
                  refine h_one 9 (by kernel_rfl) ?_
                  refine h_yield 9 rfl rfl rfl rfl (y_val tok rfl) ?_
                  refine h_one 10 (by kernel_rfl) ?_
                  refine h_yield 10 rfl rfl rfl rfl (y_val tok rfl) ?_
                  refine h_done [1, 4, 5, 6, 7, 8, 9, 10, 11, 12, 13, 14] (by kernel_rfl) rfl ?_
                  exact x_meet () trivial (by repeat (first | exact SubF.nil | refine SubF.cons rfl ?_)) (by repeat (first | exact SubO.nil | refine SubO.cons rfl ?_)) rfl (Vw.le.refl _)
                ·
                  refine h_store 8 tok rfl rfl rfl rfl (by first | exact ⟨trivial, trivial⟩ | (repeat' first | exact trivial | exact rfl | apply And.intro); done | simp [onesP, oneP, lk, Value.oneCell']) (.inr ⟨(by repeat (first | exact SubO.nil | refine SubO.cons rfl ?_)), rfl, (by first | exact Vw.le.refl _ | assumption)⟩) ?_
                  refine h_one 5 (by kernel_rfl) ?_
                  refine h_yield 5 rfl rfl rfl rfl (y_val tok rfl) ?_
                  refine h_one 9 (by kernel_rfl) ?_
                  refine h_yield 9 rfl rfl rfl rfl (y_val tok rfl) ?_
                  refine h_one 10 (by kernel_rfl) ?_
                  refine h_yield 10 rfl rfl rfl rfl (y_val tok rfl) ?_
                  refine h_done [1, 4, 5, 6, 7, 8, 9, 10, 11, 12, 13, 14] (by kernel_rfl) rfl ?_
                  exact x_meet () trivial (by repeat (first | exact SubF.nil | refine SubF.cons rfl ?_)) (by repeat (first | exact SubO.nil | refine SubO.cons rfl ?_)) rfl (Vw.le.refl _)
              ·
                refine h_yield 5 rfl rfl rfl rfl (y_val tok rfl) ?_
                refine h_one 4 (by kernel_rfl) ?_
                refine h_yield 4 rfl rfl rfl rfl (y_val tok rfl) ?_
                refine h_one 8 (by kernel_rfl) ?_
                refine h_store 8 tok rfl rfl rfl rfl (by first | exact ⟨trivial, trivial⟩ | (repeat' first | exact trivial | exact rfl | apply And.intro); done | simp [onesP, oneP, lk, Value.oneCell']) (.inr ⟨(by repeat (first | exact SubO.nil | refine SubO.cons rfl ?_)), rfl, (by first | exact Vw.le.refl _ | assumption)⟩) ?_
                refine h_one 9 (by kernel_rfl) ?_
                refine h_yield 9 rfl rfl rfl rfl (y_val tok rfl) ?_
                refine h_one 10 (by kernel_rfl) ?_
                refine h_yield 10 rfl rfl rfl rfl (y_val tok rfl) ?_
                refine h_done [1, 4, 5, 6, 7, 8, 9, 10, 11, 12, 13, 14] (by kernel_rfl) rfl ?_
                exact x_meet () trivial (by repeat (first | exact SubF.nil | refine SubF.cons rfl ?_)) (by repeat (first | exact SubO.nil | refine SubO.cons rfl ?_)) rfl (Vw.le.refl _)
        ·
          refine h_new 7 tok rfl rfl rfl rfl rfl rfl ?_
          refine h_one 3 (by kernel_rfl) ?_
          refine h_yield 3 rfl rfl rfl rfl (y_val tok rfl) ?_
          refine h_three 4 5 6 (by kernel_rfl) ?_ ?_ ?_
          ·
            refine h_yield 4 rfl rfl rfl rfl (y_val tok rfl) ?_
            refine h_three 5 6 8 (by kernel_rfl) ?_ ?_ ?_
            ·
              refine h_yield 5 rfl rfl rfl rfl (y_val tok rfl) ?_
              refine h_two 6 8 (by kernel_rfl) ?_ ?_
              ·
                refine h_yield 6 rfl rfl rfl rfl (y_val tok rfl) ?_
                refine h_one 8 (by kernel_rfl) ?_
                refine h_store 8 tok rfl rfl rfl rfl (by first | exact ⟨trivial, trivial⟩ | (repeat' first | exact trivial | exact rfl | apply And.intro); done | simp [onesP, oneP, lk, Value.oneCell']) (.inr ⟨(by repeat (first | exact SubO.nil | refine SubO.cons rfl ?_)), rfl, (by first | exact Vw.le.refl _ | assumption)⟩) ?_
                refine h_one 9 (by kernel_rfl) ?_
                refine h_yield 9 rfl rfl rfl rfl (y_val tok rfl) ?_
                refine h_one 10 (by kernel_rfl) ?_
                refine h_yield 10 rfl rfl rfl rfl (y_val tok rfl) ?_
                refine h_done [1, 4, 5, 6, 7, 8, 9, 10, 11, 12, 13, 14] (by kernel_rfl) rfl ?_
                exact x_meet () trivial (by repeat (first | exact SubF.nil | refine SubF.cons rfl ?_)) (by repeat (first | exact SubO.nil | refine SubO.cons rfl ?_)) rfl (Vw.le.refl _)
              ·
                refine h_store 8 tok rfl rfl rfl rfl (by first | exact ⟨trivial, trivial⟩ | (repeat' first | exact trivial | exact rfl | apply And.intro); done | simp [onesP, oneP, lk, Value.oneCell']) (.inr ⟨(by repeat (first | exact SubO.nil | refine SubO.cons rfl ?_)), rfl, (by first | exact Vw.le.refl _ | assumption)⟩) ?_
                refine h_two 6 9 (by kernel_rfl) ?_ ?_
                ·
                  refine h_yield 6 rfl rfl rfl rfl (y_val tok rfl) ?_
                  refine h_one 9 (by kernel_rfl) ?_
                  refine h_yield 9 rfl rfl rfl rfl (y_val tok rfl) ?_
                  refine h_one 10 (by kernel_rfl) ?_
                  refine h_yield 10 rfl rfl rfl rfl (y_val tok rfl) ?_
                  refine h_done [1, 4, 5, 6, 7, 8, 9, 10, 11, 12, 13, 14] (by kernel_rfl) rfl ?_
                  exact x_meet () trivial (by repeat (first | exact SubF.nil | refine SubF.cons rfl ?_)) (by repeat (first | exact SubO.nil | refine SubO.cons rfl ?_)) rfl (Vw.le.refl _)
                ·
                  refine h_yield 9 rfl rfl rfl rfl (y_val tok rfl) ?_
                  refine h_one 6 (by kernel_rfl) ?_
                  refine h_yield 6 rfl rfl rfl rfl (y_val tok rfl) ?_
                  refine h_one 10 (by kernel_rfl) ?_
                  refine h_yield 10 rfl rfl rfl rfl (y_val tok rfl) ?_
                  refine h_done [1, 4, 5, 6, 7, 8, 9, 10, 11, 12, 13, 14] (by kernel_rfl) rfl ?_
                  exact x_meet () trivial (by repeat (first | exact SubF.nil | refine SubF.cons rfl ?_)) (by repeat (first | exact SubO.nil | refine SubO.cons rfl ?_)) rfl (Vw.le.refl _)
            ·
              refine h_yield 6 rfl rfl rfl rfl (y_val tok rfl) ?_
              refine h_two 5 8 (by kernel_rfl) ?_ ?_
              ·
                refine h_yield 5 rfl rfl rfl rfl (y_val tok rfl) ?_
                refine h_one 8 (by kernel_rfl) ?_
                refine h_store 8 tok rfl rfl rfl rfl (by first | exact ⟨trivial, trivial⟩ | (repeat' first | exact trivial | exact rfl | apply And.intro); done | simp [onesP, oneP, lk, Value.oneCell']) (.inr ⟨(by repeat (first | exact SubO.nil | refine SubO.cons rfl ?_)), rfl, (by first | exact Vw.le.refl _ | assumption)⟩) ?_
                refine h_one 9 (by kernel_rfl) ?_
                refine h_yield 9 rfl rfl rfl rfl (y_val tok rfl) ?_
                refine h_one 10 (by kernel_rfl) ?_
                refine h_yield 10 rfl rfl rfl rfl (y_val tok rfl) ?_
                refine h_done [1, 4, 5, 6, 7, 8, 9, 10, 11, 12, 13, 14] (by kernel_rfl) rfl ?_
                exact x_meet () trivial (by repeat (first | exact SubF.nil | refine SubF.cons rfl ?_)) (by repeat (first | exact SubO.nil | refine SubO.cons rfl ?_)) rfl (Vw.le.refl _)
              ·
                refine h_store 8 tok rfl rfl rfl rfl (by first | exact ⟨trivial, trivial⟩ | (repeat' first | exact trivial | exact rfl | apply And.intro); done | simp [onesP, oneP, lk, Value.oneCell']) (.inr ⟨(by repeat (first | exact SubO.nil | refine SubO.cons rfl ?_)), rfl, (by first | exact Vw.le.refl _ | assumption)⟩) ?_
                refine h_one 5 (by kernel_rfl) ?_
                refine h_yield 5 rfl rfl rfl rfl (y_val tok rfl) ?_
                refine h_one 9 (by kernel_rfl) ?_
                refine h_yield 9 rfl rfl rfl rfl (y_val tok rfl) ?_
                refine h_one 10 (by kernel_rfl) ?_
                refine h_yield 10 rfl rfl rfl rfl (y_val tok rfl) ?_
                refine h_done [1, 4, 5, 6, 7, 8, 9, 10, 11, 12, 13, 14] (by kernel_rfl) rfl ?_
                exact x_meet () trivial (by repeat (first | exact SubF.nil | refine SubF.cons rfl ?_)) (by repeat (first | exact SubO.nil | refine SubO.cons rfl ?_)) rfl (Vw.le.refl _)
            ·
              refine h_store 8 tok rfl rfl rfl rfl (by first | exact ⟨trivial, trivial⟩ | (repeat' first | exact trivial | exact rfl | apply And.intro); done | simp [onesP, oneP, lk, Value.oneCell']) (.inr ⟨(by repeat (first | exact SubO.nil | refine SubO.cons rfl ?_)), rfl, (by first | exact Vw.le.refl _ | assumption)⟩) ?_
              refine h_two 5 6 (by kernel_rfl) ?_ ?_
              ·
                refine h_yield 5 rfl rfl rfl rfl (y_val tok rfl) ?_
                refine h_two 6 9 (by kernel_rfl) ?_ ?_
                ·
                  refine h_yield 6 rfl rfl rfl rfl (y_val tok rfl) ?_
                  refine h_one 9 (by kernel_rfl) ?_
                  refine h_yield 9 rfl rfl rfl rfl (y_val tok rfl) ?_
                  refine h_one 10 (by kernel_rfl) ?_
                  refine h_yield 10 rfl rfl rfl rfl (y_val tok rfl) ?_
                  refine h_done [1, 4, 5, 6, 7, 8, 9, 10, 11, 12, 13, 14] (by kernel_rfl) rfl ?_
                  exact x_meet () trivial (by repeat (first | exact SubF.nil | refine SubF.cons rfl ?_)) (by repeat (first | exact SubO.nil | refine SubO.cons rfl ?_)) rfl (Vw.le.refl _)
                ·
                  refine h_yield 9 rfl rfl rfl rfl (y_val tok rfl) ?_
                  refine h_one 6 (by kernel_rfl) ?_
                  refine h_yield 6 rfl rfl rfl rfl (y_val tok rfl) ?_
                  refine h_one 10 (by kernel_rfl) ?_
                  refine h_yield 10 rfl rfl rfl rfl (y_val tok rfl) ?_
                  refine h_done [1, 4, 5, 6, 7, 8, 9, 10, 11, 12, 13, 14] (by kernel_rfl) rfl ?_
                  exact x_meet () trivial (by repeat (first | exact SubF.nil | refine SubF.cons rfl ?_)) (by repeat (first | exact SubO.nil | refine SubO.cons rfl ?_)) rfl (Vw.le.refl _)
              ·
                refine h_yield 6 rfl rfl rfl rfl (y_val tok rfl) ?_
                refine h_one 5 (by kernel_rfl) ?_
                refine h_yield 5 rfl rfl rfl rfl (y_val tok rfl) ?_
                refine h_one 9 (by kernel_rfl) ?_
                refine h_yield 9 rfl rfl rfl rfl (y_val tok rfl) ?_
                refine h_one 10 (by kernel_rfl) ?_
                refine h_yield 10 rfl rfl rfl rfl (y_val tok rfl) ?_
                refine h_done [1, 4, 5, 6, 7, 8, 9, 10, 11, 12, 13, 14] (by kernel_rfl) rfl ?_
                exact x_meet () trivial (by repeat (first | exact SubF.nil | refine SubF.cons rfl ?_)) (by repeat (first | exact SubO.nil | refine SubO.cons rfl ?_)) rfl (Vw.le.refl _)
          ·
            refine h_yield 5 rfl rfl rfl rfl (y_val tok rfl) ?_
            refine h_two 4 6 (by kernel_rfl) ?_ ?_
            ·
              refine h_yield 4 rfl rfl rfl rfl (y_val tok rfl) ?_
              refine h_two 6 8 (by kernel_rfl) ?_ ?_
              ·
                refine h_yield 6 rfl rfl rfl rfl (y_val tok rfl) ?_
                refine h_one 8 (by kernel_rfl) ?_
                refine h_store 8 tok rfl rfl rfl rfl (by first | exact ⟨trivial, trivial⟩ | (repeat' first | exact trivial | exact rfl | apply And.intro); done | simp [onesP, oneP, lk, Value.oneCell']) (.inr ⟨(by repeat (first | exact SubO.nil | refine SubO.cons rfl ?_)), rfl, (by first | exact Vw.le.refl _ | assumption)⟩) ?_
                refine h_one 9 (by kernel_rfl) ?_
                refine h_yield 9 rfl rfl rfl rfl (y_val tok rfl) ?_
                refine h_one 10 (by kernel_rfl) ?_
                refine h_yield 10 rfl rfl rfl rfl (y_val tok rfl) ?_
                refine h_done [1, 4, 5, 6, 7, 8, 9, 10, 11, 12, 13, 14] (by kernel_rfl) rfl ?_
                exact x_meet () trivial (by repeat (first | exact SubF.nil | refine SubF.cons rfl ?_)) (by repeat (first | exact SubO.nil | refine SubO.cons rfl ?_)) rfl (Vw.le.refl _)
              ·
                refine h_store 8 tok rfl rfl rfl rfl (by first | exact ⟨trivial, trivial⟩ | (repeat' first | exact trivial | exact rfl | apply And.intro); done | simp [onesP, oneP, lk, Value.oneCell']) (.inr ⟨(by repeat (first | exact SubO.nil | refine SubO.cons rfl ?_)), rfl, (by first | exact Vw.le.refl _ | assumption)⟩) ?_
                refine h_two 6 9 (by kernel_rfl) ?_ ?_
                ·
                  refine h_yield 6 rfl rfl rfl rfl (y_val tok rfl) ?_
                  refine h_one 9 (by kernel_rfl) ?_
                  refine h_yield 9 rfl rfl rfl rfl (y_val tok rfl) ?_
                  refine h_one 10 (by kernel_rfl) ?_
                  refine h_yield 10 rfl rfl rfl rfl (y_val tok rfl) ?_
                  refine h_done [1, 4, 5, 6, 7, 8, 9, 10, 11, 12, 13, 14] (by kernel_rfl) rfl ?_
                  exact x_meet () trivial (by repeat (first | exact SubF.nil | refine SubF.cons rfl ?_)) (by repeat (first | exact SubO.nil | refine SubO.cons rfl ?_)) rfl (Vw.le.refl _)
                ·
                  refine h_yield 9 rfl rfl rfl rfl (y_val tok rfl) ?_
                  refine h_one 6 (by kernel_rfl) ?_
                  refine h_yield 6 rfl rfl rfl rfl (y_val tok rfl) ?_
                  refine h_one 10 (by kernel_rfl) ?_
                  refine h_yield 10 rfl rfl rfl rfl (y_val tok rfl) ?_
                  refine h_done [1, 4, 5, 6, 7, 8, 9, 10, 11, 12, 13, 14] (by kernel_rfl) rfl ?_
                  exact x_meet () trivial (by repeat (first | exact SubF.nil | refine SubF.cons rfl ?_)) (by repeat (first | exact SubO.nil | refine SubO.cons rfl ?_)) rfl (Vw.le.refl _)
            ·
              refine h_yield 6 rfl rfl rfl rfl (y_val tok rfl) ?_
              refine h_one 4 (by kernel_rfl) ?_
              refine h_yield 4 rfl rfl rfl rfl (y_val tok rfl) ?_
              refine h_one 8 (by kernel_rfl) ?_
              refine h_store 8 tok rfl rfl rfl rfl (by first | exact ⟨trivial, trivial⟩ | (repeat' first | exact trivial | exact rfl | apply And.intro); done | simp [onesP, oneP, lk, Value.oneCell']) (.inr ⟨(by repeat (first | exact SubO.nil | refine SubO.cons rfl ?_)), rfl, (by first | exact Vw.le.refl _ | assumption)⟩) ?_
              refine h_one 9 (by kernel_rfl) ?_
              refine h_yield 9 rfl rfl rfl rfl (y_val tok rfl) ?_
              refine h_one 10 (by kernel_rfl) ?_
              refine h_yield 10 rfl rfl rfl rfl (y_val tok rfl) ?_
              refine h_done [1, 4, 5, 6, 7, 8, 9, 10, 11, 12, 13, 14] (by kernel_rfl) rfl ?_
              exact x_meet () trivial (by repeat (first | exact SubF.nil | refine SubF.cons rfl ?_)) (by repeat (first | exact SubO.nil | refine SubO.cons rfl ?_)) rfl (Vw.le.refl _)
          ·
            refine h_yield 6 rfl rfl rfl rfl (y_val tok rfl) ?_
            refine h_two 4 5 (by kernel_rfl) ?_ ?_
            ·
              refine h_yield 4 rfl rfl rfl rfl (y_val tok rfl) ?_
              refine h_two 5 8 (by kernel_rfl) ?_ ?_
              ·
                refine h_yield 5 rfl rfl rfl rfl (y_val tok rfl) ?_
                refine h_one 8 (by kernel_rfl) ?_
                refine h_store 8 tok rfl rfl rfl rfl (by first | exact ⟨trivial, trivial⟩ | (repeat' first | exact trivial | exact rfl | apply And.intro); done | simp [onesP, oneP, lk, Value.oneCell']) (.inr ⟨(by repeat (first | exact SubO.nil | refine SubO.cons rfl ?_)), rfl, (by first | exact Vw.le.refl _ | assumption)⟩) ?_
                refine h_one 9 (by kernel_rfl) ?_
                refine h_yield 9 rfl rfl rfl rfl (y_val tok rfl) ?_
                refine h_one 10 (by kernel_rfl) ?_
                refine h_yield 10 rfl rfl rfl rfl (y_val tok rfl) ?_
                refine h_done [1, 4, 5, 6, 7, 8, 9, 10, 11, 12, 13, 14] (by kernel_rfl) rfl ?_
                exact x_meet () trivial (by repeat (first | exact SubF.nil | refine SubF.cons rfl ?_)) (by repeat (first | exact SubO.nil | refine SubO.cons rfl ?_)) rfl (Vw.le.refl _)
              ·
                refine h_store 8 tok rfl rfl rfl rfl (by first | exact ⟨trivial, trivial⟩ | (repeat' first | exact trivial | exact rfl | apply And.intro); done | simp [onesP, oneP, lk, Value.oneCell']) (.inr ⟨(by repeat (first | exact SubO.nil | refine SubO.cons rfl ?_)), rfl, (by first | exact Vw.le.refl _ | assumption)⟩) ?_
                refine h_one 5 (by kernel_rfl) ?_
                refine h_yield 5 rfl rfl rfl rfl (y_val tok rfl) ?_
                refine h_one 9 (by kernel_rfl) ?_
                refine h_yield 9 rfl rfl rfl rfl (y_val tok rfl) ?_
                refine h_one 10 (by kernel_rfl) ?_
                refine h_yield 10 rfl rfl rfl rfl (y_val tok rfl) ?_
                refine h_done [1, 4, 5, 6, 7, 8, 9, 10, 11, 12, 13, 14] (by kernel_rfl) rfl ?_
                exact x_meet () trivial (by repeat (first | exact SubF.nil | refine SubF.cons rfl ?_)) (by repeat (first | exact SubO.nil | refine SubO.cons rfl ?_)) rfl (Vw.le.refl _)
            ·
              refine h_yield 5 rfl rfl rfl rfl (y_val tok rfl) ?_
              refine h_one 4 (by kernel_rfl) ?_
              refine h_yield 4 rfl rfl rfl rfl (y_val tok rfl) ?_
              refine h_one 8 (by kernel_rfl) ?_
              refine h_store 8 tok rfl rfl rfl rfl (by first | exact ⟨trivial, trivial⟩ | (repeat' first | exact trivial | exact rfl | apply And.intro); done | simp [onesP, oneP, lk, Value.oneCell']) (.inr ⟨(by repeat (first | exact SubO.nil | refine SubO.cons rfl ?_)), rfl, (by first | exact Vw.le.refl _ | assumption)⟩) ?_
              refine h_one 9 (by kernel_rfl) ?_
              refine h_yield 9 rfl rfl rfl rfl (y_val tok rfl) ?_
              refine h_one 10 (by kernel_rfl) ?_
              refine h_yield 10 rfl rfl rfl rfl (y_val tok rfl) ?_
              refine h_done [1, 4, 5, 6, 7, 8, 9, 10, 11, 12, 13, 14] (by kernel_rfl) rfl ?_
              exact x_meet () trivial (by repeat (first | exact SubF.nil | refine SubF.cons rfl ?_)) (by repeat (first | exact SubO.nil | refine SubO.cons rfl ?_)) rfl (Vw.le.refl _)
      ·
        refine h_new 7 tok rfl rfl rfl rfl rfl rfl ?_
        refine h_one 2 (by kernel_rfl) ?_
        refine h_call 2 (.a (.v (.tuple #[rpV 0 16 4 7 (.slice ra rn rc) (.slice none 0 0) 0 7, .bool true, I 0]))) rfl rfl rfl fnok10 rfl rfl rfl (fun hg E w1 hm => by exact rpTake3_c geo21 geo21_ok 0 16 7 _ _ _ _ _ _ 0 7 _ _) ?_
        refine h_one 3 (by kernel_rfl) ?_
        refine h_yield 3 rfl rfl rfl rfl (y_val tok rfl) ?_
        refine h_three 4 5 6 (by kernel_rfl) ?_ ?_ ?_
        ·
          refine h_yield 4 rfl rfl rfl rfl (y_val tok rfl) ?_
          refine h_three 5 6 8 (by kernel_rfl) ?_ ?_ ?_
          ·
            refine h_yield 5 rfl rfl rfl rfl (y_val tok rfl) ?_
            refine h_two 6 8 (by kernel_rfl) ?_ ?_
            ·
              refine h_yield 6 rfl rfl rfl rfl (y_val tok rfl) ?_
              refine h_one 8 (by kernel_rfl) ?_
              refine h_store 8 tok rfl rfl rfl rfl (by first | exact ⟨trivial, trivial⟩ | (repeat' first | exact trivial | exact rfl | apply And.intro); done | simp [onesP, oneP, lk, Value.oneCell']) (.inr ⟨(by repeat (first | exact SubO.nil | refine SubO.cons rfl ?_)), rfl, (by first | exact Vw.le.refl _ | assumption)⟩) ?_
              refine h_one 9 (by kernel_rfl) ?_
              refine h_yield 9 rfl rfl rfl rfl (y_val tok rfl) ?_
              refine h_one 10 (by kernel_rfl) ?_
              refine h_yield 10 rfl rfl rfl rfl (y_val tok rfl) ?_
              refine h_done [1, 4, 5, 6, 7, 8, 9, 10, 11, 12, 13, 14] (by kernel_rfl) rfl ?_
              exact x_meet () trivial (by repeat (first | exact SubF.nil | refine SubF.cons rfl ?_)) (by repeat (first | exact SubO.nil | refine SubO.cons rfl ?_)) rfl (Vw.le.refl _)
            ·
              refine h_store 8 tok rfl rfl rfl rfl (by first | exact ⟨trivial, trivial⟩ | (repeat' first | exact trivial | exact rfl | apply And.intro); done | simp [onesP, oneP, lk, Value.oneCell']) (.inr ⟨(by repeat (first | exact SubO.nil | refine SubO.cons rfl ?_)), rfl, (by first | exact Vw.le.refl _ | assumption)⟩) ?_
              refine h_two 6 9 (by kernel_rfl) ?_ ?_
              ·
                refine h_yield 6 rfl rfl rfl rfl (y_val tok rfl) ?_
                refine h_one 9 (by kernel_rfl) ?_
                refine h_yield 9 rfl rfl rfl rfl (y_val tok rfl) ?_
                refine h_one 10 (by kernel_rfl) ?_
                refine h_yield 10 rfl rfl rfl rfl (y_val tok rfl) ?_
                refine h_done [1, 4, 5, 6, 7, 8, 9, 10, 11, 12, 13, 14] (by kernel_rfl) rfl ?_
                exact x_meet () trivial (by repeat (first | exact SubF.nil | refine SubF.cons rfl ?_)) (by repeat (first | exact SubO.nil | refine SubO.cons rfl ?_)) rfl (Vw.le.refl _)
              ·
                refine h_yield 9 rfl rfl rfl rfl (y_val tok rfl) ?_
                refine h_one 6 (by kernel_rfl) ?_
                refine h_yield 6 rfl rfl rfl rfl (y_val tok rfl) ?_
                refine h_one 10 (by kernel_rfl) ?_
                refine h_yield 10 rfl rfl rfl rfl (y_val tok rfl) ?_
                refine h_done [1, 4, 5, 6, 7, 8, 9, 10, 11, 12, 13, 14] (by kernel_rfl) rfl ?_
                exact x_meet () trivial (by repeat (first | exact SubF.nil | refine SubF.cons rfl ?_)) (by repeat (first | exact SubO.nil | refine SubO.cons rfl ?_)) rfl (Vw.le.refl _)
          ·
            refine h_yield 6 rfl rfl rfl rfl (y_val tok rfl) ?_
            refine h_two 5 8 (by kernel_rfl) ?_ ?_
            ·
              refine h_yield 5 rfl rfl rfl rfl (y_val tok rfl) ?_
              refine h_one 8 (by kernel_rfl) ?_
              refine h_store 8 tok rfl rfl rfl rfl (by first | exact ⟨trivial, trivial⟩ | (repeat' first | exact trivial | exact rfl | apply And.intro); done | simp [onesP, oneP, lk, Value.oneCell']) (.inr ⟨(by repeat (first | exact SubO.nil | refine SubO.cons rfl ?_)), rfl, (by first | exact Vw.le.refl _ | assumption)⟩) ?_
              refine h_one 9 (by kernel_rfl) ?_
              refine h_yield 9 rfl rfl rfl rfl (y_val tok rfl) ?_
              refine h_one 10 (by kernel_rfl) ?_
              refine h_yield 10 rfl rfl rfl rfl (y_val tok rfl) ?_
              refine h_done [1, 4, 5, 6, 7, 8, 9, 10, 11, 12, 13, 14] (by kernel_rfl) rfl ?_
              exact x_meet () trivial (by repeat (first | exact SubF.nil | refine SubF.cons rfl ?_)) (by repeat (first | exact SubO.nil | refine SubO.cons rfl ?_)) rfl (Vw.le.refl _)
            ·
              refine h_store 8 tok rfl rfl rfl rfl (by first | exact ⟨trivial, trivial⟩ | (repeat' first | exact trivial | exact rfl | apply And.intro); done | simp [onesP, oneP, lk, Value.oneCell']) (.inr ⟨(by repeat (first | exact SubO.nil | refine SubO.cons rfl ?_)), rfl, (by first | exact Vw.le.refl _ | assumption)⟩) ?_
              refine h_one 5 (by kernel_rfl) ?_
              refine h_yield 5 rfl rfl rfl rfl (y_val tok rfl) ?_
              refine h_one 9 (by kernel_rfl) ?_
              refine h_yield 9 rfl rfl rfl rfl (y_val tok rfl) ?_
              refine h_one 10 (by kernel_rfl) ?_
              refine h_yield 10 rfl rfl rfl rfl (y_val tok rfl) ?_
              refine h_done [1, 4, 5, 6, 7, 8, 9, 10, 11, 12, 13, 14] (by kernel_rfl) rfl ?_
              exact x_meet () trivial (by repeat (first | exact SubF.nil | refine SubF.cons rfl ?_)) (by repeat (first | exact SubO.nil | refine SubO.cons rfl ?_)) rfl (Vw.le.refl _)
          ·
            refine h_store 8 tok rfl rfl rfl rfl (by first | exact ⟨trivial, trivial⟩ | (repeat' first | exact trivial | exact rfl | apply And.intro); done | simp [onesP, oneP, lk, Value.oneCell']) (.inr ⟨(by repeat (first | exact SubO.nil | refine SubO.cons rfl ?_)), rfl, (by first | exact Vw.le.refl _ | assumption)⟩) ?_
            refine h_two 5 6 (by kernel_rfl) ?_ ?_
            ·
              refine h_yield 5 rfl rfl rfl rfl (y_val tok rfl) ?_
              refine h_two 6 9 (by kernel_rfl) ?_ ?_
              ·
                refine h_yield 6 rfl rfl rfl rfl (y_val tok rfl) ?_
                refine h_one 9 (by kernel_rfl) ?_
                refine h_yield 9 rfl rfl rfl rfl (y_val tok rfl) ?_
                refine h_one 10 (by kernel_rfl) ?_
                refine h_yield 10 rfl rfl rfl rfl (y_val tok rfl) ?_
                refine h_done [1, 4, 5, 6, 7, 8, 9, 10, 11, 12, 13, 14] (by kernel_rfl) rfl ?_
                exact x_meet () trivial (by repeat (first | exact SubF.nil | refine SubF.cons rfl ?_)) (by repeat (first | exact SubO.nil | refine SubO.cons rfl ?_)) rfl (Vw.le.refl _)
              ·
                refine h_yield 9 rfl rfl rfl rfl (y_val tok rfl) ?_
                refine h_one 6 (by kernel_rfl) ?_
                refine h_yield 6 rfl rfl rfl rfl (y_val tok rfl) ?_
                refine h_one 10 (by kernel_rfl) ?_
                refine h_yield 10 rfl rfl rfl rfl (y_val tok rfl) ?_
                refine h_done [1, 4, 5, 6, 7, 8, 9, 10, 11, 12, 13, 14] (by kernel_rfl) rfl ?_
                exact x_meet () trivial (by repeat (first | exact SubF.nil | refine SubF.cons rfl ?_)) (by repeat (first | exact SubO.nil | refine SubO.cons rfl ?_)) rfl (Vw.le.refl _)
            ·
              refine h_yield 6 rfl rfl rfl rfl (y_val tok rfl) ?_
              refine h_one 5 (by kernel_rfl) ?_
              refine h_yield 5 rfl rfl rfl rfl (y_val tok rfl) ?_
              refine h_one 9 (by kernel_rfl) ?_
              refine h_yield 9 rfl rfl rfl rfl (y_val tok rfl) ?_
              refine h_one 10 (by kernel_rfl) ?_
              refine h_yield 10 rfl rfl rfl rfl (y_val tok rfl) ?_
              refine h_done [1, 4, 5, 6, 7, 8, 9, 10, 11, 12, 13, 14] (by kernel_rfl) rfl ?_
              exact x_meet () trivial (by repeat (first | exact SubF.nil | refine SubF.cons rfl ?_)) (by repeat (first | exact SubO.nil | refine SubO.cons rfl ?_)) rfl (Vw.le.refl _)
        ·
          refine h_yield 5 rfl rfl rfl rfl (y_val tok rfl) ?_
          refine h_two 4 6 (by kernel_rfl) ?_ ?_
          ·
            refine h_yield 4 rfl rfl rfl rfl (y_val tok rfl) ?_
            refine h_two 6 8 (by kernel_rfl) ?_ ?_
            ·
              refine h_yield 6 rfl rfl rfl rfl (y_val tok rfl) ?_
              refine h_one 8 (by kernel_rfl) ?_
              refine h_store 8 tok rfl rfl rfl rfl (by first | exact ⟨trivial, trivial⟩ | (repeat' first | exact trivial | exact rfl | apply And.intro); done | simp [onesP, oneP, lk, Value.oneCell']) (.inr ⟨(by repeat (first | exact SubO.nil | refine SubO.cons rfl ?_)), rfl, (by first | exact Vw.le.refl _ | assumption)⟩) ?_
              refine h_one 9 (by kernel_rfl) ?_
              refine h_yield 9 rfl rfl rfl rfl (y_val tok rfl) ?_
              refine h_one 10 (by kernel_rfl) ?_
              refine h_yield 10 rfl rfl rfl rfl (y_val tok rfl) ?_
              refine h_done [1, 4, 5, 6, 7, 8, 9, 10, 11, 12, 13, 14] (by kernel_rfl) rfl ?_
              exact x_meet () trivial (by repeat (first | exact SubF.nil | refine SubF.cons rfl ?_)) (by repeat (first | exact SubO.nil | refine SubO.cons rfl ?_)) rfl (Vw.le.refl _)
            ·
              refine h_store 8 tok rfl rfl rfl rfl (by first | exact ⟨trivial, trivial⟩ | (repeat' first | exact trivial | exact rfl | apply And.intro); done | simp [onesP, oneP, lk, Value.oneCell']) (.inr ⟨(by repeat (first | exact SubO.nil | refine SubO.cons rfl ?_)), rfl, (by first | exact Vw.le.refl _ | assumption)⟩) ?_
              refine h_two 6 9 (by kernel_rfl) ?_ ?_
              ·
                refine h_yield 6 rfl rfl rfl rfl (y_val tok rfl) ?_
                refine h_one 9 (by kernel_rfl) ?_
                refine h_yield 9 rfl rfl rfl rfl (y_val tok rfl) ?_
                refine h_one 10 (by kernel_rfl) ?_
                refine h_yield 10 rfl rfl rfl rfl (y_val tok rfl) ?_
                refine h_done [1, 4, 5, 6, 7, 8, 9, 10, 11, 12, 13, 14] (by kernel_rfl) rfl ?_
                exact x_meet () trivial (by repeat (first | exact SubF.nil | refine SubF.cons rfl ?_)) (by repeat (first | exact SubO.nil | refine SubO.cons rfl ?_)) rfl (Vw.le.refl _)
              ·
                refine h_yield 9 rfl rfl rfl rfl (y_val tok rfl) ?_
                refine h_one 6 (by kernel_rfl) ?_
                refine h_yield 6 rfl rfl rfl rfl (y_val tok rfl) ?_
                refine h_one 10 (by kernel_rfl) ?_
                refine h_yield 10 rfl rfl rfl rfl (y_val tok rfl) ?_
                refine h_done [1, 4, 5, 6, 7, 8, 9, 10, 11, 12, 13, 14] (by kernel_rfl) rfl ?_
                exact x_meet () trivial (by repeat (first | exact SubF.nil | refine SubF.cons rfl ?_)) (by repeat (first | exact SubO.nil | refine SubO.cons rfl ?_)) rfl (Vw.le.refl _)
          ·
            refine h_yield 6 rfl rfl rfl rfl (y_val tok rfl) ?_
            refine h_one 4 (by kernel_rfl) ?_
            refine h_yield 4 rfl rfl rfl rfl (y_val tok rfl) ?_
            refine h_one 8 (by kernel_rfl) ?_
            refine h_store 8 tok rfl rfl rfl rfl (by first | exact ⟨trivial, trivial⟩ | (repeat' first | exact trivial | exact rfl | apply And.intro); done | simp [onesP, oneP, lk, Value.oneCell']) (.inr ⟨(by repeat (first | exact SubO.nil | refine SubO.cons rfl ?_)), rfl, (by first | exact Vw.le.refl _ | assumption)⟩) ?_
            refine h_one 9 (by kernel_rfl) ?_
            refine h_yield 9 rfl rfl rfl rfl (y_val tok rfl) ?_
            refine h_one 10 (by kernel_rfl) ?_
            refine h_yield 10 rfl rfl rfl rfl (y_val tok rfl) ?_
            refine h_done [1, 4, 5, 6, 7, 8, 9, 10, 11, 12, 13, 14] (by kernel_rfl) rfl ?_
            exact x_meet () trivial (by repeat (first | exact SubF.nil | refine SubF.cons rfl ?_)) (by repeat (first | exact SubO.nil | refine SubO.cons rfl ?_)) rfl (Vw.le.refl _)
        ·
          refine h_yield 6 rfl rfl rfl rfl (y_val tok rfl) ?_
          refine h_two 4 5 (by kernel_rfl) ?_ ?_
          ·
            refine h_yield 4 rfl rfl rfl rfl (y_val tok rfl) ?_
            refine h_two 5 8 (by kernel_rfl) ?_ ?_
            ·
              refine h_yield 5 rfl rfl rfl rfl (y_val tok rfl) ?_
              refine h_one 8 (by kernel_rfl) ?_
              refine h_store 8 tok rfl rfl rfl rfl (by first | exact ⟨trivial, trivial⟩ | (repeat' first | exact trivial | exact rfl | apply And.intro); done | simp [onesP, oneP, lk, Value.oneCell']) (.inr ⟨(by repeat (first | exact SubO.nil | refine SubO.cons rfl ?_)), rfl, (by first | exact Vw.le.refl _ | assumption)⟩) ?_
              refine h_one 9 (by kernel_rfl) ?_
              refine h_yield 9 rfl rfl rfl rfl (y_val tok rfl) ?_
              refine h_one 10 (by kernel_rfl) ?_
              refine h_yield 10 rfl rfl rfl rfl (y_val tok rfl) ?_
              refine h_done [1, 4, 5, 6, 7, 8, 9, 10, 11, 12, 13, 14] (by kernel_rfl) rfl ?_
              exact x_meet () trivial (by repeat (first | exact SubF.nil | refine SubF.cons rfl ?_)) (by repeat (first | exact SubO.nil | refine SubO.cons rfl ?_)) rfl (Vw.le.refl _)
            ·
              refine h_store 8 tok rfl rfl rfl rfl (by first | exact ⟨trivial, trivial⟩ | (repeat' first | exact trivial | exact rfl | apply And.intro); done | simp [onesP, oneP, lk, Value.oneCell']) (.inr ⟨(by repeat (first | exact SubO.nil | refine SubO.cons rfl ?_)), rfl, (by first | exact Vw.le.refl _ | assumption)⟩) ?_
              refine h_one 5 (by kernel_rfl) ?_
              refine h_yield 5 rfl rfl rfl rfl (y_val tok rfl) ?_
              refine h_one 9 (by kernel_rfl) ?_
              refine h_yield 9 rfl rfl rfl rfl (y_val tok rfl) ?_
              refine h_one 10 (by kernel_rfl) ?_
              refine h_yield 10 rfl rfl rfl rfl (y_val tok rfl) ?_
              refine h_done [1, 4, 5, 6, 7, 8, 9, 10, 11, 12, 13, 14] (by kernel_rfl) rfl ?_
              exact x_meet () trivial (by repeat (first | exact SubF.nil | refine SubF.cons rfl ?_)) (by repeat (first | exact SubO.nil | refine SubO.cons rfl ?_)) rfl (Vw.le.refl _)
          ·
            refine h_yield 5 rfl rfl rfl rfl (y_val tok rfl) ?_
            refine h_one 4 (by kernel_rfl) ?_
            refine h_yield 4 rfl rfl rfl rfl (y_val tok rfl) ?_
            refine h_one 8 (by kernel_rfl) ?_
            refine h_store 8 tok rfl rfl rfl rfl (by first | exact ⟨trivial, trivial⟩ | (repeat' first | exact trivial | exact rfl | apply And.intro); done | simp [onesP, oneP, lk, Value.oneCell']) (.inr ⟨(by repeat (first | exact SubO.nil | refine SubO.cons rfl ?_)), rfl, (by first | exact Vw.le.refl _ | assumption)⟩) ?_
            refine h_one 9 (by kernel_rfl) ?_
            refine h_yield 9 rfl rfl rfl rfl (y_val tok rfl) ?_
            refine h_one 10 (by kernel_rfl) ?_
            refine h_yield 10 rfl rfl rfl rfl (y_val tok rfl) ?_
            refine h_done [1, 4, 5, 6, 7, 8, 9, 10, 11, 12, 13, 14] (by kernel_rfl) rfl ?_
            exact x_meet () trivial (by repeat (first | exact SubF.nil | refine SubF.cons rfl ?_)) (by repeat (first | exact SubO.nil | refine SubO.cons rfl ?_)) rfl (Vw.le.refl _)
    ·
      refine h_new 7 tok rfl rfl rfl rfl rfl rfl ?_
      refine h_one 0 (by kernel_rfl) ?_
      refine h_call 0 (.a (.v geo21.val)) rfl rfl rfl fnok46 rfl rfl rfl (fun hg E w1 hm => by exact geo21_c _) ?_
      refine h_one 2 (by kernel_rfl) ?_
      refine h_call 2 (.a (.v (.tuple #[rpV 0 16 4 7 (.slice ra rn rc) (.slice none 0 0) 0 7, .bool true, I 0]))) rfl rfl rfl fnok10 rfl rfl rfl (fun hg E w1 hm => by exact rpTake3_c geo21 geo21_ok 0 16 7 _ _ _ _ _ _ 0 7 _ _) ?_
      refine h_one 3 (by kernel_rfl) ?_
      refine h_yield 3 rfl rfl rfl rfl (y_val tok rfl) ?_
      refine h_three 4 5 6 (by kernel_rfl) ?_ ?_ ?_
      ·
        refine h_yield 4 rfl rfl rfl rfl (y_val tok rfl) ?_
        refine h_three 5 6 8 (by kernel_rfl) ?_ ?_ ?_
        ·
          refine h_yield 5 rfl rfl rfl rfl (y_val tok rfl) ?_
          refine h_two 6 8 (by kernel_rfl) ?_ ?_
          ·
            refine h_yield 6 rfl rfl rfl rfl (y_val tok rfl) ?_
            refine h_one 8 (by kernel_rfl) ?_
            refine h_store 8 tok rfl rfl rfl rfl (by first | exact ⟨trivial, trivial⟩ | (repeat' first | exact trivial | exact rfl | apply And.intro); done | simp [onesP, oneP, lk, Value.oneCell']) (.inr ⟨(by repeat (first | exact SubO.nil | refine SubO.cons rfl ?_)), rfl, (by first | exact Vw.le.refl _ | assumption)⟩) ?_
            refine h_one 9 (by kernel_rfl) ?_
            refine h_yield 9 rfl rfl rfl rfl (y_val tok rfl) ?_
            refine h_one 10 (by kernel_rfl) ?_
            refine h_yield 10 rfl rfl rfl rfl (y_val tok rfl) ?_
            refine h_done [1, 4, 5, 6, 7, 8, 9, 10, 11, 12, 13, 14] (by kernel_rfl) rfl ?_
            exact x_meet () trivial (by repeat (first | exact SubF.nil | refine SubF.cons rfl ?_)) (by repeat (first | exact SubO.nil | refine SubO.cons rfl ?_)) rfl (Vw.le.refl _)
          ·
            refine h_store 8 tok rfl rfl rfl rfl (by first | exact ⟨trivial, trivial⟩ | (repeat' first | exact trivial | exact rfl | apply And.intro); done | simp [onesP, oneP, lk, Value.oneCell']) (.inr ⟨(by repeat (first | exact SubO.nil | refine SubO.cons rfl ?_)), rfl, (by first | exact Vw.le.refl _ | assumption)⟩) ?_
            refine h_two 6 9 (by kernel_rfl) ?_ ?_
            ·
              refine h_yield 6 rfl rfl rfl rfl (y_val tok rfl) ?_
              refine h_one 9 (by kernel_rfl) ?_
              refine h_yield 9 rfl rfl rfl rfl (y_val tok rfl) ?_
              refine h_one 10 (by kernel_rfl) ?_
              refine h_yield 10 rfl rfl rfl rfl (y_val tok rfl) ?_
              refine h_done [1, 4, 5, 6, 7, 8, 9, 10, 11, 12, 13, 14] (by kernel_rfl) rfl ?_
              exact x_meet () trivial (by repeat (first | exact SubF.nil | refine SubF.cons rfl ?_)) (by repeat (first | exact SubO.nil | refine SubO.cons rfl ?_)) rfl (Vw.le.refl _)
            ·
              refine h_yield 9 rfl rfl rfl rfl (y_val tok rfl) ?_
              refine h_one 6 (by kernel_rfl) ?_
              refine h_yield 6 rfl rfl rfl rfl (y_val tok rfl) ?_
              refine h_one 10 (by kernel_rfl) ?_
              refine h_yield 10 rfl rfl rfl rfl (y_val tok rfl) ?_
              refine h_done [1, 4, 5, 6, 7, 8, 9, 10, 11, 12, 13, 14] (by kernel_rfl) rfl ?_
              exact x_meet () trivial (by repeat (first | exact SubF.nil | refine SubF.cons rfl ?_)) (by repeat (first | exact SubO.nil | refine SubO.cons rfl ?_)) rfl (Vw.le.refl _)
        ·
          refine h_yield 6 rfl rfl rfl rfl (y_val tok rfl) ?_
          refine h_two 5 8 (by kernel_rfl) ?_ ?_
          ·
            refine h_yield 5 rfl rfl rfl rfl (y_val tok rfl) ?_
            refine h_one 8 (by kernel_rfl) ?_
            refine h_store 8 tok rfl rfl rfl rfl (by first | exact ⟨trivial, trivial⟩ | (repeat' first | exact trivial | exact rfl | apply And.intro); done | simp [onesP, oneP, lk, Value.oneCell']) (.inr ⟨(by repeat (first | exact SubO.nil | refine SubO.cons rfl ?_)), rfl, (by first | exact Vw.le.refl _ | assumption)⟩) ?_
            refine h_one 9 (by kernel_rfl) ?_
            refine h_yield 9 rfl rfl rfl rfl (y_val tok rfl) ?_
            refine h_one 10 (by kernel_rfl) ?_
            refine h_yield 10 rfl rfl rfl rfl (y_val tok rfl) ?_
            refine h_done [1, 4, 5, 6, 7, 8, 9, 10, 11, 12, 13, 14] (by kernel_rfl) rfl ?_
            exact x_meet () trivial (by repeat (first | exact SubF.nil | refine SubF.cons rfl ?_)) (by repeat (first | exact SubO.nil | refine SubO.cons rfl ?_)) rfl (Vw.le.refl _)
          ·
            refine h_store 8 tok rfl rfl rfl rfl (by first | exact ⟨trivial, trivial⟩ | (repeat' first | exact trivial | exact rfl | apply And.intro); done | simp [onesP, oneP, lk, Value.oneCell']) (.inr ⟨(by repeat (first | exact SubO.nil | refine SubO.cons rfl ?_)), rfl, (by first | exact Vw.le.refl _ | assumption)⟩) ?_
            refine h_one 5 (by kernel_rfl) ?_
            refine h_yield 5 rfl rfl rfl rfl (y_val tok rfl) ?_
            refine h_one 9 (by kernel_rfl) ?_
            refine h_yield 9 rfl rfl rfl rfl (y_val tok rfl) ?_
            refine h_one 10 (by kernel_rfl) ?_
            refine h_yield 10 rfl rfl rfl rfl (y_val tok rfl) ?_
            refine h_done [1, 4, 5, 6, 7, 8, 9, 10, 11, 12, 13, 14] (by kernel_rfl) rfl ?_
            exact x_meet () trivial (by repeat (first | exact SubF.nil | refine SubF.cons rfl ?_)) (by repeat (first | exact SubO.nil | refine SubO.cons rfl ?_)) rfl (Vw.le.refl _)
        ·
          refine h_store 8 tok rfl rfl rfl rfl (by first | exact ⟨trivial, trivial⟩ | (repeat' first | exact trivial | exact rfl | apply And.intro); done | simp [onesP, oneP, lk, Value.oneCell']) (.inr ⟨(by repeat (first | exact SubO.nil | refine SubO.cons rfl ?_)), rfl, (by first | exact Vw.le.refl _ | assumption)⟩) ?_
          refine h_two 5 6 (by kernel_rfl) ?_ ?_
          ·
            refine h_yield 5 rfl rfl rfl rfl (y_val tok rfl) ?_
            refine h_two 6 9 (by kernel_rfl) ?_ ?_
            ·
              refine h_yield 6 rfl rfl rfl rfl (y_val tok rfl) ?_
              refine h_one 9 (by kernel_rfl) ?_
              refine h_yield 9 rfl rfl rfl rfl (y_val tok rfl) ?_
              refine h_one 10 (by kernel_rfl) ?_
              refine h_yield 10 rfl rfl rfl rfl (y_val tok rfl) ?_
              refine h_done [1, 4, 5, 6, 7, 8, 9, 10, 11, 12, 13, 14] (by kernel_rfl) rfl ?_
              exact x_meet () trivial (by repeat (first | exact SubF.nil | refine SubF.cons rfl ?_)) (by repeat (first | exact SubO.nil | refine SubO.cons rfl ?_)) rfl (Vw.le.refl _)
            ·
              refine h_yield 9 rfl rfl rfl rfl (y_val tok rfl) ?_
              refine h_one 6 (by kernel_rfl) ?_
              refine h_yield 6 rfl rfl rfl rfl (y_val tok rfl) ?_
              refine h_one 10 (by kernel_rfl) ?_
              refine h_yield 10 rfl rfl rfl rfl (y_val tok rfl) ?_
              refine h_done [1, 4, 5, 6, 7, 8, 9, 10, 11, 12, 13, 14] (by kernel_rfl) rfl ?_
              exact x_meet () trivial (by repeat (first | exact SubF.nil | refine SubF.cons rfl ?_)) (by repeat (first | exact SubO.nil | refine SubO.cons rfl ?_)) rfl (Vw.le.refl _)
          ·
            refine h_yield 6 rfl rfl rfl rfl (y_val tok rfl) ?_
            refine h_one 5 (by kernel_rfl) ?_
            refine h_yield 5 rfl rfl rfl rfl (y_val tok rfl) ?_
            refine h_one 9 (by kernel_rfl) ?_
            refine h_yield 9 rfl rfl rfl rfl (y_val tok rfl) ?_
            refine h_one 10 (by kernel_rfl) ?_
            refine h_yield 10 rfl rfl rfl rfl (y_val tok rfl) ?_
            refine h_done [1, 4, 5, 6, 7, 8, 9, 10, 11, 12, 13, 14] (by kernel_rfl) rfl ?_
            exact x_meet () trivial (by repeat (first | exact SubF.nil | refine SubF.cons rfl ?_)) (by repeat (first | exact SubO.nil | refine SubO.cons rfl ?_)) rfl (Vw.le.refl _)
      ·
        refine h_yield 5 rfl rfl rfl rfl (y_val tok rfl) ?_
        refine h_two 4 6 (by kernel_rfl) ?_ ?_
        ·
          refine h_yield 4 rfl rfl rfl rfl (y_val tok rfl) ?_
          refine h_two 6 8 (by kernel_rfl) ?_ ?_
          ·
            refine h_yield 6 rfl rfl rfl rfl (y_val tok rfl) ?_
            refine h_one 8 (by kernel_rfl) ?_
            refine h_store 8 tok rfl rfl rfl rfl (by first | exact ⟨trivial, trivial⟩ | (repeat' first | exact trivial | exact rfl | apply And.intro); done | simp [onesP, oneP, lk, Value.oneCell']) (.inr ⟨(by repeat (first | exact SubO.nil | refine SubO.cons rfl ?_)), rfl, (by first | exact Vw.le.refl _ | assumption)⟩) ?_
            refine h_one 9 (by kernel_rfl) ?_
            refine h_yield 9 rfl rfl rfl rfl (y_val tok rfl) ?_
            refine h_one 10 (by kernel_rfl) ?_
            refine h_yield 10 rfl rfl rfl rfl (y_val tok rfl) ?_
            refine h_done [1, 4, 5, 6, 7, 8, 9, 10, 11, 12, 13, 14] (by kernel_rfl) rfl ?_
            exact x_meet () trivial (by repeat (first | exact SubF.nil | refine SubF.cons rfl ?_)) (by repeat (first | exact SubO.nil | refine SubO.cons rfl ?_)) rfl (Vw.le.refl _)
          ·
            refine h_store 8 tok rfl rfl rfl rfl (by first | exact ⟨trivial, trivial⟩ | (repeat' first | exact trivial | exact rfl | apply And.intro); done | simp [onesP, oneP, lk, Value.oneCell']) (.inr ⟨(by repeat (first | exact SubO.nil | refine SubO.cons rfl ?_)), rfl, (by first | exact Vw.le.refl _ | assumption)⟩) ?_
            refine h_two 6 9 (by kernel_rfl) ?_ ?_
            ·
              refine h_yield 6 rfl rfl rfl rfl (y_val tok rfl) ?_
              refine h_one 9 (by kernel_rfl) ?_
              refine h_yield 9 rfl rfl rfl rfl (y_val tok rfl) ?_
              refine h_one 10 (by kernel_rfl) ?_
              refine h_yield 10 rfl rfl rfl rfl (y_val tok rfl) ?_
              refine h_done [1, 4, 5, 6, 7, 8, 9, 10, 11, 12, 13, 14] (by kernel_rfl) rfl ?_
              exact x_meet () trivial (by repeat (first | exact SubF.nil | refine SubF.cons rfl ?_)) (by repeat (first | exact SubO.nil | refine SubO.cons rfl ?_)) rfl (Vw.le.refl _)
            ·
              refine h_yield 9 rfl rfl rfl rfl (y_val tok rfl) ?_
              refine h_one 6 (by kernel_rfl) ?_
              refine h_yield 6 rfl rfl rfl rfl (y_val tok rfl) ?_
              refine h_one 10 (by kernel_rfl) ?_
              refine h_yield 10 rfl rfl rfl rfl (y_val tok rfl) ?_
              refine h_done [1, 4, 5, 6, 7, 8, 9, 10, 11, 12, 13, 14] (by kernel_rfl) rfl ?_
              exact x_meet () trivial (by repeat (first | exact SubF.nil | refine SubF.cons rfl ?_)) (by repeat (first | exact SubO.nil | refine SubO.cons rfl ?_)) rfl (Vw.le.refl _)
        ·
          refine h_yield 6 rfl rfl rfl rfl (y_val tok rfl) ?_
          refine h_one 4 (by kernel_rfl) ?_
          refine h_yield 4 rfl rfl rfl rfl (y_val tok rfl) ?_
          refine h_one 8 (by kernel_rfl) ?_
          refine h_store 8 tok rfl rfl rfl rfl (by first | exact ⟨trivial, trivial⟩ | (repeat' first | exact trivial | exact rfl | apply And.intro); done | simp [onesP, oneP, lk, Value.oneCell']) (.inr ⟨(by repeat (first | exact SubO.nil | refine SubO.cons rfl ?_)), rfl, (by first | exact Vw.le.refl _ | assumption)⟩) ?_
          refine h_one 9 (by kernel_rfl) ?_
          refine h_yield 9 rfl rfl rfl rfl (y_val tok rfl) ?_
          refine h_one 10 (by kernel_rfl) ?_
          refine h_yield 10 rfl rfl rfl rfl (y_val tok rfl) ?_
          refine h_done [1, 4, 5, 6, 7, 8, 9, 10, 11, 12, 13, 14] (by kernel_rfl) rfl ?_
          exact x_meet () trivial (by repeat (first | exact SubF.nil | refine SubF.cons rfl ?_)) (by repeat (first | exact SubO.nil | refine SubO.cons rfl ?_)) rfl (Vw.le.refl _)
      ·
        refine h_yield 6 rfl rfl rfl rfl (y_val tok rfl) ?_
        refine h_two 4 5 (by kernel_rfl) ?_ ?_
        ·
          refine h_yield 4 rfl rfl rfl rfl (y_val tok rfl) ?_
          refine h_two 5 8 (by kernel_rfl) ?_ ?_
          ·
            refine h_yield 5 rfl rfl rfl rfl (y_val tok rfl) ?_
            refine h_one 8 (by kernel_rfl) ?_
            refine h_store 8 tok rfl rfl rfl rfl (by first | exact ⟨trivial, trivial⟩ | (repeat' first | exact trivial | exact rfl | apply And.intro); done | simp [onesP, oneP, lk, Value.oneCell']) (.inr ⟨(by repeat (first | exact SubO.nil | refine SubO.cons rfl ?_)), rfl, (by first | exact Vw.le.refl _ | assumption)⟩) ?_
            refine h_one 9 (by kernel_rfl) ?_
            refine h_yield 9 rfl rfl rfl rfl (y_val tok rfl) ?_
            refine h_one 10 (by kernel_rfl) ?_
            refine h_yield 10 rfl rfl rfl rfl (y_val tok rfl) ?_
            refine h_done [1, 4, 5, 6, 7, 8, 9, 10, 11, 12, 13, 14] (by kernel_rfl) rfl ?_
            exact x_meet () trivial (by repeat (first | exact SubF.nil | refine SubF.cons rfl ?_)) (by repeat (first | exact SubO.nil | refine SubO.cons rfl ?_)) rfl (Vw.le.refl _)
          ·
            refine h_store 8 tok rfl rfl rfl rfl (by first | exact ⟨trivial, trivial⟩ | (repeat' first | exact trivial | exact rfl | apply And.intro); done | simp [onesP, oneP, lk, Value.oneCell']) (.inr ⟨(by repeat (first | exact SubO.nil | refine SubO.cons rfl ?_)), rfl, (by first | exact Vw.le.refl _ | assumption)⟩) ?_
            refine h_one 5 (by kernel_rfl) ?_
            refine h_yield 5 rfl rfl rfl rfl (y_val tok rfl) ?_
            refine h_one 9 (by kernel_rfl) ?_
            refine h_yield 9 rfl rfl rfl rfl (y_val tok rfl) ?_
            refine h_one 10 (by kernel_rfl) ?_
            refine h_yield 10 rfl rfl rfl rfl (y_val tok rfl) ?_
            refine h_done [1, 4, 5, 6, 7, 8, 9, 10, 11, 12, 13, 14] (by kernel_rfl) rfl ?_
            exact x_meet () trivial (by repeat (first | exact SubF.nil | refine SubF.cons rfl ?_)) (by repeat (first | exact SubO.nil | refine SubO.cons rfl ?_)) rfl (Vw.le.refl _)
        ·
          refine h_yield 5 rfl rfl rfl rfl (y_val tok rfl) ?_
          refine h_one 4 (by kernel_rfl) ?_
          refine h_yield 4 rfl rfl rfl rfl (y_val tok rfl) ?_
          refine h_one 8 (by kernel_rfl) ?_
          refine h_store 8 tok rfl rfl rfl rfl (by first | exact ⟨trivial, trivial⟩ | (repeat' first | exact trivial | exact rfl | apply And.intro); done | simp [onesP, oneP, lk, Value.oneCell']) (.inr ⟨(by repeat (first | exact SubO.nil | refine SubO.cons rfl ?_)), rfl, (by first | exact Vw.le.refl _ | assumption)⟩) ?_
          refine h_one 9 (by kernel_rfl) ?_
          refine h_yield 9 rfl rfl rfl rfl (y_val tok rfl) ?_
          refine h_one 10 (by kernel_rfl) ?_
          refine h_yield 10 rfl rfl rfl rfl (y_val tok rfl) ?_
          refine h_done [1, 4, 5, 6, 7, 8, 9, 10, 11, 12, 13, 14] (by kernel_rfl) rfl ?_
          exact x_meet () trivial (by repeat (first | exact SubF.nil | refine SubF.cons rfl ?_)) (by repeat (first | exact SubO.nil | refine SubO.cons rfl ?_)) rfl (Vw.le.refl _)
  rintro ⟨⟩ -
  refine x_then ?_
  refine c_seq ?_
  refine c_seq ?_
  refine c_region ?_
  refine o_yield rfl rfl rfl (y_val tok rfl) ?_
  refine o_yield rfl rfl rfl (y_val tok rfl) ?_
  refine o_yield rfl rfl rfl (y_val tok rfl) ?_
  refine o_yield rfl rfl rfl (y_val tok rfl) ?_
  refine o_yield rfl rfl rfl (y_val tok rfl) ?_
  refine o_yield rfl rfl rfl (y_val tok rfl) ?_
  refine o_yield rfl rfl rfl (y_val tok rfl) ?_
  refine o_yield rfl rfl rfl (y_val tok rfl) ?_
  refine o_yield rfl rfl rfl (y_val tok rfl) ?_
  refine o_yield rfl rfl rfl (y_val tok rfl) ?_
  refine o_yield rfl rfl rfl (y_val tok rfl) ?_
  refine o_yield rfl rfl rfl (y_val tok rfl) ?_
  refine o_yield rfl rfl rfl (y_val tok rfl) ?_
  refine o_yield rfl rfl rfl (y_val tok rfl) ?_
  refine o_yield rfl rfl rfl (y_val tok rfl) ?_
  refine o_yield rfl rfl rfl (y_val tok rfl) ?_
  refine o_yield rfl rfl rfl (y_val tok rfl) ?_
  refine o_yield rfl rfl rfl (y_val tok rfl) ?_
  refine o_yield rfl rfl rfl (y_val tok rfl) ?_
  refine o_yield rfl rfl rfl (y_val tok rfl) ?_
  refine o_yield rfl rfl rfl (y_val tok rfl) ?_
  refine o_yield rfl rfl rfl (y_val tok rfl) ?_
  refine o_yield rfl rfl rfl (y_val tok rfl) ?_
  refine o_yield rfl rfl rfl (y_val tok rfl) ?_
  refine o_yield rfl rfl rfl (y_val tok rfl) ?_
  refine o_yield rfl rfl rfl (y_val tok rfl) ?_
  refine o_call (.a (.v _)) rfl rfl fnok48 rfl rfl rfl (fun hg E w1 hm => by exact rover_c _ _ _ _ _ _ _ _ _) ?_
  refine o_yield rfl rfl rfl (y_val tok rfl) ?_
  refine o_yield rfl rfl rfl (y_val tok rfl) ?_
  refine o_end [1, 5, 8, 11, 83] rfl ?_
  refine x_then ?_
  refine c_cond rfl (fun h => ?_) (fun h => ?_)
  ·
    refine c_seq ?_
    refine c_region ?_
    refine o_yield rfl rfl rfl (y_val tok rfl) ?_
    refine o_end [0] rfl ?_
    refine x_then ?_
    refine c_ret ?_
    refine x_then_ret ?_
    refine b_ret tok rfl ?_
    exact absurd h (by decide)
  ·
    refine c_skip ?_
    refine x_then ?_
    refine c_seq ?_
    refine c_draw mixed (by kernel_rfl) ?_
    refine d_yield rfl rfl rfl (y_val tok rfl) rfl ?_
    refine d_yield rfl rfl rfl (y_val tok rfl) rfl ?_
    refine d_yield rfl rfl rfl (y_val tok rfl) rfl ?_
    refine d_yield rfl rfl rfl (y_val tok rfl) rfl ?_
    refine d_yield rfl rfl rfl (y_val tok rfl) rfl ?_
    refine d_yield rfl rfl rfl (y_val tok rfl) rfl ?_
    refine d_call (.a (.v _)) rfl rfl fnok46 rfl rfl rfl (fun hg E w1 hm => by exact geo21_c _) ?_
    refine d_call (.a (.v _)) rfl rfl fnok18 rfl rfl rfl (fun hg E w1 hm => by exact refHead_c geo21 geo21_ok 0 _) ?_
    refine d_yield rfl rfl rfl (y_val tok rfl) rfl ?_
    refine d_yield rfl rfl rfl (y_val tok rfl) rfl ?_
    refine d_yield rfl rfl rfl (y_val tok rfl) rfl ?_
    refine d_yield rfl rfl rfl (y_val tok rfl) rfl ?_
    refine d_yield rfl rfl rfl (y_val tok rfl) rfl ?_
    refine d_yield rfl rfl rfl (y_val tok rfl) rfl ?_
    refine d_yield rfl rfl rfl (y_val tok rfl) rfl ?_
    refine d_yield rfl rfl rfl (y_val tok rfl) rfl ?_
    refine d_yield rfl rfl rfl (y_val tok rfl) rfl ?_
    refine d_yield rfl rfl rfl (y_val tok rfl) rfl ?_
    refine d_call (.a (.v _)) rfl rfl fnok46 rfl rfl rfl (fun hg E w1 hm => by exact geo21_c _) ?_
    refine d_call (.a (.v _)) rfl rfl fnok29 rfl rfl rfl (fun hg E w1 hm => by exact refJour_c geo21 geo21_ok 0 7 _) ?_
    refine d_yield rfl rfl rfl (y_val tok rfl) rfl ?_
    refine d_yield rfl rfl rfl (y_val tok rfl) rfl ?_
    refine d_yield rfl rfl rfl (y_val tok rfl) rfl ?_
    refine d_yield rfl rfl rfl (y_val tok rfl) rfl ?_
    refine d_yield rfl rfl rfl (y_val tok rfl) rfl ?_
    refine d_yield rfl rfl rfl (y_val tok rfl) rfl ?_
    refine d_yield rfl rfl rfl (y_val tok rfl) rfl ?_
    refine d_yield rfl rfl rfl (y_val tok rfl) rfl ?_
    refine d_yield rfl rfl rfl (y_val tok rfl) rfl ?_
    refine d_yield rfl rfl rfl (y_val tok rfl) rfl ?_
    refine d_yield rfl rfl rfl (y_val tok rfl) rfl ?_
    refine d_yield rfl rfl rfl (y_val tok rfl) rfl ?_
    refine d_yield rfl rfl rfl (y_val tok rfl) rfl ?_
    refine d_yield rfl rfl rfl (y_val tok rfl) rfl ?_
    refine d_call (.a (.v _)) rfl rfl fnok46 rfl rfl rfl (fun hg E w1 hm => by exact geo21_c _) ?_
    refine d_call (.a (.v _)) rfl rfl fnok49 rfl rfl rfl (fun hg E w1 hm => by exact most21_c _) ?_
    refine d_yield rfl rfl rfl (y_val tok rfl) rfl ?_
    refine d_yield rfl rfl rfl (y_val tok rfl) rfl ?_
    refine d_yield rfl rfl rfl (y_val tok rfl) rfl ?_
    refine d_end [0] rfl ?_
    refine x_then ?_
    refine c_ret ?_
    refine b_ret tok rfl ?_
    intro E w' hm _
    refine ⟨?_, hm.below (hle1)⟩
    have g1 : headV geo21 0 = 11 := by decide
    have g2 : jourV geo21 0 (IntKind.i64.wrap (7 + (([] : List Record).length : Int))) = 15 := by decide
    have g3 : jourV geo21 0 7 = 15 := by decide
    rw [g1, g2, g3]
    simp [readK, readN]
    rfl
end Go.Proofs.Ytikdaehmaaogdaa

/- The law: a header that is none is told, and a record of another key, or another lsn, ends the reading. -/
set_option linter.unusedVariables false
set_option linter.unusedSimpArgs false
set_option maxRecDepth 100000
namespace Go.Proofs.Ytikdaehmaaogdaa
open Go Go.Eng Go.RowKit

theorem eqRec0_c (w : World) : Calls Try.prog 52 #[.slice none 0 0, .slice none 0 0] w fun e w' => e = .returned (.bool true) ∧ Below w.heap.size w w' := by
  have hs := slNil (vw w) Record.cells 6 0 (fun _ => rfl)
  refine enter (E := E0) (O := []) (nl := 0) (V := vw w) [.a (.v (.slice none 0 0)), .a (.v (.slice none 0 0))] Try.func52 rfl rfl (mem0 E0 0 w) rfl rfl ?_
  refine c_seq ?_
  refine c_region ?_
  refine o_yield rfl rfl rfl (y_val tok rfl) ?_
  refine o_end [0, 1] rfl ?_
  refine x_then ?_
  refine c_seq ?_
  refine c_seq ?_
  refine c_region ?_
  refine o_yield rfl rfl rfl (y_val tok rfl) ?_
  refine o_yield rfl rfl rfl (y_len tok rfl (fun hg => hs.sl)) ?_
  refine o_yield rfl rfl rfl (y_val tok rfl) ?_
  refine o_yield rfl rfl rfl (y_len tok rfl (fun hg => hs.sl)) ?_
  refine o_yield rfl rfl rfl (y_val tok rfl) ?_
  refine o_end [0, 1, 10] rfl ?_
  refine x_then ?_
  refine c_cond rfl (fun h => ?_) (fun h => ?_)
  ·
    refine c_seq ?_
    refine c_region ?_
    refine o_yield rfl rfl rfl (y_val tok rfl) ?_
    refine o_end [4] rfl ?_
    refine x_then ?_
    refine c_ret ?_
    refine x_then_ret ?_
    refine b_ret tok rfl ?_
    exact absurd h (by decide)
  ·
    refine c_skip ?_
    refine x_then ?_
    refine c_seq ?_
    refine c_seq ?_
    refine c_region ?_
    refine o_yield rfl rfl rfl (y_val tok rfl) ?_
    refine o_yield rfl rfl rfl (y_len tok rfl (fun hg => hs.sl)) ?_
    refine o_yield rfl rfl rfl (y_val tok rfl) ?_
    refine o_end [0, 1, 12, 13] rfl ?_
    refine x_then ?_
    refine c_block ?_
    refine c_loopK [0, 1, 12] [] rfl rfl (σ := Nat) (fun k => [(13, .a (.v (I k)))]) (fun k => []) (fun k => k = 0) (fun k => 0) (0) (rfl) (by repeat (first | exact SubF.nil | refine SubF.cons rfl ?_)) (by repeat (first | exact SubO.nil | refine SubO.cons rfl ?_)) rfl ?_
    rintro k rfl
    refine c_seq ?_
    refine c_region ?_
    refine o_yield rfl rfl rfl (y_val tok rfl) ?_
    refine o_end [0, 1, 12, 13, 14] rfl ?_
    refine x_then ?_
    refine c_seq ?_
    refine c_cond rfl (fun h => ?_) (fun h => ?_)
    ·
      simp only [Bool.and_eq_true, Bool.or_eq_true, Bool.not_eq_true', Bool.or_eq_false_iff, Bool.and_eq_false_iff, decide_eq_true_eq, decide_eq_false_iff_not, beq_iff_eq, bne_iff_ne, Bool.not_eq_false', beq_eq_false_iff_ne, bne_eq_false_iff_eq, ne_eq, Decidable.not_not, Int.not_lt, Int.not_le] at h
      refine c_skip ?_
      refine x_then ?_
      refine c_seq ?_
      refine c_block ?_
      refine c_seq ?_
      refine c_region ?_
      refine o_yield rfl rfl rfl (y_val tok rfl) ?_
      refine o_yield rfl rfl rfl (y_val tok rfl) ?_
      refine o_end [0, 1, 5, 12, 13] rfl ?_
      refine x_then ?_
      refine c_seq ?_
      refine c_draw mixed (by kernel_rfl) ?_
      refine d_yield rfl rfl rfl (y_val tok rfl) rfl ?_
      refine d_yield rfl rfl rfl (y_val tok rfl) rfl ?_
      simp at h
    ·
      simp only [Bool.and_eq_true, Bool.or_eq_true, Bool.not_eq_true', Bool.or_eq_false_iff, Bool.and_eq_false_iff, decide_eq_true_eq, decide_eq_false_iff_not, beq_iff_eq, bne_iff_ne, Bool.not_eq_false', beq_eq_false_iff_ne, bne_eq_false_iff_eq, ne_eq, Decidable.not_not, Int.not_lt, Int.not_le] at h
      refine c_exit ?_
      refine x_then_exit ?_
      refine x_then_exit ?_
      refine x_block_hit ?_
      refine x_then ?_
      refine c_seq ?_
      refine c_region ?_
      refine o_yield rfl rfl rfl (y_val tok rfl) ?_
      refine o_end [4] rfl ?_
      refine x_then ?_
      refine c_ret ?_
      refine b_ret tok rfl ?_
      intro E w' hm _
      refine ⟨?_, hm.below (Vw.le.refl _)⟩
      rfl

theorem eqCell0_c (w : World) : Calls Try.prog 53 #[.slice none 0 0, .slice none 0 0] w fun e w' => e = .returned (.bool true) ∧ Below w.heap.size w w' := by
  have hs := slNil (vw w) Cell.cells 2 0 (fun _ => rfl)
  refine enter (E := E0) (O := []) (nl := 0) (V := vw w) [.a (.v (.slice none 0 0)), .a (.v (.slice none 0 0))] Try.func53 rfl rfl (mem0 E0 0 w) rfl rfl ?_
  refine c_seq ?_
  refine c_region ?_
  refine o_yield rfl rfl rfl (y_val tok rfl) ?_
  refine o_end [0, 1] rfl ?_
  refine x_then ?_
  refine c_seq ?_
  refine c_seq ?_
  refine c_region ?_
  refine o_yield rfl rfl rfl (y_val tok rfl) ?_
  refine o_yield rfl rfl rfl (y_len tok rfl (fun hg => hs.sl)) ?_
  refine o_yield rfl rfl rfl (y_val tok rfl) ?_
  refine o_yield rfl rfl rfl (y_len tok rfl (fun hg => hs.sl)) ?_
  refine o_yield rfl rfl rfl (y_val tok rfl) ?_
  refine o_end [0, 1, 10] rfl ?_
  refine x_then ?_
  refine c_cond rfl (fun h => ?_) (fun h => ?_)
  ·
    refine c_seq ?_
    refine c_region ?_
    refine o_yield rfl rfl rfl (y_val tok rfl) ?_
    refine o_end [4] rfl ?_
    refine x_then ?_
    refine c_ret ?_
    refine x_then_ret ?_
    refine b_ret tok rfl ?_
    exact absurd h (by decide)
  ·
    refine c_skip ?_
    refine x_then ?_
    refine c_seq ?_
    refine c_seq ?_
    refine c_region ?_
    refine o_yield rfl rfl rfl (y_val tok rfl) ?_
    refine o_yield rfl rfl rfl (y_len tok rfl (fun hg => hs.sl)) ?_
    refine o_yield rfl rfl rfl (y_val tok rfl) ?_
    refine o_end [0, 1, 12, 13] rfl ?_
    refine x_then ?_
    refine c_block ?_
    refine c_loopK [0, 1, 12] [] rfl rfl (σ := Nat) (fun k => [(13, .a (.v (I k)))]) (fun k => []) (fun k => k = 0) (fun k => 0) (0) (rfl) (by repeat (first | exact SubF.nil | refine SubF.cons rfl ?_)) (by repeat (first | exact SubO.nil | refine SubO.cons rfl ?_)) rfl ?_
    rintro k rfl
    refine c_seq ?_
    refine c_region ?_
    refine o_yield rfl rfl rfl (y_val tok rfl) ?_
    refine o_end [0, 1, 12, 13, 14] rfl ?_
    refine x_then ?_
    refine c_seq ?_
    refine c_cond rfl (fun h => ?_) (fun h => ?_)
    ·
      simp only [Bool.and_eq_true, Bool.or_eq_true, Bool.not_eq_true', Bool.or_eq_false_iff, Bool.and_eq_false_iff, decide_eq_true_eq, decide_eq_false_iff_not, beq_iff_eq, bne_iff_ne, Bool.not_eq_false', beq_eq_false_iff_ne, bne_eq_false_iff_eq, ne_eq, Decidable.not_not, Int.not_lt, Int.not_le] at h
      refine c_skip ?_
      refine x_then ?_
      refine c_seq ?_
      refine c_block ?_
      refine c_seq ?_
      refine c_region ?_
      refine o_yield rfl rfl rfl (y_val tok rfl) ?_
      refine o_yield rfl rfl rfl (y_val tok rfl) ?_
      refine o_end [0, 1, 5, 12, 13] rfl ?_
      refine x_then ?_
      refine c_seq ?_
      refine c_draw mixed (by kernel_rfl) ?_
      refine d_yield rfl rfl rfl (y_val tok rfl) rfl ?_
      refine d_yield rfl rfl rfl (y_val tok rfl) rfl ?_
      simp at h
    ·
      simp only [Bool.and_eq_true, Bool.or_eq_true, Bool.not_eq_true', Bool.or_eq_false_iff, Bool.and_eq_false_iff, decide_eq_true_eq, decide_eq_false_iff_not, beq_iff_eq, bne_iff_ne, Bool.not_eq_false', beq_eq_false_iff_ne, bne_eq_false_iff_eq, ne_eq, Decidable.not_not, Int.not_lt, Int.not_le] at h
      refine c_exit ?_
      refine x_then_exit ?_
      refine x_then_exit ?_
      refine x_block_hit ?_
      refine x_then ?_
      refine c_seq ?_
      refine c_region ?_
      refine o_yield rfl rfl rfl (y_val tok rfl) ?_
      refine o_end [4] rfl ?_
      refine x_then ?_
      refine c_ret ?_
      refine b_ret tok rfl ?_
      intro E w' hm _
      refine ⟨?_, hm.below (Vw.le.refl _)⟩
      rfl

theorem rpSame0_c (slot key : Int) (w : World) : Calls Try.prog 11 #[rpV slot key 0 0 (.slice none 0 0) (.slice none 0 0) 0 0, rpV slot key 0 0 (.slice none 0 0) (.slice none 0 0) 0 0] w fun e w' => e = .returned (.bool true) ∧ Below w.heap.size w w' := by
  refine enter (E := E0) (O := []) (nl := 0) (V := vw w) [.a (.v (rpV slot key 0 0 (.slice none 0 0) (.slice none 0 0) 0 0)), .a (.v (rpV slot key 0 0 (.slice none 0 0) (.slice none 0 0) 0 0))] Try.func11 rfl rfl (mem0 E0 0 w) rfl rfl ?_
  refine c_seq ?_
  refine c_region ?_
  refine o_new tok rfl rfl rfl rfl ?_
  refine o_new tok rfl rfl rfl rfl ?_
  refine o_yield rfl rfl rfl (y_val tok rfl) ?_
  refine o_end [2, 3] rfl ?_
  refine x_then ?_
  refine c_seq ?_
  refine c_region ?_
  refine o_yield rfl rfl rfl (y_val tok rfl) ?_
  refine o_yield rfl rfl rfl (y_val tok rfl) ?_
  refine o_yield rfl rfl rfl (y_val tok rfl) ?_
  refine o_yield rfl rfl rfl (y_val tok rfl) ?_
  refine o_yield rfl rfl rfl (y_val tok rfl) ?_
  refine o_yield rfl rfl rfl (y_val tok rfl) ?_
  refine o_yield rfl rfl rfl (y_val tok rfl) ?_
  refine o_yield rfl rfl rfl (y_val tok rfl) ?_
  refine o_yield rfl rfl rfl (y_val tok rfl) ?_
  refine o_yield rfl rfl rfl (y_val tok rfl) ?_
  refine o_yield rfl rfl rfl (y_val tok rfl) ?_
  refine o_yield rfl rfl rfl (y_val tok rfl) ?_
  refine o_yield rfl rfl rfl (y_val tok rfl) ?_
  refine o_yield rfl rfl rfl (y_val tok rfl) ?_
  refine o_yield rfl rfl rfl (y_val tok rfl) ?_
  refine o_yield rfl rfl rfl (y_val tok rfl) ?_
  refine o_yield rfl rfl rfl (y_val tok rfl) ?_
  refine o_yield rfl rfl rfl (y_val tok rfl) ?_
  refine o_yield rfl rfl rfl (y_val tok rfl) ?_
  refine o_yield rfl rfl rfl (y_val tok rfl) ?_
  refine o_yield rfl rfl rfl (y_val tok rfl) ?_
  refine o_yield rfl rfl rfl (y_val tok rfl) ?_
  refine o_yield rfl rfl rfl (y_val tok rfl) ?_
  refine o_yield rfl rfl rfl (y_val tok rfl) ?_
  refine o_yield rfl rfl rfl (y_val tok rfl) ?_
  refine o_yield rfl rfl rfl (y_val tok rfl) ?_
  refine o_yield rfl rfl rfl (y_val tok rfl) ?_
  refine o_yield rfl rfl rfl (y_val tok rfl) ?_
  refine o_yield rfl rfl rfl (y_val tok rfl) ?_
  refine o_yield rfl rfl rfl (y_val tok rfl) ?_
  refine o_yield rfl rfl rfl (y_val tok rfl) ?_
  refine o_yield rfl rfl rfl (y_val tok rfl) ?_
  refine o_yield rfl rfl rfl (y_val tok rfl) ?_
  refine o_yield rfl rfl rfl (y_val tok rfl) ?_
  refine o_yield rfl rfl rfl (y_val tok rfl) ?_
  refine o_yield rfl rfl rfl (y_val tok rfl) ?_
  refine o_yield rfl rfl rfl (y_val tok rfl) ?_
  refine o_yield rfl rfl rfl (y_val tok rfl) ?_
  refine o_yield rfl rfl rfl (y_val tok rfl) ?_
  refine o_yield rfl rfl rfl (y_val tok rfl) ?_
  refine o_yield rfl rfl rfl (y_val tok rfl) ?_
  refine o_yield rfl rfl rfl (y_val tok rfl) ?_
  refine o_yield rfl rfl rfl (y_val tok rfl) ?_
  refine o_yield rfl rfl rfl (y_val tok rfl) ?_
  refine o_yield rfl rfl rfl (y_val tok rfl) ?_
  refine o_call (.a (.v _)) rfl rfl fnok52 rfl rfl rfl (fun hg E w1 hm => by exact eqRec0_c _) ?_
  refine o_yield rfl rfl rfl (y_val tok rfl) ?_
  refine o_yield rfl rfl rfl (y_val tok rfl) ?_
  refine o_yield rfl rfl rfl (y_val tok rfl) ?_
  refine o_yield rfl rfl rfl (y_val tok rfl) ?_
  refine o_yield rfl rfl rfl (y_val tok rfl) ?_
  refine o_yield rfl rfl rfl (y_val tok rfl) ?_
  refine o_call (.a (.v _)) rfl rfl fnok53 rfl rfl rfl (fun hg E w1 hm => by exact eqCell0_c _) ?_
  refine o_yield rfl rfl rfl (y_val tok rfl) ?_
  refine o_yield rfl rfl rfl (y_val tok rfl) ?_
  refine o_end [4] rfl ?_
  refine x_then ?_
  refine c_ret ?_
  refine b_ret tok rfl ?_
  intro E w' hm _
  refine ⟨?_, hm.below (Vw.le.refl _)⟩
  simp
  rfl

theorem whole_one (r : Record) : whole [r] = 0 := by
  rw [whole, wholeFrom]
  split
  · rfl
  · rename_i h
    rw [if_pos (by simpa using h)]

theorem rowL_whole (s : ByteArray) (key lsn : Int) : whole (rowL [] s key lsn) = 0 := by
  unfold rowL
  split
  · exact whole_one _
  · rfl

theorem rp_head_geo {g : Geo} {slot : Int} (h : 0 ≤ headV g slot) : geoB g = true := by
  unfold headV at h
  split at h
  · rename_i h1; exact h1.1
  · omega

theorem replayBad_law (w : World) {v0 v1 v2 v3 v4 v5 : Value} (R0 : ∃ g : Geo, v0 = g.val ∧ g.Ok) (R1 : ∃ n : Int, v1 = I n ∧ R64 n) (R2 : ∃ n : Int, v2 = I n ∧ R64 n) (R3 : ∃ n : Int, v3 = I n ∧ R64 n) (R4 : ∃ x : Record, v4 = x.val ∧ x.Ok) (R5 : ∃ s : ByteArray, v5 = .string s ∧ s.size ≤ maxLen) :
    Calls Try.prog 3 #[v0, v1, v2, v3, v4, v5] w fun e w' => e = .returned (.bool true) ∧ Below w.heap.size w w' := by
  obtain ⟨g, rfl, ok⟩ := R0
  obtain ⟨slot, rfl, _⟩ := R1
  obtain ⟨key, rfl, _⟩ := R2
  obtain ⟨tail, rfl, _⟩ := R3
  obtain ⟨x, rfl, okx⟩ := R4
  obtain ⟨s, rfl, hsz⟩ := R5
  have hxz := okx.text
  simp only [maxLen] at hsz hxz
  by_cases hB : 0 ≤ headV g slot ∧ keyB key = true ∧ 0 ≤ seatOf key
  rotate_left
  · have hb : ∀ w, Calls Try.prog 7 #[g.val, I slot, I key] w fun e w' => e = .returned (.tuple #[rpV 0 0 0 0 (.slice none 0 0) (.slice none 0 0) 0 0, I 2]) ∧ Below w.heap.size w w' := fun w => (rbegin_c g ok slot key w).mono (by
      rintro e w' ⟨h, ⟨h1, h2, h3, _⟩ | ⟨_, he⟩⟩
      · exact absurd ⟨h1, h2, h3⟩ hB
      · exact ⟨he, h⟩)
    refine enter (E := E0) (O := []) (nl := 0) (V := vw w) [.a (.v g.val), .a (.v (I slot)), .a (.v (I key)), .a (.v (I tail)), .a (.v x.val), .a (.v (S s))] Try.func3 rfl rfl (mem0 E0 0 w) rfl rfl ?_
    refine c_seq ?_
    refine c_region ?_
    refine o_new tok rfl rfl rfl rfl ?_
    refine o_new tok rfl rfl rfl rfl ?_
    refine o_yield rfl rfl rfl (y_val tok rfl) ?_
    refine o_end [1, 2, 3, 5, 6, 10] rfl ?_
    refine x_then ?_
    refine c_seq ?_
    refine c_region ?_
    refine o_yield rfl rfl rfl (y_val tok rfl) ?_
    refine o_yield rfl rfl rfl (y_val tok rfl) ?_
    refine o_yield rfl rfl rfl (y_val tok rfl) ?_
    refine o_call (.a (.v _)) rfl rfl fnok7 rfl rfl rfl (fun hg E w1 hm => by exact hb _) ?_
    refine o_yield rfl rfl rfl (y_val tok rfl) ?_
    refine o_yield rfl rfl rfl (y_val tok rfl) ?_
    refine o_yield rfl rfl rfl (y_val tok rfl) ?_
    refine o_new tok rfl rfl rfl rfl ?_
    refine o_store tok rfl rfl rfl (by first | exact ⟨trivial, trivial⟩ | (repeat' first | exact trivial | exact rfl | apply And.intro); done | simp [onesP, oneP, lk, Value.oneCell']) ?_
    refine o_yield rfl rfl rfl (y_val tok rfl) ?_
    refine o_end [2, 3, 5, 6, 10, 13, 14] rfl ?_
    refine x_then ?_
    refine c_seq ?_
    refine c_seq ?_
    refine c_region ?_
    refine o_yield rfl rfl rfl (y_val tok rfl) ?_
    refine o_yield rfl rfl rfl (y_val tok rfl) ?_
    refine o_yield rfl rfl rfl (y_val tok rfl) ?_
    refine o_yield rfl rfl rfl (y_val tok rfl) ?_
    refine o_yield rfl rfl rfl (y_val tok rfl) ?_
    refine o_yield rfl rfl rfl (y_val tok rfl) ?_
    refine o_yield rfl rfl rfl (y_val tok rfl) ?_
    refine o_yield rfl rfl rfl (y_val tok rfl) ?_
    refine o_yield rfl rfl rfl (y_val tok rfl) ?_
    refine o_yield rfl rfl rfl (y_val tok rfl) ?_
    refine o_yield rfl rfl rfl (y_val tok rfl) ?_
    refine o_yield rfl rfl rfl (y_val tok rfl) ?_
    refine o_yield rfl rfl rfl (y_val tok rfl) ?_
    refine o_yield rfl rfl rfl (y_val tok rfl) ?_
    refine o_yield rfl rfl rfl (y_val tok rfl) ?_
    refine o_yield rfl rfl rfl (y_val tok rfl) ?_
    refine o_yield rfl rfl rfl (y_val tok rfl) ?_
    refine o_yield rfl rfl rfl (y_val tok rfl) ?_
    refine o_yield rfl rfl rfl (y_val tok rfl) ?_
    refine o_yield rfl rfl rfl (y_val tok rfl) ?_
    refine o_yield rfl rfl rfl (y_val tok rfl) ?_
    refine o_end [2, 3, 5, 6, 10, 13, 51] rfl ?_
    refine x_then ?_
    refine c_cond rfl (fun h => ?_) (fun h => ?_)
    ·
      refine c_seq ?_
      refine c_region ?_
      refine o_call (.a (.v _)) rfl rfl fnok8 rfl rfl rfl (fun hg E w1 hm => by exact wakes21_c _) ?_
      refine o_yield rfl rfl rfl (y_val tok rfl) ?_
      refine o_end [12] rfl ?_
      refine x_then ?_
      refine c_ret ?_
      refine x_then_ret ?_
      refine b_ret tok rfl ?_
      intro E w' hm _
      refine ⟨?_, hm.below (Vw.le.refl _)⟩
      rfl
    ·
      simp at h
  have hb : ∀ w, Calls Try.prog 7 #[g.val, I slot, I key] w fun e w' => e = .returned (.tuple #[rpV slot key 0 0 (.slice none 0 0) (.slice none 0 0) 0 0, I 0]) ∧ Below w.heap.size w w' := fun w => (rbegin_c g ok slot key w).mono (by
    rintro e w' ⟨h, ⟨_, _, _, he⟩ | ⟨hn, _⟩⟩
    · exact ⟨he, h⟩
    · exact absurd hB hn)
  have hG := rp_head_geo hB.1
  refine enter (E := E0) (O := []) (nl := 0) (V := vw w) [.a (.v g.val), .a (.v (I slot)), .a (.v (I key)), .a (.v (I tail)), .a (.v x.val), .a (.v (S s))] Try.func3 rfl rfl (mem0 E0 0 w) rfl rfl ?_
  refine c_seq ?_
  refine c_region ?_
  refine o_new tok rfl rfl rfl rfl ?_
  refine o_new tok rfl rfl rfl rfl ?_
  refine o_yield rfl rfl rfl (y_val tok rfl) ?_
  refine o_end [1, 2, 3, 5, 6, 10] rfl ?_
  refine x_then ?_
  refine c_seq ?_
  refine c_region ?_
  refine o_yield rfl rfl rfl (y_val tok rfl) ?_
  refine o_yield rfl rfl rfl (y_val tok rfl) ?_
  refine o_yield rfl rfl rfl (y_val tok rfl) ?_
  refine o_call (.a (.v _)) rfl rfl fnok7 rfl rfl rfl (fun hg E w1 hm => by exact hb _) ?_
  refine o_yield rfl rfl rfl (y_val tok rfl) ?_
  refine o_yield rfl rfl rfl (y_val tok rfl) ?_
  refine o_yield rfl rfl rfl (y_val tok rfl) ?_
  refine o_new tok rfl rfl rfl rfl ?_
  refine o_store tok rfl rfl rfl (by first | exact ⟨trivial, trivial⟩ | (repeat' first | exact trivial | exact rfl | apply And.intro); done | simp [onesP, oneP, lk, Value.oneCell']) ?_
  refine o_yield rfl rfl rfl (y_val tok rfl) ?_
  refine o_end [2, 3, 5, 6, 10, 13, 14] rfl ?_
  refine x_then ?_
  refine c_seq ?_
  refine c_seq ?_
  refine c_region ?_
  refine o_yield rfl rfl rfl (y_val tok rfl) ?_
  refine o_yield rfl rfl rfl (y_val tok rfl) ?_
  refine o_yield rfl rfl rfl (y_val tok rfl) ?_
  refine o_yield rfl rfl rfl (y_val tok rfl) ?_
  refine o_yield rfl rfl rfl (y_val tok rfl) ?_
  refine o_yield rfl rfl rfl (y_val tok rfl) ?_
  refine o_yield rfl rfl rfl (y_val tok rfl) ?_
  refine o_yield rfl rfl rfl (y_val tok rfl) ?_
  refine o_yield rfl rfl rfl (y_val tok rfl) ?_
  refine o_yield rfl rfl rfl (y_val tok rfl) ?_
  refine o_yield rfl rfl rfl (y_val tok rfl) ?_
  refine o_yield rfl rfl rfl (y_val tok rfl) ?_
  refine o_yield rfl rfl rfl (y_val tok rfl) ?_
  refine o_yield rfl rfl rfl (y_val tok rfl) ?_
  refine o_yield rfl rfl rfl (y_val tok rfl) ?_
  refine o_yield rfl rfl rfl (y_val tok rfl) ?_
  refine o_yield rfl rfl rfl (y_val tok rfl) ?_
  refine o_yield rfl rfl rfl (y_val tok rfl) ?_
  refine o_yield rfl rfl rfl (y_val tok rfl) ?_
  refine o_yield rfl rfl rfl (y_val tok rfl) ?_
  refine o_yield rfl rfl rfl (y_val tok rfl) ?_
  refine o_end [2, 3, 5, 6, 10, 13, 51] rfl ?_
  refine x_then ?_
  refine c_cond rfl (fun h => ?_) (fun h => ?_)
  ·
    refine c_seq ?_
    refine c_region ?_
    refine o_call (.a (.v _)) rfl rfl fnok8 rfl rfl rfl (fun hg E w1 hm => by exact wakes21_c _) ?_
    refine o_yield rfl rfl rfl (y_val tok rfl) ?_
    refine o_end [12] rfl ?_
    refine x_then ?_
    refine c_ret ?_
    refine x_then_ret ?_
    refine b_ret tok rfl ?_
    intro E w' hm _
    refine ⟨?_, hm.below (Vw.le.refl _)⟩
    rfl
  ·
    have hh : s.size ≤ 600 ∧ x.text.size ≤ 600 ∧ 0 ≤ tail ∧ tail ≤ 1073741824 := by
      simp at h
      omega
    clear h
    obtain ⟨hs1, hx1, ht0, ht1⟩ := hh
    have hfit : fitsB tail 6 = true := by rw [fits6, decide_eq_true ht0, decide_eq_true (by omega)]; rfl
    obtain ⟨sv, hsv, htl, hsvz⟩ := headT hfit
    have hhc := fun w => refHeadS_c tail w
    rw [hsv] at hhc
    have htv : tailV sv = tail ∧ tailE sv = 0 := by rw [tailV, tailE, htl]; exact ⟨rfl, rfl⟩
    have htk : ∀ w, Calls Try.prog 10 #[g.val, rpV slot key 0 0 (.slice none 0 0) (.slice none 0 0) 0 0, S sv] w fun e w' => e = .returned (.tuple #[rpV slot key 1 tail (.slice none 0 0) (.slice none 0 0) 0 0, .bool false, I 0]) ∧ Below w.heap.size w w' := fun w => (rpTake0_c g ok slot key 0 none none 0 0 0 0 0 0 sv hsvz w).mono (by
      rintro e w' ⟨h, ⟨_, he⟩ | ⟨hn, _⟩⟩
      · exact ⟨by rw [he, htv.1], h⟩
      · exact absurd htv.2 hn)
    refine c_skip ?_
    refine x_then ?_
    refine c_seq ?_
    refine c_region ?_
    refine o_yield rfl rfl rfl (y_val tok rfl) ?_
    refine o_call (.a (.v _)) rfl rfl fnok9 rfl rfl rfl (fun hg E w1 hm => by exact rstail_c s (by simp only [maxLen]; omega) _) ?_
    refine o_yield rfl rfl rfl (y_val tok rfl) ?_
    refine o_yield rfl rfl rfl (y_val tok rfl) ?_
    refine o_yield rfl rfl rfl (y_val tok rfl) ?_
    refine o_yield rfl rfl rfl (y_val tok rfl) ?_
    refine o_yield rfl rfl rfl (y_val tok rfl) ?_
    refine o_end [2, 3, 5, 6, 10, 13, 16] rfl ?_
    refine x_then ?_
    refine c_seq ?_
    refine c_region ?_
    refine o_yield rfl rfl rfl (y_val tok rfl) ?_
    refine o_yield rfl rfl rfl (y_val tok rfl) ?_
    refine o_yield rfl rfl rfl (y_val tok rfl) ?_
    obtain ⟨tv, te, hte, hor, hov⟩ : ∃ tv te, te = tailE s ∧ (te = 0 ∨ te = 50 ∧ tv = 0) ∧ ∀ w, Calls Try.prog 10 #[g.val, rpV slot key 0 0 (.slice none 0 0) (.slice none 0 0) 0 0, S s] w fun e w' => e = .returned (.tuple #[rpV slot key (if te = 0 then 1 else 0) tv (.slice none 0 0) (.slice none 0 0) 0 0, .bool false, I te]) ∧ Below w.heap.size w w' := by
      by_cases hE : tailE s = 0
      · refine ⟨tailV s, 0, hE.symm, .inl rfl, fun w => (rpTake0_c g ok slot key 0 none none 0 0 0 0 0 0 s (by simp only [maxLen]; omega) w).mono ?_⟩
        rintro e w' ⟨h, ⟨_, he⟩ | ⟨hn, _⟩⟩
        · exact ⟨he, h⟩
        · exact absurd hE hn
      · refine ⟨0, tailE s, rfl, .inr ⟨by rw [tailE] at hE ⊢; split <;> simp_all, rfl⟩, fun w => (rpTake0_c g ok slot key 0 none none 0 0 0 0 0 0 s (by simp only [maxLen]; omega) w).mono ?_⟩
        rintro e w' ⟨h, ⟨hn, _⟩ | ⟨_, he⟩⟩
        · exact absurd hn hE
        · exact ⟨by rw [he, if_neg hE], h⟩
    refine o_call (.a (.v _)) rfl rfl fnok10 rfl rfl rfl (fun hg E w1 hm => by exact hov _) ?_
    refine o_yield rfl rfl rfl (y_val tok rfl) ?_
    refine o_yield rfl rfl rfl (y_val tok rfl) ?_
    refine o_yield rfl rfl rfl (y_val tok rfl) ?_
    refine o_yield rfl rfl rfl (y_val tok rfl) ?_
    refine o_new tok rfl rfl rfl rfl ?_
    refine o_store tok rfl rfl rfl (by first | exact ⟨trivial, trivial⟩ | (repeat' first | exact trivial | exact rfl | apply And.intro); done | simp [onesP, oneP, lk, Value.oneCell']) ?_
    refine o_yield rfl rfl rfl (y_val tok rfl) ?_
    refine o_yield rfl rfl rfl (y_val tok rfl) ?_
    refine o_end [2, 3, 6, 10, 13, 16, 17, 18, 19] rfl ?_
    refine x_then ?_
    refine c_seq ?_
    refine c_seq ?_
    refine c_region ?_
    refine o_yield rfl rfl rfl (y_val tok rfl) ?_
    refine o_yield rfl rfl rfl (y_val tok rfl) ?_
    refine o_yield rfl rfl rfl (y_val tok rfl) ?_
    refine o_yield rfl rfl rfl (y_val tok rfl) ?_
    refine o_yield rfl rfl rfl (y_val tok rfl) ?_
    refine o_yield rfl rfl rfl (y_val tok rfl) ?_
    refine o_yield rfl rfl rfl (y_val tok rfl) ?_
    refine o_yield rfl rfl rfl (y_val tok rfl) ?_
    refine o_yield rfl rfl rfl (y_val tok rfl) ?_
    refine o_yield rfl rfl rfl (y_val tok rfl) ?_
    refine o_yield rfl rfl rfl (y_val tok rfl) ?_
    refine o_yield rfl rfl rfl (y_val tok rfl) ?_
    refine o_yield rfl rfl rfl (y_val tok rfl) ?_
    refine o_yield rfl rfl rfl (y_val tok rfl) ?_
    refine o_yield rfl rfl rfl (y_val tok rfl) ?_
    refine o_yield rfl rfl rfl (y_val tok rfl) ?_
    refine o_yield rfl rfl rfl (y_val tok rfl) ?_
    have hsm : te ≠ 0 → ∀ w, Calls Try.prog 11 #[rpV slot key (if te = 0 then 1 else 0) tv (.slice none 0 0) (.slice none 0 0) 0 0, rpV slot key 0 0 (.slice none 0 0) (.slice none 0 0) 0 0] w fun e w' => e = .returned (.bool true) ∧ Below w.heap.size w w' := by
      intro h0
      rw [if_neg h0, (hor.resolve_left h0).2]
      exact rpSame0_c slot key
    refine o_call (.a (.v (.bool true))) rfl rfl fnok11 rfl rfl rfl (fun hg E w1 hm => by exact hsm (by intro h0; simp [h0] at hg) _) ?_
    refine o_yield rfl rfl rfl (y_val tok rfl) ?_
    refine o_yield rfl rfl rfl (y_val tok rfl) ?_
    refine o_yield rfl rfl rfl (y_val tok rfl) ?_
    refine o_yield rfl rfl rfl (y_val tok rfl) ?_
    refine o_end [2, 3, 6, 10, 13, 17, 87] rfl ?_
    refine x_then ?_
    refine c_cond rfl (fun h => ?_) (fun h => ?_)
    ·
      exfalso
      rw [← hte] at h
      rcases hor with h0 | ⟨h0, _⟩ <;> simp [h0] at h
    ·
      clear h
      refine c_skip ?_
      refine x_then ?_
      refine c_seq ?_
      refine c_region ?_
      refine o_yield rfl rfl rfl (y_val tok rfl) ?_
      refine o_call (.a (.v _)) rfl rfl fnok12 rfl rfl rfl (fun hg E w1 hm => by exact hhc _) ?_
      refine o_yield rfl rfl rfl (y_val tok rfl) ?_
      refine o_yield rfl rfl rfl (y_val tok rfl) ?_
      refine o_yield rfl rfl rfl (y_val tok rfl) ?_
      refine o_yield rfl rfl rfl (y_val tok rfl) ?_
      refine o_yield rfl rfl rfl (y_val tok rfl) ?_
      refine o_end [2, 3, 6, 10, 13, 17, 20] rfl ?_
      refine x_then ?_
      refine c_seq ?_
      refine c_region ?_
      refine o_yield rfl rfl rfl (y_val tok rfl) ?_
      refine o_yield rfl rfl rfl (y_val tok rfl) ?_
      refine o_yield rfl rfl rfl (y_val tok rfl) ?_
      refine o_call (.a (.v _)) rfl rfl fnok10 rfl rfl rfl (fun hg E w1 hm => by exact htk _) ?_
      refine o_yield rfl rfl rfl (y_val tok rfl) ?_
      refine o_yield rfl rfl rfl (y_val tok rfl) ?_
      refine o_yield rfl rfl rfl (y_val tok rfl) ?_
      refine o_yield rfl rfl rfl (y_val tok rfl) ?_
      refine o_store tok rfl rfl rfl (by first | exact ⟨trivial, trivial⟩ | (repeat' first | exact trivial | exact rfl | apply And.intro); done | simp [onesP, oneP, lk, Value.oneCell']) ?_
      refine o_yield rfl rfl rfl (y_val tok rfl) ?_
      refine o_yield rfl rfl rfl (y_val tok rfl) ?_
      refine o_end [2, 3, 6, 10, 17, 18, 19] rfl ?_
      refine x_then ?_
      refine c_seq ?_
      refine c_seq ?_
      refine c_region ?_
      refine o_yield rfl rfl rfl (y_val tok rfl) ?_
      refine o_yield rfl rfl rfl (y_val tok rfl) ?_
      refine o_yield rfl rfl rfl (y_val tok rfl) ?_
      refine o_yield rfl rfl rfl (y_val tok rfl) ?_
      refine o_yield rfl rfl rfl (y_val tok rfl) ?_
      refine o_yield rfl rfl rfl (y_val tok rfl) ?_
      refine o_yield rfl rfl rfl (y_val tok rfl) ?_
      refine o_yield rfl rfl rfl (y_val tok rfl) ?_
      refine o_yield rfl rfl rfl (y_val tok rfl) ?_
      refine o_yield rfl rfl rfl (y_val tok rfl) ?_
      refine o_yield rfl rfl rfl (y_val tok rfl) ?_
      refine o_yield rfl rfl rfl (y_val tok rfl) ?_
      refine o_yield rfl rfl rfl (y_val tok rfl) ?_
      refine o_yield rfl rfl rfl (y_val tok rfl) ?_
      refine o_yield rfl rfl rfl (y_val tok rfl) ?_
      refine o_yield rfl rfl rfl (y_val tok rfl) ?_
      refine o_end [2, 3, 6, 10, 17, 116] rfl ?_
      refine x_then ?_
      refine c_cond rfl (fun h => ?_) (fun h => ?_)
      ·
        simp at h
      ·
        clear h
        refine c_skip ?_
        refine x_then ?_
        refine c_seq ?_
        refine c_region ?_
        refine o_yield rfl rfl rfl (y_val tok rfl) ?_
        refine o_call (.a (.v _)) rfl rfl fnok13 rfl rfl rfl (fun hg E w1 hm => by exact refBytes_c x _) ?_
        refine o_yield rfl rfl rfl (y_val tok rfl) ?_
        refine o_yield rfl rfl rfl (y_val tok rfl) ?_
        refine o_yield rfl rfl rfl (y_val tok rfl) ?_
        refine o_yield rfl rfl rfl (y_val tok rfl) ?_
        refine o_yield rfl rfl rfl (y_val tok rfl) ?_
        refine o_end [2, 3, 6, 10, 14, 17, 22] rfl ?_
        refine x_then ?_
        refine c_seq ?_
        refine c_seq ?_
        refine c_region ?_
        refine o_yield rfl rfl rfl (y_val tok rfl) ?_
        refine o_yield rfl rfl rfl (y_val tok rfl) ?_
        refine o_end [2, 3, 6, 10, 17, 22, 123] rfl ?_
        refine x_then ?_
        refine c_cond rfl (fun h => ?_) (fun h => ?_)
        ·
          refine c_seq ?_
          refine c_region ?_
          refine o_call (.a (.v _)) rfl rfl fnok8 rfl rfl rfl (fun hg E w1 hm => by exact wakes21_c _) ?_
          refine o_yield rfl rfl rfl (y_val tok rfl) ?_
          refine o_end [12] rfl ?_
          refine x_then ?_
          refine c_ret ?_
          refine x_then_ret ?_
          refine b_ret tok rfl ?_
          intro E w' hm _
          refine ⟨?_, hm.below (Vw.le.refl _)⟩
          rfl
        ·
          have hrb : recB x = true := by
            cases hq : recB x with
            | true => rfl
            | false => rw [bytesE, if_neg (by simp [hq])] at h; simp at h
          clear h
          have hbv : bytesV x = recBytes x := by rw [bytesV, if_pos hrb]
          have hbz : (recBytes x).size ≤ maxLen := by
            have h1 := recBytes_size (recOk hrb)
            simp only [maxLen]
            omega
          have his := is_rec hrb key tail
          have hiv : isB (recBytes x) key tail = true → isV (recBytes x) key tail = x := fun h => by rw [isV, if_pos h]; exact (read_rec hrb).2.1
          have htw : tail = IntKind.i64.wrap (tail + (([] : List Record).length : Int)) := by
            simp only [List.length_nil, Int.natCast_zero, Int.add_zero]
            exact (wrapI (by omega) (by omega)).symm
          have ht1c := fun V w hV => rpTake1_c V g ok hG slot key tail none 0 0 none 0 0 0 0 [] (recBytes x) hbz w hV (slNil V Record.cells 6 0 (fun _ => rfl)) (by simp) tail htw (rowL_whole _ _ _)
          rw [hbv]
          generalize hbx : recBytes x = bx at *
          refine c_skip ?_
          refine x_then ?_
          refine c_seq ?_
          refine c_region ?_
          refine o_yield rfl rfl rfl (y_val tok rfl) ?_
          refine o_yield rfl rfl rfl (y_val tok rfl) ?_
          refine o_yield rfl rfl rfl (y_val tok rfl) ?_
          refine o_callV (fun v V' => ∃ a n c, v = .tuple #[rpR (rowD g [] bx key tail) slot key tail a n c none 0 0 0 0, .bool false, I 0] ∧ SlOf V' Record.cells 6 (.slice a n c) (rowL [] bx key tail)) rfl rfl fnok10 rfl rfl (fun hg E w1 hm => by exact ht1c (vw w) _ hm.leV) ?_
          rintro v V1 hle1 hv
          obtain ⟨a, n, c, rfl, hsl⟩ := hv rfl
          clear hv
          refine o_yield rfl rfl rfl (y_val tok rfl) ?_
          refine o_yield rfl rfl rfl (y_val tok rfl) ?_
          refine o_yield rfl rfl rfl (y_val tok rfl) ?_
          refine o_yield rfl rfl rfl (y_val tok rfl) ?_
          refine o_new tok rfl rfl rfl rfl ?_
          refine o_store tok rfl rfl rfl (by first | exact ⟨trivial, trivial⟩ | (repeat' first | exact trivial | exact rfl | apply And.intro); done | simp [onesP, oneP, lk, Value.oneCell']) ?_
          refine o_yield rfl rfl rfl (y_val tok rfl) ?_
          refine o_yield rfl rfl rfl (y_val tok rfl) ?_
          refine o_end [2, 3, 6, 10, 18, 19, 23] rfl ?_
          refine x_then ?_
          refine c_seq ?_
          refine c_seq ?_
          refine c_region ?_
          refine o_yield rfl rfl rfl (y_val tok rfl) ?_
          refine o_yield rfl rfl rfl (y_val tok rfl) ?_
          refine o_yield rfl rfl rfl (y_val tok rfl) ?_
          refine o_yield rfl rfl rfl (y_val tok rfl) ?_
          refine o_yield rfl rfl rfl (y_val tok rfl) ?_
          refine o_end [2, 3, 6, 10, 23, 137] rfl ?_
          refine x_then ?_
          refine c_cond rfl (fun h => ?_) (fun h => ?_)
          ·
            simp at h
          ·
            clear h
            refine c_skip ?_
            refine x_then ?_
            refine c_seq ?_
            refine c_seq ?_
            refine c_region ?_
            refine o_yield rfl rfl rfl (y_val tok rfl) ?_
            refine o_yield rfl rfl rfl (y_val tok rfl) ?_
            refine o_yield rfl rfl rfl (y_val tok rfl) ?_
            refine o_yield rfl rfl rfl (y_val tok rfl) ?_
            refine o_yield rfl rfl rfl (y_val tok rfl) ?_
            refine o_yield rfl rfl rfl (y_val tok rfl) ?_
            refine o_yield rfl rfl rfl (y_val tok rfl) ?_
            refine o_yield rfl rfl rfl (y_val tok rfl) ?_
            refine o_yield rfl rfl rfl (y_val tok rfl) ?_
            refine o_yield rfl rfl rfl (y_val tok rfl) ?_
            refine o_end [3, 6, 10, 23, 147] rfl ?_
            refine x_then ?_
            refine c_cond rfl (fun h => ?_) (fun h => ?_)
            ·
              have hxk : x.key = key ∧ x.lsn = tail := by simpa using h
              have hib : isB bx key tail = true := by rw [his, hxk.1, hxk.2]; simp
              have hrl : rowL [] bx key tail = [x] := by rw [rowL, if_pos hib, hiv hib]; rfl
              rw [hrl] at hsl
              obtain ⟨a', c', he, _⟩ := sl_cap hsl.sl
              cases he
              clear h
              refine c_seq ?_
              refine c_draw mixed (by kernel_rfl) ?_
              refine d_yield rfl rfl rfl (y_val tok rfl) rfl ?_
              refine d_yield rfl rfl rfl (y_val tok rfl) rfl ?_
              refine d_yield rfl rfl rfl (y_len tok rfl (fun hg => hsl.sl)) rfl ?_
              refine d_yield rfl rfl rfl (y_val tok rfl) rfl ?_
              refine d_yield rfl rfl rfl (y_val tok rfl) rfl ?_
              refine d_yield rfl rfl rfl (y_val tok rfl) rfl ?_
              refine d_yield rfl rfl rfl (y_val tok rfl) rfl ?_
              have hlt_x := lt_of_at (show [x][0]? = some x from rfl)
              refine d_yield rfl rfl rfl (y_idx tok rfl (fun hg => hsl.sl) (fun hg => ⟨by omega, by simp⟩)) rfl ?_
              refine d_yield rfl rfl rfl (y_lel tok (0) 0 (x) rfl (fun hg => hsl) (fun hg => (show [x][0]? = some x from rfl)) rfl rfl) rfl ?_
              refine d_yield rfl rfl rfl (y_val tok rfl) rfl ?_
              refine d_yield rfl rfl rfl (y_seq (.bool (x.eqB x)) rfl (fun E w => recEq x x w (.inl rfl))) rfl ?_
              refine d_yield rfl rfl rfl (y_val tok rfl) rfl ?_
              refine d_yield rfl rfl rfl (y_val tok rfl) rfl ?_
              refine d_yield rfl rfl rfl (y_val tok rfl) rfl ?_
              refine d_yield rfl rfl rfl (y_val tok rfl) rfl ?_
              refine d_yield rfl rfl rfl (y_val tok rfl) rfl ?_
              refine d_yield rfl rfl rfl (y_val tok rfl) rfl ?_
              refine d_yield rfl rfl rfl (y_val tok rfl) rfl ?_
              refine d_yield rfl rfl rfl (y_val tok rfl) rfl ?_
              refine d_yield rfl rfl rfl (y_val tok rfl) rfl ?_
              refine d_yield rfl rfl rfl (y_val tok rfl) rfl ?_
              refine d_yield rfl rfl rfl (y_val tok rfl) rfl ?_
              refine d_call (.a (.v _)) rfl rfl fnok8 rfl rfl rfl (fun hg E w1 hm => by exact wakes21_c _) ?_
              refine d_yield rfl rfl rfl (y_val tok rfl) rfl ?_
              refine d_yield rfl rfl rfl (y_val tok rfl) rfl ?_
              refine d_end [12] rfl ?_
              refine x_then ?_
              refine c_ret ?_
              refine x_then_ret ?_
              refine b_ret tok rfl ?_
              intro E w' hm _
              refine ⟨?_, hm.below (hle1)⟩
              have hd : rowD g [] bx key tail = !(decide ((1 : Int) < g.journal)) := by rw [rowD, hib]; rfl
              rw [hd, show x.eqB x = true by simp [Record.eqB]]
              by_cases hj : (1 : Int) < g.journal
              · simp [hj]; rfl
              · simp [hj]; rfl
            ·
              have hib : isB bx key tail = false := by
                rw [his]
                simpa using h
              have hrl : rowL [] bx key tail = [] := by rw [rowL, hib, if_neg (by simp)]
              have hrd : rowD g [] bx key tail = true := by rw [rowD, hib]; rfl
              rw [hrl] at hsl
              rw [hrd]
              obtain ⟨a', c', he, _⟩ := sl_cap hsl.sl
              cases he
              clear h
              refine c_skip ?_
              refine x_then ?_
              refine c_seq ?_
              refine c_region ?_
              refine o_yield rfl rfl rfl (y_val tok rfl) ?_
              refine o_yield rfl rfl rfl (y_val tok rfl) ?_
              refine o_yield rfl rfl rfl (y_val tok rfl) ?_
              refine o_yield rfl rfl rfl (y_val tok rfl) ?_
              refine o_yield rfl rfl rfl (y_val tok rfl) ?_
              refine o_yield rfl rfl rfl (y_val tok rfl) ?_
              refine o_yield rfl rfl rfl (y_len tok rfl (fun hg => hsl.sl)) ?_
              refine o_yield rfl rfl rfl (y_val tok rfl) ?_
              refine o_yield rfl rfl rfl (y_val tok rfl) ?_
              refine o_yield rfl rfl rfl (y_val tok rfl) ?_
              refine o_yield rfl rfl rfl (y_val tok rfl) ?_
              refine o_yield rfl rfl rfl (y_val tok rfl) ?_
              refine o_yield rfl rfl rfl (y_val tok rfl) ?_
              refine o_yield rfl rfl rfl (y_val tok rfl) ?_
              refine o_yield rfl rfl rfl (y_val tok rfl) ?_
              refine o_yield rfl rfl rfl (y_val tok rfl) ?_
              refine o_call (.a (.v _)) rfl rfl fnok8 rfl rfl rfl (fun hg E w1 hm => by exact wakes21_c _) ?_
              refine o_yield rfl rfl rfl (y_val tok rfl) ?_
              refine o_yield rfl rfl rfl (y_val tok rfl) ?_
              refine o_end [12] rfl ?_
              refine x_then ?_
              refine c_ret ?_
              refine b_ret tok rfl ?_
              intro E w' hm _
              refine ⟨?_, hm.below (hle1)⟩
              rw [wrapI (n := tail) (by omega) (by omega)]
              simp
              rfl
end Go.Proofs.Ytikdaehmaaogdaa
