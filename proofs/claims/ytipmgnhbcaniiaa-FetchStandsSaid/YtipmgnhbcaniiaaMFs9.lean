import Derived.Test.YtipmgnhbcaniiaaMFs4
/- The document's device, new. -/
set_option linter.unusedVariables false
set_option linter.unusedSimpArgs false
set_option maxRecDepth 100000
namespace Go.Proofs.Ytipmgnhbcaniiaa
open Go Go.Eng Go.RowKit

theorem good_new {T : List ByteArray} {n : Nat} (h0 : 0 < n) (h1 : n ≤ 16) (hT : 0 < T.length) (hT2 : T.length ≤ 100000) (hs : shortB T = true) : DevGood T (List.replicate n []) (List.replicate n 0) 1 :=
  ⟨hT, hT2, hs, by simpa using h0, by simpa using h1, by simp, by omega, by omega, fun l hl => by rw [List.mem_replicate] at hl; rw [hl.2]; exact ⟨rfl, by simp⟩, fun i k hk => by
    have := List.mem_of_getElem? hk
    rw [List.mem_replicate] at this
    exact .inl this.2⟩

theorem rowOfN {α : Type} {enc : α → List Value} {E : Env} {O : Go.Eng.Own} {nl : Nat} {V : Vw} {w : World} (hm : Mem E O nl V w) (l : Nat) {e sz m : Nat} {xs : List Value} {L : List α} (hl : lk O l = some (.row e sz m xs)) (h1 : m = L.length) (h2 : xs = L.flatMap enc)
    (he : ∀ x, (enc x).length = sz) : SlOf (vw w) enc sz (E.κ l) L := by
  subst h1 h2
  exact hm.rowOf l hl he

set_option maxHeartbeats 8000000 in
theorem new06_c (V : Vw) (n : Nat) (ta : Option Addr) (tn tc : Nat) (T : List ByteArray) (w : World) (hV : V.le (vw w)) (hT0 : SlOf V encS 1 (.slice ta tn tc) T) (h0 : 0 < n) (h1 : n ≤ 16) (hTl : 0 < T.length) (hT2 : T.length ≤ 100000) (hs : shortB T = true) :
    Calls Try.prog 8 #[I n, .slice ta tn tc] w fun e w' => ∃ x V', e = .returned x ∧ Below w.heap.size w w' ∧ Vext w.heap.size V V' w' ∧ ∃ v1, x = .tuple #[v1, I 0] ∧ DevC V' v1 T (List.replicate n []) (List.replicate n 0) 1 := by
  have hT := hT0.mono hV
  have hrc : repZ n [(.slice none 0 0 : Value)] = (List.replicate n (⟨.slice none 0 0, []⟩ : Sl Cell)).flatMap Sl.enc := repZ_flat (enc := Sl.enc) (⟨.slice none 0 0, []⟩ : Sl Cell) n
  have hrk : repZ n [I 0] = (List.replicate n (0 : Int)).flatMap encI64 := repZ_flat (enc := encI64) (0 : Int) n
  refine enter (E := E0) (O := []) (nl := 0) (V := vw w) [.a (.v (I n)), .a (.v (.slice ta tn tc))] Try.func8 rfl rfl (mem0 E0 0 w) rfl rfl ?_
  refine c_seq ?_
  refine c_region ?_
  refine o_new tok rfl rfl rfl rfl ?_
  refine o_yield rfl rfl rfl (y_val tok rfl) ?_
  refine o_end [0, 1, 4] rfl ?_
  refine x_then ?_
  refine c_seq ?_
  refine c_seq ?_
  refine c_region ?_
  refine o_yield rfl rfl rfl (y_val tok rfl) ?_
  refine o_yield rfl rfl rfl (y_val tok rfl) ?_
  refine o_yield rfl rfl rfl (y_val tok rfl) ?_
  refine o_yield rfl rfl rfl (y_val tok rfl) ?_
  refine o_yield rfl rfl rfl (y_val tok rfl) ?_
  refine o_yield rfl rfl rfl (y_val tok rfl) ?_
  refine o_end [0, 1, 4, 12] rfl ?_
  refine x_then ?_
  refine c_cond rfl (fun h => ?_) (fun h => ?_)
  ·
    exfalso
    simp at h
    omega
  ·
    refine c_skip ?_
    refine x_then ?_
    refine c_seq ?_
    refine c_heldM (σ := Unit) (fun _ => [(4, .a (.ptr 0 0)), (6, .a (.ptr 5 0))]) (fun _ => [(0, .lit [.v (.slice none 0 0), .v (.slice none 0 0), .v (.slice none 0 0), .v (I 0), .v (.slice none 0 0)] 35), (2, .row 9 1 (0 + T.length) ([] ++ T.flatMap encS)), (3, .row 70 1 n (repZ n [.slice none 0 0])), (4, .row 3 1 n (repZ n [I 0])), (5, .lit [.row 2, .row 3, .row 4, .v (I 1), .v (.slice none 0 0)] 35)]) (6) (fun _ => vw w) (fun _ => True) mixed ?_ ?_
    ·
     refine t_take 1 rfl (by kernel_rfl) rfl rfl rfl (y_val tok rfl) rfl ?_
     refine t_take 3 rfl (by kernel_rfl) rfl rfl rfl (y_val tok rfl) rfl ?_
     refine t_take 5 rfl (by kernel_rfl) rfl rfl rfl (y_val tok rfl) rfl ?_
     refine t_go ?_
     refine h_four 0 4 6 8 (by kernel_rfl) ?_ ?_ ?_ ?_
     ·
      refine h_to 0 rfl rfl rfl rfl rfl rfl (s_bs tok 1 rfl rfl rfl) (.inr fun _ _ => ⟨(by repeat (first | exact SubO.nil | refine SubO.cons rfl ?_)), rfl, Vw.le.refl _⟩) (fun _ _ => ?_)
      refine h_four 2 4 6 8 (by kernel_rfl) ?_ ?_ ?_ ?_
      ·
       refine h_to 2 rfl rfl rfl rfl rfl rfl (s_app (e := 9) (sz := 1) (by_ := 16) (m := 0) (k := T.length) (olds := []) tok (T.flatMap encS) rfl (fun E w1 hm => hT.sl.src hm.get) (fun _ _ _ => str_ones T) (by omega)) (.inr fun _ _ => ⟨(by repeat (first | exact SubO.nil | refine SubO.cons rfl ?_)), rfl, Vw.le.refl _⟩) (fun _ _ => ?_)
       refine h_three 4 6 8 (by kernel_rfl) ?_ ?_ ?_
       ·
        refine h_to 4 rfl rfl rfl rfl rfl rfl (s_mk (e := 70) (sz := 1) (by_ := 24) (z := [.slice none 0 0]) tok n n rfl rfl rfl (Nat.le_refl _) (by omega) (by simp only [maxLen]; omega)) (.inr fun _ _ => ⟨(by repeat (first | exact SubO.nil | refine SubO.cons rfl ?_)), rfl, Vw.le.refl _⟩) (fun _ _ => ?_)
        refine h_two 6 8 (by kernel_rfl) ?_ ?_
        ·
         refine h_to 6 rfl rfl rfl rfl rfl rfl (s_mk (e := 3) (sz := 1) (by_ := 8) (z := [I 0]) tok n n rfl rfl rfl (Nat.le_refl _) (by omega) (by simp only [maxLen]; omega)) (.inr fun _ _ => ⟨(by repeat (first | exact SubO.nil | refine SubO.cons rfl ?_)), rfl, Vw.le.refl _⟩) (fun _ _ => ?_)
         refine h_two 7 8 (by kernel_rfl) ?_ ?_
         ·
          refine h_yield 7 rfl rfl rfl rfl (y_val tok rfl) ?_
          refine h_one 8 (by kernel_rfl) ?_
          refine h_new 8 tok rfl rfl rfl rfl rfl rfl ?_
          refine h_one 9 (by kernel_rfl) ?_
          refine h_store 9 tok rfl rfl rfl rfl (by repeat' first | exact trivial | exact rfl | apply And.intro) (.inr ⟨(by repeat (first | exact SubO.nil | refine SubO.cons rfl ?_)), rfl, Vw.le.refl _⟩) ?_
          refine h_done [4, 6] (by kernel_rfl) rfl ?_
          exact x_meet () trivial (by repeat (first | exact SubF.nil | refine SubF.cons rfl ?_)) (by repeat (first | exact SubO.nil | refine SubO.cons rfl ?_)) rfl (Vw.le.refl _)
         ·
          refine h_new 8 tok rfl rfl rfl rfl rfl rfl ?_
          refine h_one 7 (by kernel_rfl) ?_
          refine h_yield 7 rfl rfl rfl rfl (y_val tok rfl) ?_
          refine h_one 9 (by kernel_rfl) ?_
          refine h_store 9 tok rfl rfl rfl rfl (by repeat' first | exact trivial | exact rfl | apply And.intro) (.inr ⟨(by repeat (first | exact SubO.nil | refine SubO.cons rfl ?_)), rfl, Vw.le.refl _⟩) ?_
          refine h_done [4, 6] (by kernel_rfl) rfl ?_
          exact x_meet () trivial (by repeat (first | exact SubF.nil | refine SubF.cons rfl ?_)) (by repeat (first | exact SubO.nil | refine SubO.cons rfl ?_)) rfl (Vw.le.refl _)
        ·
         refine h_new 8 tok rfl rfl rfl rfl rfl rfl ?_
         refine h_one 6 (by kernel_rfl) ?_
         refine h_to 6 rfl rfl rfl rfl rfl rfl (s_mk (e := 3) (sz := 1) (by_ := 8) (z := [I 0]) tok n n rfl rfl rfl (Nat.le_refl _) (by omega) (by simp only [maxLen]; omega)) (.inr fun _ _ => ⟨(by repeat (first | exact SubO.nil | refine SubO.cons rfl ?_)), rfl, Vw.le.refl _⟩) (fun _ _ => ?_)
         refine h_one 7 (by kernel_rfl) ?_
         refine h_yield 7 rfl rfl rfl rfl (y_val tok rfl) ?_
         refine h_one 9 (by kernel_rfl) ?_
         refine h_store 9 tok rfl rfl rfl rfl (by repeat' first | exact trivial | exact rfl | apply And.intro) (.inr ⟨(by repeat (first | exact SubO.nil | refine SubO.cons rfl ?_)), rfl, Vw.le.refl _⟩) ?_
         refine h_done [4, 6] (by kernel_rfl) rfl ?_
         refine k_swap 4 5 rfl ?_
         exact x_meet () trivial (by repeat (first | exact SubF.nil | refine SubF.cons rfl ?_)) (by repeat (first | exact SubO.nil | refine SubO.cons rfl ?_)) rfl (Vw.le.refl _)
       ·
        refine h_to 6 rfl rfl rfl rfl rfl rfl (s_mk (e := 3) (sz := 1) (by_ := 8) (z := [I 0]) tok n n rfl rfl rfl (Nat.le_refl _) (by omega) (by simp only [maxLen]; omega)) (.inr fun _ _ => ⟨(by repeat (first | exact SubO.nil | refine SubO.cons rfl ?_)), rfl, Vw.le.refl _⟩) (fun _ _ => ?_)
        refine h_two 4 8 (by kernel_rfl) ?_ ?_
        ·
         refine h_to 4 rfl rfl rfl rfl rfl rfl (s_mk (e := 70) (sz := 1) (by_ := 24) (z := [.slice none 0 0]) tok n n rfl rfl rfl (Nat.le_refl _) (by omega) (by simp only [maxLen]; omega)) (.inr fun _ _ => ⟨(by repeat (first | exact SubO.nil | refine SubO.cons rfl ?_)), rfl, Vw.le.refl _⟩) (fun _ _ => ?_)
         refine h_two 7 8 (by kernel_rfl) ?_ ?_
         ·
          refine h_yield 7 rfl rfl rfl rfl (y_val tok rfl) ?_
          refine h_one 8 (by kernel_rfl) ?_
          refine h_new 8 tok rfl rfl rfl rfl rfl rfl ?_
          refine h_one 9 (by kernel_rfl) ?_
          refine h_store 9 tok rfl rfl rfl rfl (by repeat' first | exact trivial | exact rfl | apply And.intro) (.inr ⟨(by repeat (first | exact SubO.nil | refine SubO.cons rfl ?_)), rfl, Vw.le.refl _⟩) ?_
          refine h_done [4, 6] (by kernel_rfl) rfl ?_
          refine k_swap 3 4 rfl ?_
          exact x_meet () trivial (by repeat (first | exact SubF.nil | refine SubF.cons rfl ?_)) (by repeat (first | exact SubO.nil | refine SubO.cons rfl ?_)) rfl (Vw.le.refl _)
         ·
          refine h_new 8 tok rfl rfl rfl rfl rfl rfl ?_
          refine h_one 7 (by kernel_rfl) ?_
          refine h_yield 7 rfl rfl rfl rfl (y_val tok rfl) ?_
          refine h_one 9 (by kernel_rfl) ?_
          refine h_store 9 tok rfl rfl rfl rfl (by repeat' first | exact trivial | exact rfl | apply And.intro) (.inr ⟨(by repeat (first | exact SubO.nil | refine SubO.cons rfl ?_)), rfl, Vw.le.refl _⟩) ?_
          refine h_done [4, 6] (by kernel_rfl) rfl ?_
          refine k_swap 3 4 rfl ?_
          exact x_meet () trivial (by repeat (first | exact SubF.nil | refine SubF.cons rfl ?_)) (by repeat (first | exact SubO.nil | refine SubO.cons rfl ?_)) rfl (Vw.le.refl _)
        ·
         refine h_new 8 tok rfl rfl rfl rfl rfl rfl ?_
         refine h_one 4 (by kernel_rfl) ?_
         refine h_to 4 rfl rfl rfl rfl rfl rfl (s_mk (e := 70) (sz := 1) (by_ := 24) (z := [.slice none 0 0]) tok n n rfl rfl rfl (Nat.le_refl _) (by omega) (by simp only [maxLen]; omega)) (.inr fun _ _ => ⟨(by repeat (first | exact SubO.nil | refine SubO.cons rfl ?_)), rfl, Vw.le.refl _⟩) (fun _ _ => ?_)
         refine h_one 7 (by kernel_rfl) ?_
         refine h_yield 7 rfl rfl rfl rfl (y_val tok rfl) ?_
         refine h_one 9 (by kernel_rfl) ?_
         refine h_store 9 tok rfl rfl rfl rfl (by repeat' first | exact trivial | exact rfl | apply And.intro) (.inr ⟨(by repeat (first | exact SubO.nil | refine SubO.cons rfl ?_)), rfl, Vw.le.refl _⟩) ?_
         refine h_done [4, 6] (by kernel_rfl) rfl ?_
         refine k_swap 3 5 rfl ?_
         refine k_swap 4 5 rfl ?_
         exact x_meet () trivial (by repeat (first | exact SubF.nil | refine SubF.cons rfl ?_)) (by repeat (first | exact SubO.nil | refine SubO.cons rfl ?_)) rfl (Vw.le.refl _)
       ·
        refine h_new 8 tok rfl rfl rfl rfl rfl rfl ?_
        refine h_two 4 6 (by kernel_rfl) ?_ ?_
        ·
         refine h_to 4 rfl rfl rfl rfl rfl rfl (s_mk (e := 70) (sz := 1) (by_ := 24) (z := [.slice none 0 0]) tok n n rfl rfl rfl (Nat.le_refl _) (by omega) (by simp only [maxLen]; omega)) (.inr fun _ _ => ⟨(by repeat (first | exact SubO.nil | refine SubO.cons rfl ?_)), rfl, Vw.le.refl _⟩) (fun _ _ => ?_)
         refine h_one 6 (by kernel_rfl) ?_
         refine h_to 6 rfl rfl rfl rfl rfl rfl (s_mk (e := 3) (sz := 1) (by_ := 8) (z := [I 0]) tok n n rfl rfl rfl (Nat.le_refl _) (by omega) (by simp only [maxLen]; omega)) (.inr fun _ _ => ⟨(by repeat (first | exact SubO.nil | refine SubO.cons rfl ?_)), rfl, Vw.le.refl _⟩) (fun _ _ => ?_)
         refine h_one 7 (by kernel_rfl) ?_
         refine h_yield 7 rfl rfl rfl rfl (y_val tok rfl) ?_
         refine h_one 9 (by kernel_rfl) ?_
         refine h_store 9 tok rfl rfl rfl rfl (by repeat' first | exact trivial | exact rfl | apply And.intro) (.inr ⟨(by repeat (first | exact SubO.nil | refine SubO.cons rfl ?_)), rfl, Vw.le.refl _⟩) ?_
         refine h_done [4, 6] (by kernel_rfl) rfl ?_
         refine k_swap 3 4 rfl ?_
         refine k_swap 4 5 rfl ?_
         exact x_meet () trivial (by repeat (first | exact SubF.nil | refine SubF.cons rfl ?_)) (by repeat (first | exact SubO.nil | refine SubO.cons rfl ?_)) rfl (Vw.le.refl _)
        ·
         refine h_to 6 rfl rfl rfl rfl rfl rfl (s_mk (e := 3) (sz := 1) (by_ := 8) (z := [I 0]) tok n n rfl rfl rfl (Nat.le_refl _) (by omega) (by simp only [maxLen]; omega)) (.inr fun _ _ => ⟨(by repeat (first | exact SubO.nil | refine SubO.cons rfl ?_)), rfl, Vw.le.refl _⟩) (fun _ _ => ?_)
         refine h_one 4 (by kernel_rfl) ?_
         refine h_to 4 rfl rfl rfl rfl rfl rfl (s_mk (e := 70) (sz := 1) (by_ := 24) (z := [.slice none 0 0]) tok n n rfl rfl rfl (Nat.le_refl _) (by omega) (by simp only [maxLen]; omega)) (.inr fun _ _ => ⟨(by repeat (first | exact SubO.nil | refine SubO.cons rfl ?_)), rfl, Vw.le.refl _⟩) (fun _ _ => ?_)
         refine h_one 7 (by kernel_rfl) ?_
         refine h_yield 7 rfl rfl rfl rfl (y_val tok rfl) ?_
         refine h_one 9 (by kernel_rfl) ?_
         refine h_store 9 tok rfl rfl rfl rfl (by repeat' first | exact trivial | exact rfl | apply And.intro) (.inr ⟨(by repeat (first | exact SubO.nil | refine SubO.cons rfl ?_)), rfl, Vw.le.refl _⟩) ?_
         refine h_done [4, 6] (by kernel_rfl) rfl ?_
         refine k_swap 3 5 rfl ?_
         exact x_meet () trivial (by repeat (first | exact SubF.nil | refine SubF.cons rfl ?_)) (by repeat (first | exact SubO.nil | refine SubO.cons rfl ?_)) rfl (Vw.le.refl _)
      ·
       refine h_to 4 rfl rfl rfl rfl rfl rfl (s_mk (e := 70) (sz := 1) (by_ := 24) (z := [.slice none 0 0]) tok n n rfl rfl rfl (Nat.le_refl _) (by omega) (by simp only [maxLen]; omega)) (.inr fun _ _ => ⟨(by repeat (first | exact SubO.nil | refine SubO.cons rfl ?_)), rfl, Vw.le.refl _⟩) (fun _ _ => ?_)
       refine h_three 2 6 8 (by kernel_rfl) ?_ ?_ ?_
       ·
        refine h_to 2 rfl rfl rfl rfl rfl rfl (s_app (e := 9) (sz := 1) (by_ := 16) (m := 0) (k := T.length) (olds := []) tok (T.flatMap encS) rfl (fun E w1 hm => hT.sl.src hm.get) (fun _ _ _ => str_ones T) (by omega)) (.inr fun _ _ => ⟨(by repeat (first | exact SubO.nil | refine SubO.cons rfl ?_)), rfl, Vw.le.refl _⟩) (fun _ _ => ?_)
        refine h_two 6 8 (by kernel_rfl) ?_ ?_
        ·
         refine h_to 6 rfl rfl rfl rfl rfl rfl (s_mk (e := 3) (sz := 1) (by_ := 8) (z := [I 0]) tok n n rfl rfl rfl (Nat.le_refl _) (by omega) (by simp only [maxLen]; omega)) (.inr fun _ _ => ⟨(by repeat (first | exact SubO.nil | refine SubO.cons rfl ?_)), rfl, Vw.le.refl _⟩) (fun _ _ => ?_)
         refine h_two 7 8 (by kernel_rfl) ?_ ?_
         ·
          refine h_yield 7 rfl rfl rfl rfl (y_val tok rfl) ?_
          refine h_one 8 (by kernel_rfl) ?_
          refine h_new 8 tok rfl rfl rfl rfl rfl rfl ?_
          refine h_one 9 (by kernel_rfl) ?_
          refine h_store 9 tok rfl rfl rfl rfl (by repeat' first | exact trivial | exact rfl | apply And.intro) (.inr ⟨(by repeat (first | exact SubO.nil | refine SubO.cons rfl ?_)), rfl, Vw.le.refl _⟩) ?_
          refine h_done [4, 6] (by kernel_rfl) rfl ?_
          refine k_swap 2 3 rfl ?_
          exact x_meet () trivial (by repeat (first | exact SubF.nil | refine SubF.cons rfl ?_)) (by repeat (first | exact SubO.nil | refine SubO.cons rfl ?_)) rfl (Vw.le.refl _)
         ·
          refine h_new 8 tok rfl rfl rfl rfl rfl rfl ?_
          refine h_one 7 (by kernel_rfl) ?_
          refine h_yield 7 rfl rfl rfl rfl (y_val tok rfl) ?_
          refine h_one 9 (by kernel_rfl) ?_
          refine h_store 9 tok rfl rfl rfl rfl (by repeat' first | exact trivial | exact rfl | apply And.intro) (.inr ⟨(by repeat (first | exact SubO.nil | refine SubO.cons rfl ?_)), rfl, Vw.le.refl _⟩) ?_
          refine h_done [4, 6] (by kernel_rfl) rfl ?_
          refine k_swap 2 3 rfl ?_
          exact x_meet () trivial (by repeat (first | exact SubF.nil | refine SubF.cons rfl ?_)) (by repeat (first | exact SubO.nil | refine SubO.cons rfl ?_)) rfl (Vw.le.refl _)
        ·
         refine h_new 8 tok rfl rfl rfl rfl rfl rfl ?_
         refine h_one 6 (by kernel_rfl) ?_
         refine h_to 6 rfl rfl rfl rfl rfl rfl (s_mk (e := 3) (sz := 1) (by_ := 8) (z := [I 0]) tok n n rfl rfl rfl (Nat.le_refl _) (by omega) (by simp only [maxLen]; omega)) (.inr fun _ _ => ⟨(by repeat (first | exact SubO.nil | refine SubO.cons rfl ?_)), rfl, Vw.le.refl _⟩) (fun _ _ => ?_)
         refine h_one 7 (by kernel_rfl) ?_
         refine h_yield 7 rfl rfl rfl rfl (y_val tok rfl) ?_
         refine h_one 9 (by kernel_rfl) ?_
         refine h_store 9 tok rfl rfl rfl rfl (by repeat' first | exact trivial | exact rfl | apply And.intro) (.inr ⟨(by repeat (first | exact SubO.nil | refine SubO.cons rfl ?_)), rfl, Vw.le.refl _⟩) ?_
         refine h_done [4, 6] (by kernel_rfl) rfl ?_
         refine k_swap 2 3 rfl ?_
         refine k_swap 4 5 rfl ?_
         exact x_meet () trivial (by repeat (first | exact SubF.nil | refine SubF.cons rfl ?_)) (by repeat (first | exact SubO.nil | refine SubO.cons rfl ?_)) rfl (Vw.le.refl _)
       ·
        refine h_to 6 rfl rfl rfl rfl rfl rfl (s_mk (e := 3) (sz := 1) (by_ := 8) (z := [I 0]) tok n n rfl rfl rfl (Nat.le_refl _) (by omega) (by simp only [maxLen]; omega)) (.inr fun _ _ => ⟨(by repeat (first | exact SubO.nil | refine SubO.cons rfl ?_)), rfl, Vw.le.refl _⟩) (fun _ _ => ?_)
        refine h_two 2 8 (by kernel_rfl) ?_ ?_
        ·
         refine h_to 2 rfl rfl rfl rfl rfl rfl (s_app (e := 9) (sz := 1) (by_ := 16) (m := 0) (k := T.length) (olds := []) tok (T.flatMap encS) rfl (fun E w1 hm => hT.sl.src hm.get) (fun _ _ _ => str_ones T) (by omega)) (.inr fun _ _ => ⟨(by repeat (first | exact SubO.nil | refine SubO.cons rfl ?_)), rfl, Vw.le.refl _⟩) (fun _ _ => ?_)
         refine h_two 7 8 (by kernel_rfl) ?_ ?_
         ·
          refine h_yield 7 rfl rfl rfl rfl (y_val tok rfl) ?_
          refine h_one 8 (by kernel_rfl) ?_
          refine h_new 8 tok rfl rfl rfl rfl rfl rfl ?_
          refine h_one 9 (by kernel_rfl) ?_
          refine h_store 9 tok rfl rfl rfl rfl (by repeat' first | exact trivial | exact rfl | apply And.intro) (.inr ⟨(by repeat (first | exact SubO.nil | refine SubO.cons rfl ?_)), rfl, Vw.le.refl _⟩) ?_
          refine h_done [4, 6] (by kernel_rfl) rfl ?_
          refine k_swap 2 4 rfl ?_
          refine k_swap 3 4 rfl ?_
          exact x_meet () trivial (by repeat (first | exact SubF.nil | refine SubF.cons rfl ?_)) (by repeat (first | exact SubO.nil | refine SubO.cons rfl ?_)) rfl (Vw.le.refl _)
         ·
          refine h_new 8 tok rfl rfl rfl rfl rfl rfl ?_
          refine h_one 7 (by kernel_rfl) ?_
          refine h_yield 7 rfl rfl rfl rfl (y_val tok rfl) ?_
          refine h_one 9 (by kernel_rfl) ?_
          refine h_store 9 tok rfl rfl rfl rfl (by repeat' first | exact trivial | exact rfl | apply And.intro) (.inr ⟨(by repeat (first | exact SubO.nil | refine SubO.cons rfl ?_)), rfl, Vw.le.refl _⟩) ?_
          refine h_done [4, 6] (by kernel_rfl) rfl ?_
          refine k_swap 2 4 rfl ?_
          refine k_swap 3 4 rfl ?_
          exact x_meet () trivial (by repeat (first | exact SubF.nil | refine SubF.cons rfl ?_)) (by repeat (first | exact SubO.nil | refine SubO.cons rfl ?_)) rfl (Vw.le.refl _)
        ·
         refine h_new 8 tok rfl rfl rfl rfl rfl rfl ?_
         refine h_one 2 (by kernel_rfl) ?_
         refine h_to 2 rfl rfl rfl rfl rfl rfl (s_app (e := 9) (sz := 1) (by_ := 16) (m := 0) (k := T.length) (olds := []) tok (T.flatMap encS) rfl (fun E w1 hm => hT.sl.src hm.get) (fun _ _ _ => str_ones T) (by omega)) (.inr fun _ _ => ⟨(by repeat (first | exact SubO.nil | refine SubO.cons rfl ?_)), rfl, Vw.le.refl _⟩) (fun _ _ => ?_)
         refine h_one 7 (by kernel_rfl) ?_
         refine h_yield 7 rfl rfl rfl rfl (y_val tok rfl) ?_
         refine h_one 9 (by kernel_rfl) ?_
         refine h_store 9 tok rfl rfl rfl rfl (by repeat' first | exact trivial | exact rfl | apply And.intro) (.inr ⟨(by repeat (first | exact SubO.nil | refine SubO.cons rfl ?_)), rfl, Vw.le.refl _⟩) ?_
         refine h_done [4, 6] (by kernel_rfl) rfl ?_
         refine k_swap 2 5 rfl ?_
         refine k_swap 3 5 rfl ?_
         refine k_swap 4 5 rfl ?_
         exact x_meet () trivial (by repeat (first | exact SubF.nil | refine SubF.cons rfl ?_)) (by repeat (first | exact SubO.nil | refine SubO.cons rfl ?_)) rfl (Vw.le.refl _)
       ·
        refine h_new 8 tok rfl rfl rfl rfl rfl rfl ?_
        refine h_two 2 6 (by kernel_rfl) ?_ ?_
        ·
         refine h_to 2 rfl rfl rfl rfl rfl rfl (s_app (e := 9) (sz := 1) (by_ := 16) (m := 0) (k := T.length) (olds := []) tok (T.flatMap encS) rfl (fun E w1 hm => hT.sl.src hm.get) (fun _ _ _ => str_ones T) (by omega)) (.inr fun _ _ => ⟨(by repeat (first | exact SubO.nil | refine SubO.cons rfl ?_)), rfl, Vw.le.refl _⟩) (fun _ _ => ?_)
         refine h_one 6 (by kernel_rfl) ?_
         refine h_to 6 rfl rfl rfl rfl rfl rfl (s_mk (e := 3) (sz := 1) (by_ := 8) (z := [I 0]) tok n n rfl rfl rfl (Nat.le_refl _) (by omega) (by simp only [maxLen]; omega)) (.inr fun _ _ => ⟨(by repeat (first | exact SubO.nil | refine SubO.cons rfl ?_)), rfl, Vw.le.refl _⟩) (fun _ _ => ?_)
         refine h_one 7 (by kernel_rfl) ?_
         refine h_yield 7 rfl rfl rfl rfl (y_val tok rfl) ?_
         refine h_one 9 (by kernel_rfl) ?_
         refine h_store 9 tok rfl rfl rfl rfl (by repeat' first | exact trivial | exact rfl | apply And.intro) (.inr ⟨(by repeat (first | exact SubO.nil | refine SubO.cons rfl ?_)), rfl, Vw.le.refl _⟩) ?_
         refine h_done [4, 6] (by kernel_rfl) rfl ?_
         refine k_swap 2 4 rfl ?_
         refine k_swap 3 4 rfl ?_
         refine k_swap 4 5 rfl ?_
         exact x_meet () trivial (by repeat (first | exact SubF.nil | refine SubF.cons rfl ?_)) (by repeat (first | exact SubO.nil | refine SubO.cons rfl ?_)) rfl (Vw.le.refl _)
        ·
         refine h_to 6 rfl rfl rfl rfl rfl rfl (s_mk (e := 3) (sz := 1) (by_ := 8) (z := [I 0]) tok n n rfl rfl rfl (Nat.le_refl _) (by omega) (by simp only [maxLen]; omega)) (.inr fun _ _ => ⟨(by repeat (first | exact SubO.nil | refine SubO.cons rfl ?_)), rfl, Vw.le.refl _⟩) (fun _ _ => ?_)
         refine h_one 2 (by kernel_rfl) ?_
         refine h_to 2 rfl rfl rfl rfl rfl rfl (s_app (e := 9) (sz := 1) (by_ := 16) (m := 0) (k := T.length) (olds := []) tok (T.flatMap encS) rfl (fun E w1 hm => hT.sl.src hm.get) (fun _ _ _ => str_ones T) (by omega)) (.inr fun _ _ => ⟨(by repeat (first | exact SubO.nil | refine SubO.cons rfl ?_)), rfl, Vw.le.refl _⟩) (fun _ _ => ?_)
         refine h_one 7 (by kernel_rfl) ?_
         refine h_yield 7 rfl rfl rfl rfl (y_val tok rfl) ?_
         refine h_one 9 (by kernel_rfl) ?_
         refine h_store 9 tok rfl rfl rfl rfl (by repeat' first | exact trivial | exact rfl | apply And.intro) (.inr ⟨(by repeat (first | exact SubO.nil | refine SubO.cons rfl ?_)), rfl, Vw.le.refl _⟩) ?_
         refine h_done [4, 6] (by kernel_rfl) rfl ?_
         refine k_swap 2 5 rfl ?_
         refine k_swap 3 5 rfl ?_
         exact x_meet () trivial (by repeat (first | exact SubF.nil | refine SubF.cons rfl ?_)) (by repeat (first | exact SubO.nil | refine SubO.cons rfl ?_)) rfl (Vw.le.refl _)
      ·
       refine h_to 6 rfl rfl rfl rfl rfl rfl (s_mk (e := 3) (sz := 1) (by_ := 8) (z := [I 0]) tok n n rfl rfl rfl (Nat.le_refl _) (by omega) (by simp only [maxLen]; omega)) (.inr fun _ _ => ⟨(by repeat (first | exact SubO.nil | refine SubO.cons rfl ?_)), rfl, Vw.le.refl _⟩) (fun _ _ => ?_)
       refine h_three 2 4 8 (by kernel_rfl) ?_ ?_ ?_
       ·
        refine h_to 2 rfl rfl rfl rfl rfl rfl (s_app (e := 9) (sz := 1) (by_ := 16) (m := 0) (k := T.length) (olds := []) tok (T.flatMap encS) rfl (fun E w1 hm => hT.sl.src hm.get) (fun _ _ _ => str_ones T) (by omega)) (.inr fun _ _ => ⟨(by repeat (first | exact SubO.nil | refine SubO.cons rfl ?_)), rfl, Vw.le.refl _⟩) (fun _ _ => ?_)
        refine h_two 4 8 (by kernel_rfl) ?_ ?_
        ·
         refine h_to 4 rfl rfl rfl rfl rfl rfl (s_mk (e := 70) (sz := 1) (by_ := 24) (z := [.slice none 0 0]) tok n n rfl rfl rfl (Nat.le_refl _) (by omega) (by simp only [maxLen]; omega)) (.inr fun _ _ => ⟨(by repeat (first | exact SubO.nil | refine SubO.cons rfl ?_)), rfl, Vw.le.refl _⟩) (fun _ _ => ?_)
         refine h_two 7 8 (by kernel_rfl) ?_ ?_
         ·
          refine h_yield 7 rfl rfl rfl rfl (y_val tok rfl) ?_
          refine h_one 8 (by kernel_rfl) ?_
          refine h_new 8 tok rfl rfl rfl rfl rfl rfl ?_
          refine h_one 9 (by kernel_rfl) ?_
          refine h_store 9 tok rfl rfl rfl rfl (by repeat' first | exact trivial | exact rfl | apply And.intro) (.inr ⟨(by repeat (first | exact SubO.nil | refine SubO.cons rfl ?_)), rfl, Vw.le.refl _⟩) ?_
          refine h_done [4, 6] (by kernel_rfl) rfl ?_
          refine k_swap 2 3 rfl ?_
          refine k_swap 3 4 rfl ?_
          exact x_meet () trivial (by repeat (first | exact SubF.nil | refine SubF.cons rfl ?_)) (by repeat (first | exact SubO.nil | refine SubO.cons rfl ?_)) rfl (Vw.le.refl _)
         ·
          refine h_new 8 tok rfl rfl rfl rfl rfl rfl ?_
          refine h_one 7 (by kernel_rfl) ?_
          refine h_yield 7 rfl rfl rfl rfl (y_val tok rfl) ?_
          refine h_one 9 (by kernel_rfl) ?_
          refine h_store 9 tok rfl rfl rfl rfl (by repeat' first | exact trivial | exact rfl | apply And.intro) (.inr ⟨(by repeat (first | exact SubO.nil | refine SubO.cons rfl ?_)), rfl, Vw.le.refl _⟩) ?_
          refine h_done [4, 6] (by kernel_rfl) rfl ?_
          refine k_swap 2 3 rfl ?_
          refine k_swap 3 4 rfl ?_
          exact x_meet () trivial (by repeat (first | exact SubF.nil | refine SubF.cons rfl ?_)) (by repeat (first | exact SubO.nil | refine SubO.cons rfl ?_)) rfl (Vw.le.refl _)
        ·
         refine h_new 8 tok rfl rfl rfl rfl rfl rfl ?_
         refine h_one 4 (by kernel_rfl) ?_
         refine h_to 4 rfl rfl rfl rfl rfl rfl (s_mk (e := 70) (sz := 1) (by_ := 24) (z := [.slice none 0 0]) tok n n rfl rfl rfl (Nat.le_refl _) (by omega) (by simp only [maxLen]; omega)) (.inr fun _ _ => ⟨(by repeat (first | exact SubO.nil | refine SubO.cons rfl ?_)), rfl, Vw.le.refl _⟩) (fun _ _ => ?_)
         refine h_one 7 (by kernel_rfl) ?_
         refine h_yield 7 rfl rfl rfl rfl (y_val tok rfl) ?_
         refine h_one 9 (by kernel_rfl) ?_
         refine h_store 9 tok rfl rfl rfl rfl (by repeat' first | exact trivial | exact rfl | apply And.intro) (.inr ⟨(by repeat (first | exact SubO.nil | refine SubO.cons rfl ?_)), rfl, Vw.le.refl _⟩) ?_
         refine h_done [4, 6] (by kernel_rfl) rfl ?_
         refine k_swap 2 3 rfl ?_
         refine k_swap 3 5 rfl ?_
         refine k_swap 4 5 rfl ?_
         exact x_meet () trivial (by repeat (first | exact SubF.nil | refine SubF.cons rfl ?_)) (by repeat (first | exact SubO.nil | refine SubO.cons rfl ?_)) rfl (Vw.le.refl _)
       ·
        refine h_to 4 rfl rfl rfl rfl rfl rfl (s_mk (e := 70) (sz := 1) (by_ := 24) (z := [.slice none 0 0]) tok n n rfl rfl rfl (Nat.le_refl _) (by omega) (by simp only [maxLen]; omega)) (.inr fun _ _ => ⟨(by repeat (first | exact SubO.nil | refine SubO.cons rfl ?_)), rfl, Vw.le.refl _⟩) (fun _ _ => ?_)
        refine h_two 2 8 (by kernel_rfl) ?_ ?_
        ·
         refine h_to 2 rfl rfl rfl rfl rfl rfl (s_app (e := 9) (sz := 1) (by_ := 16) (m := 0) (k := T.length) (olds := []) tok (T.flatMap encS) rfl (fun E w1 hm => hT.sl.src hm.get) (fun _ _ _ => str_ones T) (by omega)) (.inr fun _ _ => ⟨(by repeat (first | exact SubO.nil | refine SubO.cons rfl ?_)), rfl, Vw.le.refl _⟩) (fun _ _ => ?_)
         refine h_two 7 8 (by kernel_rfl) ?_ ?_
         ·
          refine h_yield 7 rfl rfl rfl rfl (y_val tok rfl) ?_
          refine h_one 8 (by kernel_rfl) ?_
          refine h_new 8 tok rfl rfl rfl rfl rfl rfl ?_
          refine h_one 9 (by kernel_rfl) ?_
          refine h_store 9 tok rfl rfl rfl rfl (by repeat' first | exact trivial | exact rfl | apply And.intro) (.inr ⟨(by repeat (first | exact SubO.nil | refine SubO.cons rfl ?_)), rfl, Vw.le.refl _⟩) ?_
          refine h_done [4, 6] (by kernel_rfl) rfl ?_
          refine k_swap 2 4 rfl ?_
          exact x_meet () trivial (by repeat (first | exact SubF.nil | refine SubF.cons rfl ?_)) (by repeat (first | exact SubO.nil | refine SubO.cons rfl ?_)) rfl (Vw.le.refl _)
         ·
          refine h_new 8 tok rfl rfl rfl rfl rfl rfl ?_
          refine h_one 7 (by kernel_rfl) ?_
          refine h_yield 7 rfl rfl rfl rfl (y_val tok rfl) ?_
          refine h_one 9 (by kernel_rfl) ?_
          refine h_store 9 tok rfl rfl rfl rfl (by repeat' first | exact trivial | exact rfl | apply And.intro) (.inr ⟨(by repeat (first | exact SubO.nil | refine SubO.cons rfl ?_)), rfl, Vw.le.refl _⟩) ?_
          refine h_done [4, 6] (by kernel_rfl) rfl ?_
          refine k_swap 2 4 rfl ?_
          exact x_meet () trivial (by repeat (first | exact SubF.nil | refine SubF.cons rfl ?_)) (by repeat (first | exact SubO.nil | refine SubO.cons rfl ?_)) rfl (Vw.le.refl _)
        ·
         refine h_new 8 tok rfl rfl rfl rfl rfl rfl ?_
         refine h_one 2 (by kernel_rfl) ?_
         refine h_to 2 rfl rfl rfl rfl rfl rfl (s_app (e := 9) (sz := 1) (by_ := 16) (m := 0) (k := T.length) (olds := []) tok (T.flatMap encS) rfl (fun E w1 hm => hT.sl.src hm.get) (fun _ _ _ => str_ones T) (by omega)) (.inr fun _ _ => ⟨(by repeat (first | exact SubO.nil | refine SubO.cons rfl ?_)), rfl, Vw.le.refl _⟩) (fun _ _ => ?_)
         refine h_one 7 (by kernel_rfl) ?_
         refine h_yield 7 rfl rfl rfl rfl (y_val tok rfl) ?_
         refine h_one 9 (by kernel_rfl) ?_
         refine h_store 9 tok rfl rfl rfl rfl (by repeat' first | exact trivial | exact rfl | apply And.intro) (.inr ⟨(by repeat (first | exact SubO.nil | refine SubO.cons rfl ?_)), rfl, Vw.le.refl _⟩) ?_
         refine h_done [4, 6] (by kernel_rfl) rfl ?_
         refine k_swap 2 5 rfl ?_
         refine k_swap 4 5 rfl ?_
         exact x_meet () trivial (by repeat (first | exact SubF.nil | refine SubF.cons rfl ?_)) (by repeat (first | exact SubO.nil | refine SubO.cons rfl ?_)) rfl (Vw.le.refl _)
       ·
        refine h_new 8 tok rfl rfl rfl rfl rfl rfl ?_
        refine h_two 2 4 (by kernel_rfl) ?_ ?_
        ·
         refine h_to 2 rfl rfl rfl rfl rfl rfl (s_app (e := 9) (sz := 1) (by_ := 16) (m := 0) (k := T.length) (olds := []) tok (T.flatMap encS) rfl (fun E w1 hm => hT.sl.src hm.get) (fun _ _ _ => str_ones T) (by omega)) (.inr fun _ _ => ⟨(by repeat (first | exact SubO.nil | refine SubO.cons rfl ?_)), rfl, Vw.le.refl _⟩) (fun _ _ => ?_)
         refine h_one 4 (by kernel_rfl) ?_
         refine h_to 4 rfl rfl rfl rfl rfl rfl (s_mk (e := 70) (sz := 1) (by_ := 24) (z := [.slice none 0 0]) tok n n rfl rfl rfl (Nat.le_refl _) (by omega) (by simp only [maxLen]; omega)) (.inr fun _ _ => ⟨(by repeat (first | exact SubO.nil | refine SubO.cons rfl ?_)), rfl, Vw.le.refl _⟩) (fun _ _ => ?_)
         refine h_one 7 (by kernel_rfl) ?_
         refine h_yield 7 rfl rfl rfl rfl (y_val tok rfl) ?_
         refine h_one 9 (by kernel_rfl) ?_
         refine h_store 9 tok rfl rfl rfl rfl (by repeat' first | exact trivial | exact rfl | apply And.intro) (.inr ⟨(by repeat (first | exact SubO.nil | refine SubO.cons rfl ?_)), rfl, Vw.le.refl _⟩) ?_
         refine h_done [4, 6] (by kernel_rfl) rfl ?_
         refine k_swap 2 4 rfl ?_
         refine k_swap 3 5 rfl ?_
         exact x_meet () trivial (by repeat (first | exact SubF.nil | refine SubF.cons rfl ?_)) (by repeat (first | exact SubO.nil | refine SubO.cons rfl ?_)) rfl (Vw.le.refl _)
        ·
         refine h_to 4 rfl rfl rfl rfl rfl rfl (s_mk (e := 70) (sz := 1) (by_ := 24) (z := [.slice none 0 0]) tok n n rfl rfl rfl (Nat.le_refl _) (by omega) (by simp only [maxLen]; omega)) (.inr fun _ _ => ⟨(by repeat (first | exact SubO.nil | refine SubO.cons rfl ?_)), rfl, Vw.le.refl _⟩) (fun _ _ => ?_)
         refine h_one 2 (by kernel_rfl) ?_
         refine h_to 2 rfl rfl rfl rfl rfl rfl (s_app (e := 9) (sz := 1) (by_ := 16) (m := 0) (k := T.length) (olds := []) tok (T.flatMap encS) rfl (fun E w1 hm => hT.sl.src hm.get) (fun _ _ _ => str_ones T) (by omega)) (.inr fun _ _ => ⟨(by repeat (first | exact SubO.nil | refine SubO.cons rfl ?_)), rfl, Vw.le.refl _⟩) (fun _ _ => ?_)
         refine h_one 7 (by kernel_rfl) ?_
         refine h_yield 7 rfl rfl rfl rfl (y_val tok rfl) ?_
         refine h_one 9 (by kernel_rfl) ?_
         refine h_store 9 tok rfl rfl rfl rfl (by repeat' first | exact trivial | exact rfl | apply And.intro) (.inr ⟨(by repeat (first | exact SubO.nil | refine SubO.cons rfl ?_)), rfl, Vw.le.refl _⟩) ?_
         refine h_done [4, 6] (by kernel_rfl) rfl ?_
         refine k_swap 2 5 rfl ?_
         refine k_swap 3 4 rfl ?_
         refine k_swap 4 5 rfl ?_
         exact x_meet () trivial (by repeat (first | exact SubF.nil | refine SubF.cons rfl ?_)) (by repeat (first | exact SubO.nil | refine SubO.cons rfl ?_)) rfl (Vw.le.refl _)
      ·
       refine h_new 8 tok rfl rfl rfl rfl rfl rfl ?_
       refine h_three 2 4 6 (by kernel_rfl) ?_ ?_ ?_
       ·
        refine h_to 2 rfl rfl rfl rfl rfl rfl (s_app (e := 9) (sz := 1) (by_ := 16) (m := 0) (k := T.length) (olds := []) tok (T.flatMap encS) rfl (fun E w1 hm => hT.sl.src hm.get) (fun _ _ _ => str_ones T) (by omega)) (.inr fun _ _ => ⟨(by repeat (first | exact SubO.nil | refine SubO.cons rfl ?_)), rfl, Vw.le.refl _⟩) (fun _ _ => ?_)
        refine h_two 4 6 (by kernel_rfl) ?_ ?_
        ·
         refine h_to 4 rfl rfl rfl rfl rfl rfl (s_mk (e := 70) (sz := 1) (by_ := 24) (z := [.slice none 0 0]) tok n n rfl rfl rfl (Nat.le_refl _) (by omega) (by simp only [maxLen]; omega)) (.inr fun _ _ => ⟨(by repeat (first | exact SubO.nil | refine SubO.cons rfl ?_)), rfl, Vw.le.refl _⟩) (fun _ _ => ?_)
         refine h_one 6 (by kernel_rfl) ?_
         refine h_to 6 rfl rfl rfl rfl rfl rfl (s_mk (e := 3) (sz := 1) (by_ := 8) (z := [I 0]) tok n n rfl rfl rfl (Nat.le_refl _) (by omega) (by simp only [maxLen]; omega)) (.inr fun _ _ => ⟨(by repeat (first | exact SubO.nil | refine SubO.cons rfl ?_)), rfl, Vw.le.refl _⟩) (fun _ _ => ?_)
         refine h_one 7 (by kernel_rfl) ?_
         refine h_yield 7 rfl rfl rfl rfl (y_val tok rfl) ?_
         refine h_one 9 (by kernel_rfl) ?_
         refine h_store 9 tok rfl rfl rfl rfl (by repeat' first | exact trivial | exact rfl | apply And.intro) (.inr ⟨(by repeat (first | exact SubO.nil | refine SubO.cons rfl ?_)), rfl, Vw.le.refl _⟩) ?_
         refine h_done [4, 6] (by kernel_rfl) rfl ?_
         refine k_swap 2 3 rfl ?_
         refine k_swap 3 4 rfl ?_
         refine k_swap 4 5 rfl ?_
         exact x_meet () trivial (by repeat (first | exact SubF.nil | refine SubF.cons rfl ?_)) (by repeat (first | exact SubO.nil | refine SubO.cons rfl ?_)) rfl (Vw.le.refl _)
        ·
         refine h_to 6 rfl rfl rfl rfl rfl rfl (s_mk (e := 3) (sz := 1) (by_ := 8) (z := [I 0]) tok n n rfl rfl rfl (Nat.le_refl _) (by omega) (by simp only [maxLen]; omega)) (.inr fun _ _ => ⟨(by repeat (first | exact SubO.nil | refine SubO.cons rfl ?_)), rfl, Vw.le.refl _⟩) (fun _ _ => ?_)
         refine h_one 4 (by kernel_rfl) ?_
         refine h_to 4 rfl rfl rfl rfl rfl rfl (s_mk (e := 70) (sz := 1) (by_ := 24) (z := [.slice none 0 0]) tok n n rfl rfl rfl (Nat.le_refl _) (by omega) (by simp only [maxLen]; omega)) (.inr fun _ _ => ⟨(by repeat (first | exact SubO.nil | refine SubO.cons rfl ?_)), rfl, Vw.le.refl _⟩) (fun _ _ => ?_)
         refine h_one 7 (by kernel_rfl) ?_
         refine h_yield 7 rfl rfl rfl rfl (y_val tok rfl) ?_
         refine h_one 9 (by kernel_rfl) ?_
         refine h_store 9 tok rfl rfl rfl rfl (by repeat' first | exact trivial | exact rfl | apply And.intro) (.inr ⟨(by repeat (first | exact SubO.nil | refine SubO.cons rfl ?_)), rfl, Vw.le.refl _⟩) ?_
         refine h_done [4, 6] (by kernel_rfl) rfl ?_
         refine k_swap 2 3 rfl ?_
         refine k_swap 3 5 rfl ?_
         exact x_meet () trivial (by repeat (first | exact SubF.nil | refine SubF.cons rfl ?_)) (by repeat (first | exact SubO.nil | refine SubO.cons rfl ?_)) rfl (Vw.le.refl _)
       ·
        refine h_to 4 rfl rfl rfl rfl rfl rfl (s_mk (e := 70) (sz := 1) (by_ := 24) (z := [.slice none 0 0]) tok n n rfl rfl rfl (Nat.le_refl _) (by omega) (by simp only [maxLen]; omega)) (.inr fun _ _ => ⟨(by repeat (first | exact SubO.nil | refine SubO.cons rfl ?_)), rfl, Vw.le.refl _⟩) (fun _ _ => ?_)
        refine h_two 2 6 (by kernel_rfl) ?_ ?_
        ·
         refine h_to 2 rfl rfl rfl rfl rfl rfl (s_app (e := 9) (sz := 1) (by_ := 16) (m := 0) (k := T.length) (olds := []) tok (T.flatMap encS) rfl (fun E w1 hm => hT.sl.src hm.get) (fun _ _ _ => str_ones T) (by omega)) (.inr fun _ _ => ⟨(by repeat (first | exact SubO.nil | refine SubO.cons rfl ?_)), rfl, Vw.le.refl _⟩) (fun _ _ => ?_)
         refine h_one 6 (by kernel_rfl) ?_
         refine h_to 6 rfl rfl rfl rfl rfl rfl (s_mk (e := 3) (sz := 1) (by_ := 8) (z := [I 0]) tok n n rfl rfl rfl (Nat.le_refl _) (by omega) (by simp only [maxLen]; omega)) (.inr fun _ _ => ⟨(by repeat (first | exact SubO.nil | refine SubO.cons rfl ?_)), rfl, Vw.le.refl _⟩) (fun _ _ => ?_)
         refine h_one 7 (by kernel_rfl) ?_
         refine h_yield 7 rfl rfl rfl rfl (y_val tok rfl) ?_
         refine h_one 9 (by kernel_rfl) ?_
         refine h_store 9 tok rfl rfl rfl rfl (by repeat' first | exact trivial | exact rfl | apply And.intro) (.inr ⟨(by repeat (first | exact SubO.nil | refine SubO.cons rfl ?_)), rfl, Vw.le.refl _⟩) ?_
         refine h_done [4, 6] (by kernel_rfl) rfl ?_
         refine k_swap 2 4 rfl ?_
         refine k_swap 4 5 rfl ?_
         exact x_meet () trivial (by repeat (first | exact SubF.nil | refine SubF.cons rfl ?_)) (by repeat (first | exact SubO.nil | refine SubO.cons rfl ?_)) rfl (Vw.le.refl _)
        ·
         refine h_to 6 rfl rfl rfl rfl rfl rfl (s_mk (e := 3) (sz := 1) (by_ := 8) (z := [I 0]) tok n n rfl rfl rfl (Nat.le_refl _) (by omega) (by simp only [maxLen]; omega)) (.inr fun _ _ => ⟨(by repeat (first | exact SubO.nil | refine SubO.cons rfl ?_)), rfl, Vw.le.refl _⟩) (fun _ _ => ?_)
         refine h_one 2 (by kernel_rfl) ?_
         refine h_to 2 rfl rfl rfl rfl rfl rfl (s_app (e := 9) (sz := 1) (by_ := 16) (m := 0) (k := T.length) (olds := []) tok (T.flatMap encS) rfl (fun E w1 hm => hT.sl.src hm.get) (fun _ _ _ => str_ones T) (by omega)) (.inr fun _ _ => ⟨(by repeat (first | exact SubO.nil | refine SubO.cons rfl ?_)), rfl, Vw.le.refl _⟩) (fun _ _ => ?_)
         refine h_one 7 (by kernel_rfl) ?_
         refine h_yield 7 rfl rfl rfl rfl (y_val tok rfl) ?_
         refine h_one 9 (by kernel_rfl) ?_
         refine h_store 9 tok rfl rfl rfl rfl (by repeat' first | exact trivial | exact rfl | apply And.intro) (.inr ⟨(by repeat (first | exact SubO.nil | refine SubO.cons rfl ?_)), rfl, Vw.le.refl _⟩) ?_
         refine h_done [4, 6] (by kernel_rfl) rfl ?_
         refine k_swap 2 5 rfl ?_
         exact x_meet () trivial (by repeat (first | exact SubF.nil | refine SubF.cons rfl ?_)) (by repeat (first | exact SubO.nil | refine SubO.cons rfl ?_)) rfl (Vw.le.refl _)
       ·
        refine h_to 6 rfl rfl rfl rfl rfl rfl (s_mk (e := 3) (sz := 1) (by_ := 8) (z := [I 0]) tok n n rfl rfl rfl (Nat.le_refl _) (by omega) (by simp only [maxLen]; omega)) (.inr fun _ _ => ⟨(by repeat (first | exact SubO.nil | refine SubO.cons rfl ?_)), rfl, Vw.le.refl _⟩) (fun _ _ => ?_)
        refine h_two 2 4 (by kernel_rfl) ?_ ?_
        ·
         refine h_to 2 rfl rfl rfl rfl rfl rfl (s_app (e := 9) (sz := 1) (by_ := 16) (m := 0) (k := T.length) (olds := []) tok (T.flatMap encS) rfl (fun E w1 hm => hT.sl.src hm.get) (fun _ _ _ => str_ones T) (by omega)) (.inr fun _ _ => ⟨(by repeat (first | exact SubO.nil | refine SubO.cons rfl ?_)), rfl, Vw.le.refl _⟩) (fun _ _ => ?_)
         refine h_one 4 (by kernel_rfl) ?_
         refine h_to 4 rfl rfl rfl rfl rfl rfl (s_mk (e := 70) (sz := 1) (by_ := 24) (z := [.slice none 0 0]) tok n n rfl rfl rfl (Nat.le_refl _) (by omega) (by simp only [maxLen]; omega)) (.inr fun _ _ => ⟨(by repeat (first | exact SubO.nil | refine SubO.cons rfl ?_)), rfl, Vw.le.refl _⟩) (fun _ _ => ?_)
         refine h_one 7 (by kernel_rfl) ?_
         refine h_yield 7 rfl rfl rfl rfl (y_val tok rfl) ?_
         refine h_one 9 (by kernel_rfl) ?_
         refine h_store 9 tok rfl rfl rfl rfl (by repeat' first | exact trivial | exact rfl | apply And.intro) (.inr ⟨(by repeat (first | exact SubO.nil | refine SubO.cons rfl ?_)), rfl, Vw.le.refl _⟩) ?_
         refine h_done [4, 6] (by kernel_rfl) rfl ?_
         refine k_swap 2 4 rfl ?_
         refine k_swap 3 5 rfl ?_
         refine k_swap 4 5 rfl ?_
         exact x_meet () trivial (by repeat (first | exact SubF.nil | refine SubF.cons rfl ?_)) (by repeat (first | exact SubO.nil | refine SubO.cons rfl ?_)) rfl (Vw.le.refl _)
        ·
         refine h_to 4 rfl rfl rfl rfl rfl rfl (s_mk (e := 70) (sz := 1) (by_ := 24) (z := [.slice none 0 0]) tok n n rfl rfl rfl (Nat.le_refl _) (by omega) (by simp only [maxLen]; omega)) (.inr fun _ _ => ⟨(by repeat (first | exact SubO.nil | refine SubO.cons rfl ?_)), rfl, Vw.le.refl _⟩) (fun _ _ => ?_)
         refine h_one 2 (by kernel_rfl) ?_
         refine h_to 2 rfl rfl rfl rfl rfl rfl (s_app (e := 9) (sz := 1) (by_ := 16) (m := 0) (k := T.length) (olds := []) tok (T.flatMap encS) rfl (fun E w1 hm => hT.sl.src hm.get) (fun _ _ _ => str_ones T) (by omega)) (.inr fun _ _ => ⟨(by repeat (first | exact SubO.nil | refine SubO.cons rfl ?_)), rfl, Vw.le.refl _⟩) (fun _ _ => ?_)
         refine h_one 7 (by kernel_rfl) ?_
         refine h_yield 7 rfl rfl rfl rfl (y_val tok rfl) ?_
         refine h_one 9 (by kernel_rfl) ?_
         refine h_store 9 tok rfl rfl rfl rfl (by repeat' first | exact trivial | exact rfl | apply And.intro) (.inr ⟨(by repeat (first | exact SubO.nil | refine SubO.cons rfl ?_)), rfl, Vw.le.refl _⟩) ?_
         refine h_done [4, 6] (by kernel_rfl) rfl ?_
         refine k_swap 2 5 rfl ?_
         refine k_swap 3 4 rfl ?_
         exact x_meet () trivial (by repeat (first | exact SubF.nil | refine SubF.cons rfl ?_)) (by repeat (first | exact SubO.nil | refine SubO.cons rfl ?_)) rfl (Vw.le.refl _)
     ·
      refine h_to 4 rfl rfl rfl rfl rfl rfl (s_mk (e := 70) (sz := 1) (by_ := 24) (z := [.slice none 0 0]) tok n n rfl rfl rfl (Nat.le_refl _) (by omega) (by simp only [maxLen]; omega)) (.inr fun _ _ => ⟨(by repeat (first | exact SubO.nil | refine SubO.cons rfl ?_)), rfl, Vw.le.refl _⟩) (fun _ _ => ?_)
      refine h_three 0 6 8 (by kernel_rfl) ?_ ?_ ?_
      ·
       refine h_to 0 rfl rfl rfl rfl rfl rfl (s_bs tok 1 rfl rfl rfl) (.inr fun _ _ => ⟨(by repeat (first | exact SubO.nil | refine SubO.cons rfl ?_)), rfl, Vw.le.refl _⟩) (fun _ _ => ?_)
       refine h_three 2 6 8 (by kernel_rfl) ?_ ?_ ?_
       ·
        refine h_to 2 rfl rfl rfl rfl rfl rfl (s_app (e := 9) (sz := 1) (by_ := 16) (m := 0) (k := T.length) (olds := []) tok (T.flatMap encS) rfl (fun E w1 hm => hT.sl.src hm.get) (fun _ _ _ => str_ones T) (by omega)) (.inr fun _ _ => ⟨(by repeat (first | exact SubO.nil | refine SubO.cons rfl ?_)), rfl, Vw.le.refl _⟩) (fun _ _ => ?_)
        refine h_two 6 8 (by kernel_rfl) ?_ ?_
        ·
         refine h_to 6 rfl rfl rfl rfl rfl rfl (s_mk (e := 3) (sz := 1) (by_ := 8) (z := [I 0]) tok n n rfl rfl rfl (Nat.le_refl _) (by omega) (by simp only [maxLen]; omega)) (.inr fun _ _ => ⟨(by repeat (first | exact SubO.nil | refine SubO.cons rfl ?_)), rfl, Vw.le.refl _⟩) (fun _ _ => ?_)
         refine h_two 7 8 (by kernel_rfl) ?_ ?_
         ·
          refine h_yield 7 rfl rfl rfl rfl (y_val tok rfl) ?_
          refine h_one 8 (by kernel_rfl) ?_
          refine h_new 8 tok rfl rfl rfl rfl rfl rfl ?_
          refine h_one 9 (by kernel_rfl) ?_
          refine h_store 9 tok rfl rfl rfl rfl (by repeat' first | exact trivial | exact rfl | apply And.intro) (.inr ⟨(by repeat (first | exact SubO.nil | refine SubO.cons rfl ?_)), rfl, Vw.le.refl _⟩) ?_
          refine h_done [4, 6] (by kernel_rfl) rfl ?_
          refine k_swap 1 2 rfl ?_
          refine k_swap 2 3 rfl ?_
          exact x_meet () trivial (by repeat (first | exact SubF.nil | refine SubF.cons rfl ?_)) (by repeat (first | exact SubO.nil | refine SubO.cons rfl ?_)) rfl (Vw.le.refl _)
         ·
          refine h_new 8 tok rfl rfl rfl rfl rfl rfl ?_
          refine h_one 7 (by kernel_rfl) ?_
          refine h_yield 7 rfl rfl rfl rfl (y_val tok rfl) ?_
          refine h_one 9 (by kernel_rfl) ?_
          refine h_store 9 tok rfl rfl rfl rfl (by repeat' first | exact trivial | exact rfl | apply And.intro) (.inr ⟨(by repeat (first | exact SubO.nil | refine SubO.cons rfl ?_)), rfl, Vw.le.refl _⟩) ?_
          refine h_done [4, 6] (by kernel_rfl) rfl ?_
          refine k_swap 1 2 rfl ?_
          refine k_swap 2 3 rfl ?_
          exact x_meet () trivial (by repeat (first | exact SubF.nil | refine SubF.cons rfl ?_)) (by repeat (first | exact SubO.nil | refine SubO.cons rfl ?_)) rfl (Vw.le.refl _)
        ·
         refine h_new 8 tok rfl rfl rfl rfl rfl rfl ?_
         refine h_one 6 (by kernel_rfl) ?_
         refine h_to 6 rfl rfl rfl rfl rfl rfl (s_mk (e := 3) (sz := 1) (by_ := 8) (z := [I 0]) tok n n rfl rfl rfl (Nat.le_refl _) (by omega) (by simp only [maxLen]; omega)) (.inr fun _ _ => ⟨(by repeat (first | exact SubO.nil | refine SubO.cons rfl ?_)), rfl, Vw.le.refl _⟩) (fun _ _ => ?_)
         refine h_one 7 (by kernel_rfl) ?_
         refine h_yield 7 rfl rfl rfl rfl (y_val tok rfl) ?_
         refine h_one 9 (by kernel_rfl) ?_
         refine h_store 9 tok rfl rfl rfl rfl (by repeat' first | exact trivial | exact rfl | apply And.intro) (.inr ⟨(by repeat (first | exact SubO.nil | refine SubO.cons rfl ?_)), rfl, Vw.le.refl _⟩) ?_
         refine h_done [4, 6] (by kernel_rfl) rfl ?_
         refine k_swap 1 2 rfl ?_
         refine k_swap 2 3 rfl ?_
         refine k_swap 4 5 rfl ?_
         exact x_meet () trivial (by repeat (first | exact SubF.nil | refine SubF.cons rfl ?_)) (by repeat (first | exact SubO.nil | refine SubO.cons rfl ?_)) rfl (Vw.le.refl _)
       ·
        refine h_to 6 rfl rfl rfl rfl rfl rfl (s_mk (e := 3) (sz := 1) (by_ := 8) (z := [I 0]) tok n n rfl rfl rfl (Nat.le_refl _) (by omega) (by simp only [maxLen]; omega)) (.inr fun _ _ => ⟨(by repeat (first | exact SubO.nil | refine SubO.cons rfl ?_)), rfl, Vw.le.refl _⟩) (fun _ _ => ?_)
        refine h_two 2 8 (by kernel_rfl) ?_ ?_
        ·
         refine h_to 2 rfl rfl rfl rfl rfl rfl (s_app (e := 9) (sz := 1) (by_ := 16) (m := 0) (k := T.length) (olds := []) tok (T.flatMap encS) rfl (fun E w1 hm => hT.sl.src hm.get) (fun _ _ _ => str_ones T) (by omega)) (.inr fun _ _ => ⟨(by repeat (first | exact SubO.nil | refine SubO.cons rfl ?_)), rfl, Vw.le.refl _⟩) (fun _ _ => ?_)
         refine h_two 7 8 (by kernel_rfl) ?_ ?_
         ·
          refine h_yield 7 rfl rfl rfl rfl (y_val tok rfl) ?_
          refine h_one 8 (by kernel_rfl) ?_
          refine h_new 8 tok rfl rfl rfl rfl rfl rfl ?_
          refine h_one 9 (by kernel_rfl) ?_
          refine h_store 9 tok rfl rfl rfl rfl (by repeat' first | exact trivial | exact rfl | apply And.intro) (.inr ⟨(by repeat (first | exact SubO.nil | refine SubO.cons rfl ?_)), rfl, Vw.le.refl _⟩) ?_
          refine h_done [4, 6] (by kernel_rfl) rfl ?_
          refine k_swap 1 2 rfl ?_
          refine k_swap 2 4 rfl ?_
          refine k_swap 3 4 rfl ?_
          exact x_meet () trivial (by repeat (first | exact SubF.nil | refine SubF.cons rfl ?_)) (by repeat (first | exact SubO.nil | refine SubO.cons rfl ?_)) rfl (Vw.le.refl _)
         ·
          refine h_new 8 tok rfl rfl rfl rfl rfl rfl ?_
          refine h_one 7 (by kernel_rfl) ?_
          refine h_yield 7 rfl rfl rfl rfl (y_val tok rfl) ?_
          refine h_one 9 (by kernel_rfl) ?_
          refine h_store 9 tok rfl rfl rfl rfl (by repeat' first | exact trivial | exact rfl | apply And.intro) (.inr ⟨(by repeat (first | exact SubO.nil | refine SubO.cons rfl ?_)), rfl, Vw.le.refl _⟩) ?_
          refine h_done [4, 6] (by kernel_rfl) rfl ?_
          refine k_swap 1 2 rfl ?_
          refine k_swap 2 4 rfl ?_
          refine k_swap 3 4 rfl ?_
          exact x_meet () trivial (by repeat (first | exact SubF.nil | refine SubF.cons rfl ?_)) (by repeat (first | exact SubO.nil | refine SubO.cons rfl ?_)) rfl (Vw.le.refl _)
        ·
         refine h_new 8 tok rfl rfl rfl rfl rfl rfl ?_
         refine h_one 2 (by kernel_rfl) ?_
         refine h_to 2 rfl rfl rfl rfl rfl rfl (s_app (e := 9) (sz := 1) (by_ := 16) (m := 0) (k := T.length) (olds := []) tok (T.flatMap encS) rfl (fun E w1 hm => hT.sl.src hm.get) (fun _ _ _ => str_ones T) (by omega)) (.inr fun _ _ => ⟨(by repeat (first | exact SubO.nil | refine SubO.cons rfl ?_)), rfl, Vw.le.refl _⟩) (fun _ _ => ?_)
         refine h_one 7 (by kernel_rfl) ?_
         refine h_yield 7 rfl rfl rfl rfl (y_val tok rfl) ?_
         refine h_one 9 (by kernel_rfl) ?_
         refine h_store 9 tok rfl rfl rfl rfl (by repeat' first | exact trivial | exact rfl | apply And.intro) (.inr ⟨(by repeat (first | exact SubO.nil | refine SubO.cons rfl ?_)), rfl, Vw.le.refl _⟩) ?_
         refine h_done [4, 6] (by kernel_rfl) rfl ?_
         refine k_swap 1 2 rfl ?_
         refine k_swap 2 5 rfl ?_
         refine k_swap 3 5 rfl ?_
         refine k_swap 4 5 rfl ?_
         exact x_meet () trivial (by repeat (first | exact SubF.nil | refine SubF.cons rfl ?_)) (by repeat (first | exact SubO.nil | refine SubO.cons rfl ?_)) rfl (Vw.le.refl _)
       ·
        refine h_new 8 tok rfl rfl rfl rfl rfl rfl ?_
        refine h_two 2 6 (by kernel_rfl) ?_ ?_
        ·
         refine h_to 2 rfl rfl rfl rfl rfl rfl (s_app (e := 9) (sz := 1) (by_ := 16) (m := 0) (k := T.length) (olds := []) tok (T.flatMap encS) rfl (fun E w1 hm => hT.sl.src hm.get) (fun _ _ _ => str_ones T) (by omega)) (.inr fun _ _ => ⟨(by repeat (first | exact SubO.nil | refine SubO.cons rfl ?_)), rfl, Vw.le.refl _⟩) (fun _ _ => ?_)
         refine h_one 6 (by kernel_rfl) ?_
         refine h_to 6 rfl rfl rfl rfl rfl rfl (s_mk (e := 3) (sz := 1) (by_ := 8) (z := [I 0]) tok n n rfl rfl rfl (Nat.le_refl _) (by omega) (by simp only [maxLen]; omega)) (.inr fun _ _ => ⟨(by repeat (first | exact SubO.nil | refine SubO.cons rfl ?_)), rfl, Vw.le.refl _⟩) (fun _ _ => ?_)
         refine h_one 7 (by kernel_rfl) ?_
         refine h_yield 7 rfl rfl rfl rfl (y_val tok rfl) ?_
         refine h_one 9 (by kernel_rfl) ?_
         refine h_store 9 tok rfl rfl rfl rfl (by repeat' first | exact trivial | exact rfl | apply And.intro) (.inr ⟨(by repeat (first | exact SubO.nil | refine SubO.cons rfl ?_)), rfl, Vw.le.refl _⟩) ?_
         refine h_done [4, 6] (by kernel_rfl) rfl ?_
         refine k_swap 1 2 rfl ?_
         refine k_swap 2 4 rfl ?_
         refine k_swap 3 4 rfl ?_
         refine k_swap 4 5 rfl ?_
         exact x_meet () trivial (by repeat (first | exact SubF.nil | refine SubF.cons rfl ?_)) (by repeat (first | exact SubO.nil | refine SubO.cons rfl ?_)) rfl (Vw.le.refl _)
        ·
         refine h_to 6 rfl rfl rfl rfl rfl rfl (s_mk (e := 3) (sz := 1) (by_ := 8) (z := [I 0]) tok n n rfl rfl rfl (Nat.le_refl _) (by omega) (by simp only [maxLen]; omega)) (.inr fun _ _ => ⟨(by repeat (first | exact SubO.nil | refine SubO.cons rfl ?_)), rfl, Vw.le.refl _⟩) (fun _ _ => ?_)
         refine h_one 2 (by kernel_rfl) ?_
         refine h_to 2 rfl rfl rfl rfl rfl rfl (s_app (e := 9) (sz := 1) (by_ := 16) (m := 0) (k := T.length) (olds := []) tok (T.flatMap encS) rfl (fun E w1 hm => hT.sl.src hm.get) (fun _ _ _ => str_ones T) (by omega)) (.inr fun _ _ => ⟨(by repeat (first | exact SubO.nil | refine SubO.cons rfl ?_)), rfl, Vw.le.refl _⟩) (fun _ _ => ?_)
         refine h_one 7 (by kernel_rfl) ?_
         refine h_yield 7 rfl rfl rfl rfl (y_val tok rfl) ?_
         refine h_one 9 (by kernel_rfl) ?_
         refine h_store 9 tok rfl rfl rfl rfl (by repeat' first | exact trivial | exact rfl | apply And.intro) (.inr ⟨(by repeat (first | exact SubO.nil | refine SubO.cons rfl ?_)), rfl, Vw.le.refl _⟩) ?_
         refine h_done [4, 6] (by kernel_rfl) rfl ?_
         refine k_swap 1 2 rfl ?_
         refine k_swap 2 5 rfl ?_
         refine k_swap 3 5 rfl ?_
         exact x_meet () trivial (by repeat (first | exact SubF.nil | refine SubF.cons rfl ?_)) (by repeat (first | exact SubO.nil | refine SubO.cons rfl ?_)) rfl (Vw.le.refl _)
      ·
       refine h_to 6 rfl rfl rfl rfl rfl rfl (s_mk (e := 3) (sz := 1) (by_ := 8) (z := [I 0]) tok n n rfl rfl rfl (Nat.le_refl _) (by omega) (by simp only [maxLen]; omega)) (.inr fun _ _ => ⟨(by repeat (first | exact SubO.nil | refine SubO.cons rfl ?_)), rfl, Vw.le.refl _⟩) (fun _ _ => ?_)
       refine h_two 0 8 (by kernel_rfl) ?_ ?_
       ·
        refine h_to 0 rfl rfl rfl rfl rfl rfl (s_bs tok 1 rfl rfl rfl) (.inr fun _ _ => ⟨(by repeat (first | exact SubO.nil | refine SubO.cons rfl ?_)), rfl, Vw.le.refl _⟩) (fun _ _ => ?_)
        refine h_two 2 8 (by kernel_rfl) ?_ ?_
        ·
         refine h_to 2 rfl rfl rfl rfl rfl rfl (s_app (e := 9) (sz := 1) (by_ := 16) (m := 0) (k := T.length) (olds := []) tok (T.flatMap encS) rfl (fun E w1 hm => hT.sl.src hm.get) (fun _ _ _ => str_ones T) (by omega)) (.inr fun _ _ => ⟨(by repeat (first | exact SubO.nil | refine SubO.cons rfl ?_)), rfl, Vw.le.refl _⟩) (fun _ _ => ?_)
         refine h_two 7 8 (by kernel_rfl) ?_ ?_
         ·
          refine h_yield 7 rfl rfl rfl rfl (y_val tok rfl) ?_
          refine h_one 8 (by kernel_rfl) ?_
          refine h_new 8 tok rfl rfl rfl rfl rfl rfl ?_
          refine h_one 9 (by kernel_rfl) ?_
          refine h_store 9 tok rfl rfl rfl rfl (by repeat' first | exact trivial | exact rfl | apply And.intro) (.inr ⟨(by repeat (first | exact SubO.nil | refine SubO.cons rfl ?_)), rfl, Vw.le.refl _⟩) ?_
          refine h_done [4, 6] (by kernel_rfl) rfl ?_
          refine k_swap 1 3 rfl ?_
          refine k_swap 2 4 rfl ?_
          exact x_meet () trivial (by repeat (first | exact SubF.nil | refine SubF.cons rfl ?_)) (by repeat (first | exact SubO.nil | refine SubO.cons rfl ?_)) rfl (Vw.le.refl _)
         ·
          refine h_new 8 tok rfl rfl rfl rfl rfl rfl ?_
          refine h_one 7 (by kernel_rfl) ?_
          refine h_yield 7 rfl rfl rfl rfl (y_val tok rfl) ?_
          refine h_one 9 (by kernel_rfl) ?_
          refine h_store 9 tok rfl rfl rfl rfl (by repeat' first | exact trivial | exact rfl | apply And.intro) (.inr ⟨(by repeat (first | exact SubO.nil | refine SubO.cons rfl ?_)), rfl, Vw.le.refl _⟩) ?_
          refine h_done [4, 6] (by kernel_rfl) rfl ?_
          refine k_swap 1 3 rfl ?_
          refine k_swap 2 4 rfl ?_
          exact x_meet () trivial (by repeat (first | exact SubF.nil | refine SubF.cons rfl ?_)) (by repeat (first | exact SubO.nil | refine SubO.cons rfl ?_)) rfl (Vw.le.refl _)
        ·
         refine h_new 8 tok rfl rfl rfl rfl rfl rfl ?_
         refine h_one 2 (by kernel_rfl) ?_
         refine h_to 2 rfl rfl rfl rfl rfl rfl (s_app (e := 9) (sz := 1) (by_ := 16) (m := 0) (k := T.length) (olds := []) tok (T.flatMap encS) rfl (fun E w1 hm => hT.sl.src hm.get) (fun _ _ _ => str_ones T) (by omega)) (.inr fun _ _ => ⟨(by repeat (first | exact SubO.nil | refine SubO.cons rfl ?_)), rfl, Vw.le.refl _⟩) (fun _ _ => ?_)
         refine h_one 7 (by kernel_rfl) ?_
         refine h_yield 7 rfl rfl rfl rfl (y_val tok rfl) ?_
         refine h_one 9 (by kernel_rfl) ?_
         refine h_store 9 tok rfl rfl rfl rfl (by repeat' first | exact trivial | exact rfl | apply And.intro) (.inr ⟨(by repeat (first | exact SubO.nil | refine SubO.cons rfl ?_)), rfl, Vw.le.refl _⟩) ?_
         refine h_done [4, 6] (by kernel_rfl) rfl ?_
         refine k_swap 1 3 rfl ?_
         refine k_swap 2 5 rfl ?_
         refine k_swap 4 5 rfl ?_
         exact x_meet () trivial (by repeat (first | exact SubF.nil | refine SubF.cons rfl ?_)) (by repeat (first | exact SubO.nil | refine SubO.cons rfl ?_)) rfl (Vw.le.refl _)
       ·
        refine h_new 8 tok rfl rfl rfl rfl rfl rfl ?_
        refine h_one 0 (by kernel_rfl) ?_
        refine h_to 0 rfl rfl rfl rfl rfl rfl (s_bs tok 1 rfl rfl rfl) (.inr fun _ _ => ⟨(by repeat (first | exact SubO.nil | refine SubO.cons rfl ?_)), rfl, Vw.le.refl _⟩) (fun _ _ => ?_)
        refine h_one 2 (by kernel_rfl) ?_
        refine h_to 2 rfl rfl rfl rfl rfl rfl (s_app (e := 9) (sz := 1) (by_ := 16) (m := 0) (k := T.length) (olds := []) tok (T.flatMap encS) rfl (fun E w1 hm => hT.sl.src hm.get) (fun _ _ _ => str_ones T) (by omega)) (.inr fun _ _ => ⟨(by repeat (first | exact SubO.nil | refine SubO.cons rfl ?_)), rfl, Vw.le.refl _⟩) (fun _ _ => ?_)
        refine h_one 7 (by kernel_rfl) ?_
        refine h_yield 7 rfl rfl rfl rfl (y_val tok rfl) ?_
        refine h_one 9 (by kernel_rfl) ?_
        refine h_store 9 tok rfl rfl rfl rfl (by repeat' first | exact trivial | exact rfl | apply And.intro) (.inr ⟨(by repeat (first | exact SubO.nil | refine SubO.cons rfl ?_)), rfl, Vw.le.refl _⟩) ?_
        refine h_done [4, 6] (by kernel_rfl) rfl ?_
        refine k_swap 1 4 rfl ?_
        refine k_swap 2 5 rfl ?_
        refine k_swap 3 4 rfl ?_
        refine k_swap 4 5 rfl ?_
        exact x_meet () trivial (by repeat (first | exact SubF.nil | refine SubF.cons rfl ?_)) (by repeat (first | exact SubO.nil | refine SubO.cons rfl ?_)) rfl (Vw.le.refl _)
      ·
       refine h_new 8 tok rfl rfl rfl rfl rfl rfl ?_
       refine h_two 0 6 (by kernel_rfl) ?_ ?_
       ·
        refine h_to 0 rfl rfl rfl rfl rfl rfl (s_bs tok 1 rfl rfl rfl) (.inr fun _ _ => ⟨(by repeat (first | exact SubO.nil | refine SubO.cons rfl ?_)), rfl, Vw.le.refl _⟩) (fun _ _ => ?_)
        refine h_two 2 6 (by kernel_rfl) ?_ ?_
        ·
         refine h_to 2 rfl rfl rfl rfl rfl rfl (s_app (e := 9) (sz := 1) (by_ := 16) (m := 0) (k := T.length) (olds := []) tok (T.flatMap encS) rfl (fun E w1 hm => hT.sl.src hm.get) (fun _ _ _ => str_ones T) (by omega)) (.inr fun _ _ => ⟨(by repeat (first | exact SubO.nil | refine SubO.cons rfl ?_)), rfl, Vw.le.refl _⟩) (fun _ _ => ?_)
         refine h_one 6 (by kernel_rfl) ?_
         refine h_to 6 rfl rfl rfl rfl rfl rfl (s_mk (e := 3) (sz := 1) (by_ := 8) (z := [I 0]) tok n n rfl rfl rfl (Nat.le_refl _) (by omega) (by simp only [maxLen]; omega)) (.inr fun _ _ => ⟨(by repeat (first | exact SubO.nil | refine SubO.cons rfl ?_)), rfl, Vw.le.refl _⟩) (fun _ _ => ?_)
         refine h_one 7 (by kernel_rfl) ?_
         refine h_yield 7 rfl rfl rfl rfl (y_val tok rfl) ?_
         refine h_one 9 (by kernel_rfl) ?_
         refine h_store 9 tok rfl rfl rfl rfl (by repeat' first | exact trivial | exact rfl | apply And.intro) (.inr ⟨(by repeat (first | exact SubO.nil | refine SubO.cons rfl ?_)), rfl, Vw.le.refl _⟩) ?_
         refine h_done [4, 6] (by kernel_rfl) rfl ?_
         refine k_swap 1 3 rfl ?_
         refine k_swap 2 4 rfl ?_
         refine k_swap 4 5 rfl ?_
         exact x_meet () trivial (by repeat (first | exact SubF.nil | refine SubF.cons rfl ?_)) (by repeat (first | exact SubO.nil | refine SubO.cons rfl ?_)) rfl (Vw.le.refl _)
        ·
         refine h_to 6 rfl rfl rfl rfl rfl rfl (s_mk (e := 3) (sz := 1) (by_ := 8) (z := [I 0]) tok n n rfl rfl rfl (Nat.le_refl _) (by omega) (by simp only [maxLen]; omega)) (.inr fun _ _ => ⟨(by repeat (first | exact SubO.nil | refine SubO.cons rfl ?_)), rfl, Vw.le.refl _⟩) (fun _ _ => ?_)
         refine h_one 2 (by kernel_rfl) ?_
         refine h_to 2 rfl rfl rfl rfl rfl rfl (s_app (e := 9) (sz := 1) (by_ := 16) (m := 0) (k := T.length) (olds := []) tok (T.flatMap encS) rfl (fun E w1 hm => hT.sl.src hm.get) (fun _ _ _ => str_ones T) (by omega)) (.inr fun _ _ => ⟨(by repeat (first | exact SubO.nil | refine SubO.cons rfl ?_)), rfl, Vw.le.refl _⟩) (fun _ _ => ?_)
         refine h_one 7 (by kernel_rfl) ?_
         refine h_yield 7 rfl rfl rfl rfl (y_val tok rfl) ?_
         refine h_one 9 (by kernel_rfl) ?_
         refine h_store 9 tok rfl rfl rfl rfl (by repeat' first | exact trivial | exact rfl | apply And.intro) (.inr ⟨(by repeat (first | exact SubO.nil | refine SubO.cons rfl ?_)), rfl, Vw.le.refl _⟩) ?_
         refine h_done [4, 6] (by kernel_rfl) rfl ?_
         refine k_swap 1 3 rfl ?_
         refine k_swap 2 5 rfl ?_
         exact x_meet () trivial (by repeat (first | exact SubF.nil | refine SubF.cons rfl ?_)) (by repeat (first | exact SubO.nil | refine SubO.cons rfl ?_)) rfl (Vw.le.refl _)
       ·
        refine h_to 6 rfl rfl rfl rfl rfl rfl (s_mk (e := 3) (sz := 1) (by_ := 8) (z := [I 0]) tok n n rfl rfl rfl (Nat.le_refl _) (by omega) (by simp only [maxLen]; omega)) (.inr fun _ _ => ⟨(by repeat (first | exact SubO.nil | refine SubO.cons rfl ?_)), rfl, Vw.le.refl _⟩) (fun _ _ => ?_)
        refine h_one 0 (by kernel_rfl) ?_
        refine h_to 0 rfl rfl rfl rfl rfl rfl (s_bs tok 1 rfl rfl rfl) (.inr fun _ _ => ⟨(by repeat (first | exact SubO.nil | refine SubO.cons rfl ?_)), rfl, Vw.le.refl _⟩) (fun _ _ => ?_)
        refine h_one 2 (by kernel_rfl) ?_
        refine h_to 2 rfl rfl rfl rfl rfl rfl (s_app (e := 9) (sz := 1) (by_ := 16) (m := 0) (k := T.length) (olds := []) tok (T.flatMap encS) rfl (fun E w1 hm => hT.sl.src hm.get) (fun _ _ _ => str_ones T) (by omega)) (.inr fun _ _ => ⟨(by repeat (first | exact SubO.nil | refine SubO.cons rfl ?_)), rfl, Vw.le.refl _⟩) (fun _ _ => ?_)
        refine h_one 7 (by kernel_rfl) ?_
        refine h_yield 7 rfl rfl rfl rfl (y_val tok rfl) ?_
        refine h_one 9 (by kernel_rfl) ?_
        refine h_store 9 tok rfl rfl rfl rfl (by repeat' first | exact trivial | exact rfl | apply And.intro) (.inr ⟨(by repeat (first | exact SubO.nil | refine SubO.cons rfl ?_)), rfl, Vw.le.refl _⟩) ?_
        refine h_done [4, 6] (by kernel_rfl) rfl ?_
        refine k_swap 1 4 rfl ?_
        refine k_swap 2 5 rfl ?_
        refine k_swap 3 4 rfl ?_
        exact x_meet () trivial (by repeat (first | exact SubF.nil | refine SubF.cons rfl ?_)) (by repeat (first | exact SubO.nil | refine SubO.cons rfl ?_)) rfl (Vw.le.refl _)
     ·
      refine h_to 6 rfl rfl rfl rfl rfl rfl (s_mk (e := 3) (sz := 1) (by_ := 8) (z := [I 0]) tok n n rfl rfl rfl (Nat.le_refl _) (by omega) (by simp only [maxLen]; omega)) (.inr fun _ _ => ⟨(by repeat (first | exact SubO.nil | refine SubO.cons rfl ?_)), rfl, Vw.le.refl _⟩) (fun _ _ => ?_)
      refine h_three 0 4 8 (by kernel_rfl) ?_ ?_ ?_
      ·
       refine h_to 0 rfl rfl rfl rfl rfl rfl (s_bs tok 1 rfl rfl rfl) (.inr fun _ _ => ⟨(by repeat (first | exact SubO.nil | refine SubO.cons rfl ?_)), rfl, Vw.le.refl _⟩) (fun _ _ => ?_)
       refine h_three 2 4 8 (by kernel_rfl) ?_ ?_ ?_
       ·
        refine h_to 2 rfl rfl rfl rfl rfl rfl (s_app (e := 9) (sz := 1) (by_ := 16) (m := 0) (k := T.length) (olds := []) tok (T.flatMap encS) rfl (fun E w1 hm => hT.sl.src hm.get) (fun _ _ _ => str_ones T) (by omega)) (.inr fun _ _ => ⟨(by repeat (first | exact SubO.nil | refine SubO.cons rfl ?_)), rfl, Vw.le.refl _⟩) (fun _ _ => ?_)
        refine h_two 4 8 (by kernel_rfl) ?_ ?_
        ·
         refine h_to 4 rfl rfl rfl rfl rfl rfl (s_mk (e := 70) (sz := 1) (by_ := 24) (z := [.slice none 0 0]) tok n n rfl rfl rfl (Nat.le_refl _) (by omega) (by simp only [maxLen]; omega)) (.inr fun _ _ => ⟨(by repeat (first | exact SubO.nil | refine SubO.cons rfl ?_)), rfl, Vw.le.refl _⟩) (fun _ _ => ?_)
         refine h_two 7 8 (by kernel_rfl) ?_ ?_
         ·
          refine h_yield 7 rfl rfl rfl rfl (y_val tok rfl) ?_
          refine h_one 8 (by kernel_rfl) ?_
          refine h_new 8 tok rfl rfl rfl rfl rfl rfl ?_
          refine h_one 9 (by kernel_rfl) ?_
          refine h_store 9 tok rfl rfl rfl rfl (by repeat' first | exact trivial | exact rfl | apply And.intro) (.inr ⟨(by repeat (first | exact SubO.nil | refine SubO.cons rfl ?_)), rfl, Vw.le.refl _⟩) ?_
          refine h_done [4, 6] (by kernel_rfl) rfl ?_
          refine k_swap 1 2 rfl ?_
          refine k_swap 2 3 rfl ?_
          refine k_swap 3 4 rfl ?_
          exact x_meet () trivial (by repeat (first | exact SubF.nil | refine SubF.cons rfl ?_)) (by repeat (first | exact SubO.nil | refine SubO.cons rfl ?_)) rfl (Vw.le.refl _)
         ·
          refine h_new 8 tok rfl rfl rfl rfl rfl rfl ?_
          refine h_one 7 (by kernel_rfl) ?_
          refine h_yield 7 rfl rfl rfl rfl (y_val tok rfl) ?_
          refine h_one 9 (by kernel_rfl) ?_
          refine h_store 9 tok rfl rfl rfl rfl (by repeat' first | exact trivial | exact rfl | apply And.intro) (.inr ⟨(by repeat (first | exact SubO.nil | refine SubO.cons rfl ?_)), rfl, Vw.le.refl _⟩) ?_
          refine h_done [4, 6] (by kernel_rfl) rfl ?_
          refine k_swap 1 2 rfl ?_
          refine k_swap 2 3 rfl ?_
          refine k_swap 3 4 rfl ?_
          exact x_meet () trivial (by repeat (first | exact SubF.nil | refine SubF.cons rfl ?_)) (by repeat (first | exact SubO.nil | refine SubO.cons rfl ?_)) rfl (Vw.le.refl _)
        ·
         refine h_new 8 tok rfl rfl rfl rfl rfl rfl ?_
         refine h_one 4 (by kernel_rfl) ?_
         refine h_to 4 rfl rfl rfl rfl rfl rfl (s_mk (e := 70) (sz := 1) (by_ := 24) (z := [.slice none 0 0]) tok n n rfl rfl rfl (Nat.le_refl _) (by omega) (by simp only [maxLen]; omega)) (.inr fun _ _ => ⟨(by repeat (first | exact SubO.nil | refine SubO.cons rfl ?_)), rfl, Vw.le.refl _⟩) (fun _ _ => ?_)
         refine h_one 7 (by kernel_rfl) ?_
         refine h_yield 7 rfl rfl rfl rfl (y_val tok rfl) ?_
         refine h_one 9 (by kernel_rfl) ?_
         refine h_store 9 tok rfl rfl rfl rfl (by repeat' first | exact trivial | exact rfl | apply And.intro) (.inr ⟨(by repeat (first | exact SubO.nil | refine SubO.cons rfl ?_)), rfl, Vw.le.refl _⟩) ?_
         refine h_done [4, 6] (by kernel_rfl) rfl ?_
         refine k_swap 1 2 rfl ?_
         refine k_swap 2 3 rfl ?_
         refine k_swap 3 5 rfl ?_
         refine k_swap 4 5 rfl ?_
         exact x_meet () trivial (by repeat (first | exact SubF.nil | refine SubF.cons rfl ?_)) (by repeat (first | exact SubO.nil | refine SubO.cons rfl ?_)) rfl (Vw.le.refl _)
       ·
        refine h_to 4 rfl rfl rfl rfl rfl rfl (s_mk (e := 70) (sz := 1) (by_ := 24) (z := [.slice none 0 0]) tok n n rfl rfl rfl (Nat.le_refl _) (by omega) (by simp only [maxLen]; omega)) (.inr fun _ _ => ⟨(by repeat (first | exact SubO.nil | refine SubO.cons rfl ?_)), rfl, Vw.le.refl _⟩) (fun _ _ => ?_)
        refine h_two 2 8 (by kernel_rfl) ?_ ?_
        ·
         refine h_to 2 rfl rfl rfl rfl rfl rfl (s_app (e := 9) (sz := 1) (by_ := 16) (m := 0) (k := T.length) (olds := []) tok (T.flatMap encS) rfl (fun E w1 hm => hT.sl.src hm.get) (fun _ _ _ => str_ones T) (by omega)) (.inr fun _ _ => ⟨(by repeat (first | exact SubO.nil | refine SubO.cons rfl ?_)), rfl, Vw.le.refl _⟩) (fun _ _ => ?_)
         refine h_two 7 8 (by kernel_rfl) ?_ ?_
         ·
          refine h_yield 7 rfl rfl rfl rfl (y_val tok rfl) ?_
          refine h_one 8 (by kernel_rfl) ?_
          refine h_new 8 tok rfl rfl rfl rfl rfl rfl ?_
          refine h_one 9 (by kernel_rfl) ?_
          refine h_store 9 tok rfl rfl rfl rfl (by repeat' first | exact trivial | exact rfl | apply And.intro) (.inr ⟨(by repeat (first | exact SubO.nil | refine SubO.cons rfl ?_)), rfl, Vw.le.refl _⟩) ?_
          refine h_done [4, 6] (by kernel_rfl) rfl ?_
          refine k_swap 1 2 rfl ?_
          refine k_swap 2 4 rfl ?_
          exact x_meet () trivial (by repeat (first | exact SubF.nil | refine SubF.cons rfl ?_)) (by repeat (first | exact SubO.nil | refine SubO.cons rfl ?_)) rfl (Vw.le.refl _)
         ·
          refine h_new 8 tok rfl rfl rfl rfl rfl rfl ?_
          refine h_one 7 (by kernel_rfl) ?_
          refine h_yield 7 rfl rfl rfl rfl (y_val tok rfl) ?_
          refine h_one 9 (by kernel_rfl) ?_
          refine h_store 9 tok rfl rfl rfl rfl (by repeat' first | exact trivial | exact rfl | apply And.intro) (.inr ⟨(by repeat (first | exact SubO.nil | refine SubO.cons rfl ?_)), rfl, Vw.le.refl _⟩) ?_
          refine h_done [4, 6] (by kernel_rfl) rfl ?_
          refine k_swap 1 2 rfl ?_
          refine k_swap 2 4 rfl ?_
          exact x_meet () trivial (by repeat (first | exact SubF.nil | refine SubF.cons rfl ?_)) (by repeat (first | exact SubO.nil | refine SubO.cons rfl ?_)) rfl (Vw.le.refl _)
        ·
         refine h_new 8 tok rfl rfl rfl rfl rfl rfl ?_
         refine h_one 2 (by kernel_rfl) ?_
         refine h_to 2 rfl rfl rfl rfl rfl rfl (s_app (e := 9) (sz := 1) (by_ := 16) (m := 0) (k := T.length) (olds := []) tok (T.flatMap encS) rfl (fun E w1 hm => hT.sl.src hm.get) (fun _ _ _ => str_ones T) (by omega)) (.inr fun _ _ => ⟨(by repeat (first | exact SubO.nil | refine SubO.cons rfl ?_)), rfl, Vw.le.refl _⟩) (fun _ _ => ?_)
         refine h_one 7 (by kernel_rfl) ?_
         refine h_yield 7 rfl rfl rfl rfl (y_val tok rfl) ?_
         refine h_one 9 (by kernel_rfl) ?_
         refine h_store 9 tok rfl rfl rfl rfl (by repeat' first | exact trivial | exact rfl | apply And.intro) (.inr ⟨(by repeat (first | exact SubO.nil | refine SubO.cons rfl ?_)), rfl, Vw.le.refl _⟩) ?_
         refine h_done [4, 6] (by kernel_rfl) rfl ?_
         refine k_swap 1 2 rfl ?_
         refine k_swap 2 5 rfl ?_
         refine k_swap 4 5 rfl ?_
         exact x_meet () trivial (by repeat (first | exact SubF.nil | refine SubF.cons rfl ?_)) (by repeat (first | exact SubO.nil | refine SubO.cons rfl ?_)) rfl (Vw.le.refl _)
       ·
        refine h_new 8 tok rfl rfl rfl rfl rfl rfl ?_
        refine h_two 2 4 (by kernel_rfl) ?_ ?_
        ·
         refine h_to 2 rfl rfl rfl rfl rfl rfl (s_app (e := 9) (sz := 1) (by_ := 16) (m := 0) (k := T.length) (olds := []) tok (T.flatMap encS) rfl (fun E w1 hm => hT.sl.src hm.get) (fun _ _ _ => str_ones T) (by omega)) (.inr fun _ _ => ⟨(by repeat (first | exact SubO.nil | refine SubO.cons rfl ?_)), rfl, Vw.le.refl _⟩) (fun _ _ => ?_)
         refine h_one 4 (by kernel_rfl) ?_
         refine h_to 4 rfl rfl rfl rfl rfl rfl (s_mk (e := 70) (sz := 1) (by_ := 24) (z := [.slice none 0 0]) tok n n rfl rfl rfl (Nat.le_refl _) (by omega) (by simp only [maxLen]; omega)) (.inr fun _ _ => ⟨(by repeat (first | exact SubO.nil | refine SubO.cons rfl ?_)), rfl, Vw.le.refl _⟩) (fun _ _ => ?_)
         refine h_one 7 (by kernel_rfl) ?_
         refine h_yield 7 rfl rfl rfl rfl (y_val tok rfl) ?_
         refine h_one 9 (by kernel_rfl) ?_
         refine h_store 9 tok rfl rfl rfl rfl (by repeat' first | exact trivial | exact rfl | apply And.intro) (.inr ⟨(by repeat (first | exact SubO.nil | refine SubO.cons rfl ?_)), rfl, Vw.le.refl _⟩) ?_
         refine h_done [4, 6] (by kernel_rfl) rfl ?_
         refine k_swap 1 2 rfl ?_
         refine k_swap 2 4 rfl ?_
         refine k_swap 3 5 rfl ?_
         exact x_meet () trivial (by repeat (first | exact SubF.nil | refine SubF.cons rfl ?_)) (by repeat (first | exact SubO.nil | refine SubO.cons rfl ?_)) rfl (Vw.le.refl _)
        ·
         refine h_to 4 rfl rfl rfl rfl rfl rfl (s_mk (e := 70) (sz := 1) (by_ := 24) (z := [.slice none 0 0]) tok n n rfl rfl rfl (Nat.le_refl _) (by omega) (by simp only [maxLen]; omega)) (.inr fun _ _ => ⟨(by repeat (first | exact SubO.nil | refine SubO.cons rfl ?_)), rfl, Vw.le.refl _⟩) (fun _ _ => ?_)
         refine h_one 2 (by kernel_rfl) ?_
         refine h_to 2 rfl rfl rfl rfl rfl rfl (s_app (e := 9) (sz := 1) (by_ := 16) (m := 0) (k := T.length) (olds := []) tok (T.flatMap encS) rfl (fun E w1 hm => hT.sl.src hm.get) (fun _ _ _ => str_ones T) (by omega)) (.inr fun _ _ => ⟨(by repeat (first | exact SubO.nil | refine SubO.cons rfl ?_)), rfl, Vw.le.refl _⟩) (fun _ _ => ?_)
         refine h_one 7 (by kernel_rfl) ?_
         refine h_yield 7 rfl rfl rfl rfl (y_val tok rfl) ?_
         refine h_one 9 (by kernel_rfl) ?_
         refine h_store 9 tok rfl rfl rfl rfl (by repeat' first | exact trivial | exact rfl | apply And.intro) (.inr ⟨(by repeat (first | exact SubO.nil | refine SubO.cons rfl ?_)), rfl, Vw.le.refl _⟩) ?_
         refine h_done [4, 6] (by kernel_rfl) rfl ?_
         refine k_swap 1 2 rfl ?_
         refine k_swap 2 5 rfl ?_
         refine k_swap 3 4 rfl ?_
         refine k_swap 4 5 rfl ?_
         exact x_meet () trivial (by repeat (first | exact SubF.nil | refine SubF.cons rfl ?_)) (by repeat (first | exact SubO.nil | refine SubO.cons rfl ?_)) rfl (Vw.le.refl _)
      ·
       refine h_to 4 rfl rfl rfl rfl rfl rfl (s_mk (e := 70) (sz := 1) (by_ := 24) (z := [.slice none 0 0]) tok n n rfl rfl rfl (Nat.le_refl _) (by omega) (by simp only [maxLen]; omega)) (.inr fun _ _ => ⟨(by repeat (first | exact SubO.nil | refine SubO.cons rfl ?_)), rfl, Vw.le.refl _⟩) (fun _ _ => ?_)
       refine h_two 0 8 (by kernel_rfl) ?_ ?_
       ·
        refine h_to 0 rfl rfl rfl rfl rfl rfl (s_bs tok 1 rfl rfl rfl) (.inr fun _ _ => ⟨(by repeat (first | exact SubO.nil | refine SubO.cons rfl ?_)), rfl, Vw.le.refl _⟩) (fun _ _ => ?_)
        refine h_two 2 8 (by kernel_rfl) ?_ ?_
        ·
         refine h_to 2 rfl rfl rfl rfl rfl rfl (s_app (e := 9) (sz := 1) (by_ := 16) (m := 0) (k := T.length) (olds := []) tok (T.flatMap encS) rfl (fun E w1 hm => hT.sl.src hm.get) (fun _ _ _ => str_ones T) (by omega)) (.inr fun _ _ => ⟨(by repeat (first | exact SubO.nil | refine SubO.cons rfl ?_)), rfl, Vw.le.refl _⟩) (fun _ _ => ?_)
         refine h_two 7 8 (by kernel_rfl) ?_ ?_
         ·
          refine h_yield 7 rfl rfl rfl rfl (y_val tok rfl) ?_
          refine h_one 8 (by kernel_rfl) ?_
          refine h_new 8 tok rfl rfl rfl rfl rfl rfl ?_
          refine h_one 9 (by kernel_rfl) ?_
          refine h_store 9 tok rfl rfl rfl rfl (by repeat' first | exact trivial | exact rfl | apply And.intro) (.inr ⟨(by repeat (first | exact SubO.nil | refine SubO.cons rfl ?_)), rfl, Vw.le.refl _⟩) ?_
          refine h_done [4, 6] (by kernel_rfl) rfl ?_
          refine k_swap 1 3 rfl ?_
          refine k_swap 2 4 rfl ?_
          refine k_swap 3 4 rfl ?_
          exact x_meet () trivial (by repeat (first | exact SubF.nil | refine SubF.cons rfl ?_)) (by repeat (first | exact SubO.nil | refine SubO.cons rfl ?_)) rfl (Vw.le.refl _)
         ·
          refine h_new 8 tok rfl rfl rfl rfl rfl rfl ?_
          refine h_one 7 (by kernel_rfl) ?_
          refine h_yield 7 rfl rfl rfl rfl (y_val tok rfl) ?_
          refine h_one 9 (by kernel_rfl) ?_
          refine h_store 9 tok rfl rfl rfl rfl (by repeat' first | exact trivial | exact rfl | apply And.intro) (.inr ⟨(by repeat (first | exact SubO.nil | refine SubO.cons rfl ?_)), rfl, Vw.le.refl _⟩) ?_
          refine h_done [4, 6] (by kernel_rfl) rfl ?_
          refine k_swap 1 3 rfl ?_
          refine k_swap 2 4 rfl ?_
          refine k_swap 3 4 rfl ?_
          exact x_meet () trivial (by repeat (first | exact SubF.nil | refine SubF.cons rfl ?_)) (by repeat (first | exact SubO.nil | refine SubO.cons rfl ?_)) rfl (Vw.le.refl _)
        ·
         refine h_new 8 tok rfl rfl rfl rfl rfl rfl ?_
         refine h_one 2 (by kernel_rfl) ?_
         refine h_to 2 rfl rfl rfl rfl rfl rfl (s_app (e := 9) (sz := 1) (by_ := 16) (m := 0) (k := T.length) (olds := []) tok (T.flatMap encS) rfl (fun E w1 hm => hT.sl.src hm.get) (fun _ _ _ => str_ones T) (by omega)) (.inr fun _ _ => ⟨(by repeat (first | exact SubO.nil | refine SubO.cons rfl ?_)), rfl, Vw.le.refl _⟩) (fun _ _ => ?_)
         refine h_one 7 (by kernel_rfl) ?_
         refine h_yield 7 rfl rfl rfl rfl (y_val tok rfl) ?_
         refine h_one 9 (by kernel_rfl) ?_
         refine h_store 9 tok rfl rfl rfl rfl (by repeat' first | exact trivial | exact rfl | apply And.intro) (.inr ⟨(by repeat (first | exact SubO.nil | refine SubO.cons rfl ?_)), rfl, Vw.le.refl _⟩) ?_
         refine h_done [4, 6] (by kernel_rfl) rfl ?_
         refine k_swap 1 3 rfl ?_
         refine k_swap 2 5 rfl ?_
         refine k_swap 3 5 rfl ?_
         refine k_swap 4 5 rfl ?_
         exact x_meet () trivial (by repeat (first | exact SubF.nil | refine SubF.cons rfl ?_)) (by repeat (first | exact SubO.nil | refine SubO.cons rfl ?_)) rfl (Vw.le.refl _)
       ·
        refine h_new 8 tok rfl rfl rfl rfl rfl rfl ?_
        refine h_one 0 (by kernel_rfl) ?_
        refine h_to 0 rfl rfl rfl rfl rfl rfl (s_bs tok 1 rfl rfl rfl) (.inr fun _ _ => ⟨(by repeat (first | exact SubO.nil | refine SubO.cons rfl ?_)), rfl, Vw.le.refl _⟩) (fun _ _ => ?_)
        refine h_one 2 (by kernel_rfl) ?_
        refine h_to 2 rfl rfl rfl rfl rfl rfl (s_app (e := 9) (sz := 1) (by_ := 16) (m := 0) (k := T.length) (olds := []) tok (T.flatMap encS) rfl (fun E w1 hm => hT.sl.src hm.get) (fun _ _ _ => str_ones T) (by omega)) (.inr fun _ _ => ⟨(by repeat (first | exact SubO.nil | refine SubO.cons rfl ?_)), rfl, Vw.le.refl _⟩) (fun _ _ => ?_)
        refine h_one 7 (by kernel_rfl) ?_
        refine h_yield 7 rfl rfl rfl rfl (y_val tok rfl) ?_
        refine h_one 9 (by kernel_rfl) ?_
        refine h_store 9 tok rfl rfl rfl rfl (by repeat' first | exact trivial | exact rfl | apply And.intro) (.inr ⟨(by repeat (first | exact SubO.nil | refine SubO.cons rfl ?_)), rfl, Vw.le.refl _⟩) ?_
        refine h_done [4, 6] (by kernel_rfl) rfl ?_
        refine k_swap 1 4 rfl ?_
        refine k_swap 2 5 rfl ?_
        refine k_swap 3 5 rfl ?_
        exact x_meet () trivial (by repeat (first | exact SubF.nil | refine SubF.cons rfl ?_)) (by repeat (first | exact SubO.nil | refine SubO.cons rfl ?_)) rfl (Vw.le.refl _)
      ·
       refine h_new 8 tok rfl rfl rfl rfl rfl rfl ?_
       refine h_two 0 4 (by kernel_rfl) ?_ ?_
       ·
        refine h_to 0 rfl rfl rfl rfl rfl rfl (s_bs tok 1 rfl rfl rfl) (.inr fun _ _ => ⟨(by repeat (first | exact SubO.nil | refine SubO.cons rfl ?_)), rfl, Vw.le.refl _⟩) (fun _ _ => ?_)
        refine h_two 2 4 (by kernel_rfl) ?_ ?_
        ·
         refine h_to 2 rfl rfl rfl rfl rfl rfl (s_app (e := 9) (sz := 1) (by_ := 16) (m := 0) (k := T.length) (olds := []) tok (T.flatMap encS) rfl (fun E w1 hm => hT.sl.src hm.get) (fun _ _ _ => str_ones T) (by omega)) (.inr fun _ _ => ⟨(by repeat (first | exact SubO.nil | refine SubO.cons rfl ?_)), rfl, Vw.le.refl _⟩) (fun _ _ => ?_)
         refine h_one 4 (by kernel_rfl) ?_
         refine h_to 4 rfl rfl rfl rfl rfl rfl (s_mk (e := 70) (sz := 1) (by_ := 24) (z := [.slice none 0 0]) tok n n rfl rfl rfl (Nat.le_refl _) (by omega) (by simp only [maxLen]; omega)) (.inr fun _ _ => ⟨(by repeat (first | exact SubO.nil | refine SubO.cons rfl ?_)), rfl, Vw.le.refl _⟩) (fun _ _ => ?_)
         refine h_one 7 (by kernel_rfl) ?_
         refine h_yield 7 rfl rfl rfl rfl (y_val tok rfl) ?_
         refine h_one 9 (by kernel_rfl) ?_
         refine h_store 9 tok rfl rfl rfl rfl (by repeat' first | exact trivial | exact rfl | apply And.intro) (.inr ⟨(by repeat (first | exact SubO.nil | refine SubO.cons rfl ?_)), rfl, Vw.le.refl _⟩) ?_
         refine h_done [4, 6] (by kernel_rfl) rfl ?_
         refine k_swap 1 3 rfl ?_
         refine k_swap 2 4 rfl ?_
         refine k_swap 3 5 rfl ?_
         refine k_swap 4 5 rfl ?_
         exact x_meet () trivial (by repeat (first | exact SubF.nil | refine SubF.cons rfl ?_)) (by repeat (first | exact SubO.nil | refine SubO.cons rfl ?_)) rfl (Vw.le.refl _)
        ·
         refine h_to 4 rfl rfl rfl rfl rfl rfl (s_mk (e := 70) (sz := 1) (by_ := 24) (z := [.slice none 0 0]) tok n n rfl rfl rfl (Nat.le_refl _) (by omega) (by simp only [maxLen]; omega)) (.inr fun _ _ => ⟨(by repeat (first | exact SubO.nil | refine SubO.cons rfl ?_)), rfl, Vw.le.refl _⟩) (fun _ _ => ?_)
         refine h_one 2 (by kernel_rfl) ?_
         refine h_to 2 rfl rfl rfl rfl rfl rfl (s_app (e := 9) (sz := 1) (by_ := 16) (m := 0) (k := T.length) (olds := []) tok (T.flatMap encS) rfl (fun E w1 hm => hT.sl.src hm.get) (fun _ _ _ => str_ones T) (by omega)) (.inr fun _ _ => ⟨(by repeat (first | exact SubO.nil | refine SubO.cons rfl ?_)), rfl, Vw.le.refl _⟩) (fun _ _ => ?_)
         refine h_one 7 (by kernel_rfl) ?_
         refine h_yield 7 rfl rfl rfl rfl (y_val tok rfl) ?_
         refine h_one 9 (by kernel_rfl) ?_
         refine h_store 9 tok rfl rfl rfl rfl (by repeat' first | exact trivial | exact rfl | apply And.intro) (.inr ⟨(by repeat (first | exact SubO.nil | refine SubO.cons rfl ?_)), rfl, Vw.le.refl _⟩) ?_
         refine h_done [4, 6] (by kernel_rfl) rfl ?_
         refine k_swap 1 3 rfl ?_
         refine k_swap 2 5 rfl ?_
         refine k_swap 3 4 rfl ?_
         exact x_meet () trivial (by repeat (first | exact SubF.nil | refine SubF.cons rfl ?_)) (by repeat (first | exact SubO.nil | refine SubO.cons rfl ?_)) rfl (Vw.le.refl _)
       ·
        refine h_to 4 rfl rfl rfl rfl rfl rfl (s_mk (e := 70) (sz := 1) (by_ := 24) (z := [.slice none 0 0]) tok n n rfl rfl rfl (Nat.le_refl _) (by omega) (by simp only [maxLen]; omega)) (.inr fun _ _ => ⟨(by repeat (first | exact SubO.nil | refine SubO.cons rfl ?_)), rfl, Vw.le.refl _⟩) (fun _ _ => ?_)
        refine h_one 0 (by kernel_rfl) ?_
        refine h_to 0 rfl rfl rfl rfl rfl rfl (s_bs tok 1 rfl rfl rfl) (.inr fun _ _ => ⟨(by repeat (first | exact SubO.nil | refine SubO.cons rfl ?_)), rfl, Vw.le.refl _⟩) (fun _ _ => ?_)
        refine h_one 2 (by kernel_rfl) ?_
        refine h_to 2 rfl rfl rfl rfl rfl rfl (s_app (e := 9) (sz := 1) (by_ := 16) (m := 0) (k := T.length) (olds := []) tok (T.flatMap encS) rfl (fun E w1 hm => hT.sl.src hm.get) (fun _ _ _ => str_ones T) (by omega)) (.inr fun _ _ => ⟨(by repeat (first | exact SubO.nil | refine SubO.cons rfl ?_)), rfl, Vw.le.refl _⟩) (fun _ _ => ?_)
        refine h_one 7 (by kernel_rfl) ?_
        refine h_yield 7 rfl rfl rfl rfl (y_val tok rfl) ?_
        refine h_one 9 (by kernel_rfl) ?_
        refine h_store 9 tok rfl rfl rfl rfl (by repeat' first | exact trivial | exact rfl | apply And.intro) (.inr ⟨(by repeat (first | exact SubO.nil | refine SubO.cons rfl ?_)), rfl, Vw.le.refl _⟩) ?_
        refine h_done [4, 6] (by kernel_rfl) rfl ?_
        refine k_swap 1 4 rfl ?_
        refine k_swap 2 5 rfl ?_
        exact x_meet () trivial (by repeat (first | exact SubF.nil | refine SubF.cons rfl ?_)) (by repeat (first | exact SubO.nil | refine SubO.cons rfl ?_)) rfl (Vw.le.refl _)
     ·
      refine h_new 8 tok rfl rfl rfl rfl rfl rfl ?_
      refine h_three 0 4 6 (by kernel_rfl) ?_ ?_ ?_
      ·
       refine h_to 0 rfl rfl rfl rfl rfl rfl (s_bs tok 1 rfl rfl rfl) (.inr fun _ _ => ⟨(by repeat (first | exact SubO.nil | refine SubO.cons rfl ?_)), rfl, Vw.le.refl _⟩) (fun _ _ => ?_)
       refine h_three 2 4 6 (by kernel_rfl) ?_ ?_ ?_
       ·
        refine h_to 2 rfl rfl rfl rfl rfl rfl (s_app (e := 9) (sz := 1) (by_ := 16) (m := 0) (k := T.length) (olds := []) tok (T.flatMap encS) rfl (fun E w1 hm => hT.sl.src hm.get) (fun _ _ _ => str_ones T) (by omega)) (.inr fun _ _ => ⟨(by repeat (first | exact SubO.nil | refine SubO.cons rfl ?_)), rfl, Vw.le.refl _⟩) (fun _ _ => ?_)
        refine h_two 4 6 (by kernel_rfl) ?_ ?_
        ·
         refine h_to 4 rfl rfl rfl rfl rfl rfl (s_mk (e := 70) (sz := 1) (by_ := 24) (z := [.slice none 0 0]) tok n n rfl rfl rfl (Nat.le_refl _) (by omega) (by simp only [maxLen]; omega)) (.inr fun _ _ => ⟨(by repeat (first | exact SubO.nil | refine SubO.cons rfl ?_)), rfl, Vw.le.refl _⟩) (fun _ _ => ?_)
         refine h_one 6 (by kernel_rfl) ?_
         refine h_to 6 rfl rfl rfl rfl rfl rfl (s_mk (e := 3) (sz := 1) (by_ := 8) (z := [I 0]) tok n n rfl rfl rfl (Nat.le_refl _) (by omega) (by simp only [maxLen]; omega)) (.inr fun _ _ => ⟨(by repeat (first | exact SubO.nil | refine SubO.cons rfl ?_)), rfl, Vw.le.refl _⟩) (fun _ _ => ?_)
         refine h_one 7 (by kernel_rfl) ?_
         refine h_yield 7 rfl rfl rfl rfl (y_val tok rfl) ?_
         refine h_one 9 (by kernel_rfl) ?_
         refine h_store 9 tok rfl rfl rfl rfl (by repeat' first | exact trivial | exact rfl | apply And.intro) (.inr ⟨(by repeat (first | exact SubO.nil | refine SubO.cons rfl ?_)), rfl, Vw.le.refl _⟩) ?_
         refine h_done [4, 6] (by kernel_rfl) rfl ?_
         refine k_swap 1 2 rfl ?_
         refine k_swap 2 3 rfl ?_
         refine k_swap 3 4 rfl ?_
         refine k_swap 4 5 rfl ?_
         exact x_meet () trivial (by repeat (first | exact SubF.nil | refine SubF.cons rfl ?_)) (by repeat (first | exact SubO.nil | refine SubO.cons rfl ?_)) rfl (Vw.le.refl _)
        ·
         refine h_to 6 rfl rfl rfl rfl rfl rfl (s_mk (e := 3) (sz := 1) (by_ := 8) (z := [I 0]) tok n n rfl rfl rfl (Nat.le_refl _) (by omega) (by simp only [maxLen]; omega)) (.inr fun _ _ => ⟨(by repeat (first | exact SubO.nil | refine SubO.cons rfl ?_)), rfl, Vw.le.refl _⟩) (fun _ _ => ?_)
         refine h_one 4 (by kernel_rfl) ?_
         refine h_to 4 rfl rfl rfl rfl rfl rfl (s_mk (e := 70) (sz := 1) (by_ := 24) (z := [.slice none 0 0]) tok n n rfl rfl rfl (Nat.le_refl _) (by omega) (by simp only [maxLen]; omega)) (.inr fun _ _ => ⟨(by repeat (first | exact SubO.nil | refine SubO.cons rfl ?_)), rfl, Vw.le.refl _⟩) (fun _ _ => ?_)
         refine h_one 7 (by kernel_rfl) ?_
         refine h_yield 7 rfl rfl rfl rfl (y_val tok rfl) ?_
         refine h_one 9 (by kernel_rfl) ?_
         refine h_store 9 tok rfl rfl rfl rfl (by repeat' first | exact trivial | exact rfl | apply And.intro) (.inr ⟨(by repeat (first | exact SubO.nil | refine SubO.cons rfl ?_)), rfl, Vw.le.refl _⟩) ?_
         refine h_done [4, 6] (by kernel_rfl) rfl ?_
         refine k_swap 1 2 rfl ?_
         refine k_swap 2 3 rfl ?_
         refine k_swap 3 5 rfl ?_
         exact x_meet () trivial (by repeat (first | exact SubF.nil | refine SubF.cons rfl ?_)) (by repeat (first | exact SubO.nil | refine SubO.cons rfl ?_)) rfl (Vw.le.refl _)
       ·
        refine h_to 4 rfl rfl rfl rfl rfl rfl (s_mk (e := 70) (sz := 1) (by_ := 24) (z := [.slice none 0 0]) tok n n rfl rfl rfl (Nat.le_refl _) (by omega) (by simp only [maxLen]; omega)) (.inr fun _ _ => ⟨(by repeat (first | exact SubO.nil | refine SubO.cons rfl ?_)), rfl, Vw.le.refl _⟩) (fun _ _ => ?_)
        refine h_two 2 6 (by kernel_rfl) ?_ ?_
        ·
         refine h_to 2 rfl rfl rfl rfl rfl rfl (s_app (e := 9) (sz := 1) (by_ := 16) (m := 0) (k := T.length) (olds := []) tok (T.flatMap encS) rfl (fun E w1 hm => hT.sl.src hm.get) (fun _ _ _ => str_ones T) (by omega)) (.inr fun _ _ => ⟨(by repeat (first | exact SubO.nil | refine SubO.cons rfl ?_)), rfl, Vw.le.refl _⟩) (fun _ _ => ?_)
         refine h_one 6 (by kernel_rfl) ?_
         refine h_to 6 rfl rfl rfl rfl rfl rfl (s_mk (e := 3) (sz := 1) (by_ := 8) (z := [I 0]) tok n n rfl rfl rfl (Nat.le_refl _) (by omega) (by simp only [maxLen]; omega)) (.inr fun _ _ => ⟨(by repeat (first | exact SubO.nil | refine SubO.cons rfl ?_)), rfl, Vw.le.refl _⟩) (fun _ _ => ?_)
         refine h_one 7 (by kernel_rfl) ?_
         refine h_yield 7 rfl rfl rfl rfl (y_val tok rfl) ?_
         refine h_one 9 (by kernel_rfl) ?_
         refine h_store 9 tok rfl rfl rfl rfl (by repeat' first | exact trivial | exact rfl | apply And.intro) (.inr ⟨(by repeat (first | exact SubO.nil | refine SubO.cons rfl ?_)), rfl, Vw.le.refl _⟩) ?_
         refine h_done [4, 6] (by kernel_rfl) rfl ?_
         refine k_swap 1 2 rfl ?_
         refine k_swap 2 4 rfl ?_
         refine k_swap 4 5 rfl ?_
         exact x_meet () trivial (by repeat (first | exact SubF.nil | refine SubF.cons rfl ?_)) (by repeat (first | exact SubO.nil | refine SubO.cons rfl ?_)) rfl (Vw.le.refl _)
        ·
         refine h_to 6 rfl rfl rfl rfl rfl rfl (s_mk (e := 3) (sz := 1) (by_ := 8) (z := [I 0]) tok n n rfl rfl rfl (Nat.le_refl _) (by omega) (by simp only [maxLen]; omega)) (.inr fun _ _ => ⟨(by repeat (first | exact SubO.nil | refine SubO.cons rfl ?_)), rfl, Vw.le.refl _⟩) (fun _ _ => ?_)
         refine h_one 2 (by kernel_rfl) ?_
         refine h_to 2 rfl rfl rfl rfl rfl rfl (s_app (e := 9) (sz := 1) (by_ := 16) (m := 0) (k := T.length) (olds := []) tok (T.flatMap encS) rfl (fun E w1 hm => hT.sl.src hm.get) (fun _ _ _ => str_ones T) (by omega)) (.inr fun _ _ => ⟨(by repeat (first | exact SubO.nil | refine SubO.cons rfl ?_)), rfl, Vw.le.refl _⟩) (fun _ _ => ?_)
         refine h_one 7 (by kernel_rfl) ?_
         refine h_yield 7 rfl rfl rfl rfl (y_val tok rfl) ?_
         refine h_one 9 (by kernel_rfl) ?_
         refine h_store 9 tok rfl rfl rfl rfl (by repeat' first | exact trivial | exact rfl | apply And.intro) (.inr ⟨(by repeat (first | exact SubO.nil | refine SubO.cons rfl ?_)), rfl, Vw.le.refl _⟩) ?_
         refine h_done [4, 6] (by kernel_rfl) rfl ?_
         refine k_swap 1 2 rfl ?_
         refine k_swap 2 5 rfl ?_
         exact x_meet () trivial (by repeat (first | exact SubF.nil | refine SubF.cons rfl ?_)) (by repeat (first | exact SubO.nil | refine SubO.cons rfl ?_)) rfl (Vw.le.refl _)
       ·
        refine h_to 6 rfl rfl rfl rfl rfl rfl (s_mk (e := 3) (sz := 1) (by_ := 8) (z := [I 0]) tok n n rfl rfl rfl (Nat.le_refl _) (by omega) (by simp only [maxLen]; omega)) (.inr fun _ _ => ⟨(by repeat (first | exact SubO.nil | refine SubO.cons rfl ?_)), rfl, Vw.le.refl _⟩) (fun _ _ => ?_)
        refine h_two 2 4 (by kernel_rfl) ?_ ?_
        ·
         refine h_to 2 rfl rfl rfl rfl rfl rfl (s_app (e := 9) (sz := 1) (by_ := 16) (m := 0) (k := T.length) (olds := []) tok (T.flatMap encS) rfl (fun E w1 hm => hT.sl.src hm.get) (fun _ _ _ => str_ones T) (by omega)) (.inr fun _ _ => ⟨(by repeat (first | exact SubO.nil | refine SubO.cons rfl ?_)), rfl, Vw.le.refl _⟩) (fun _ _ => ?_)
         refine h_one 4 (by kernel_rfl) ?_
         refine h_to 4 rfl rfl rfl rfl rfl rfl (s_mk (e := 70) (sz := 1) (by_ := 24) (z := [.slice none 0 0]) tok n n rfl rfl rfl (Nat.le_refl _) (by omega) (by simp only [maxLen]; omega)) (.inr fun _ _ => ⟨(by repeat (first | exact SubO.nil | refine SubO.cons rfl ?_)), rfl, Vw.le.refl _⟩) (fun _ _ => ?_)
         refine h_one 7 (by kernel_rfl) ?_
         refine h_yield 7 rfl rfl rfl rfl (y_val tok rfl) ?_
         refine h_one 9 (by kernel_rfl) ?_
         refine h_store 9 tok rfl rfl rfl rfl (by repeat' first | exact trivial | exact rfl | apply And.intro) (.inr ⟨(by repeat (first | exact SubO.nil | refine SubO.cons rfl ?_)), rfl, Vw.le.refl _⟩) ?_
         refine h_done [4, 6] (by kernel_rfl) rfl ?_
         refine k_swap 1 2 rfl ?_
         refine k_swap 2 4 rfl ?_
         refine k_swap 3 5 rfl ?_
         refine k_swap 4 5 rfl ?_
         exact x_meet () trivial (by repeat (first | exact SubF.nil | refine SubF.cons rfl ?_)) (by repeat (first | exact SubO.nil | refine SubO.cons rfl ?_)) rfl (Vw.le.refl _)
        ·
         refine h_to 4 rfl rfl rfl rfl rfl rfl (s_mk (e := 70) (sz := 1) (by_ := 24) (z := [.slice none 0 0]) tok n n rfl rfl rfl (Nat.le_refl _) (by omega) (by simp only [maxLen]; omega)) (.inr fun _ _ => ⟨(by repeat (first | exact SubO.nil | refine SubO.cons rfl ?_)), rfl, Vw.le.refl _⟩) (fun _ _ => ?_)
         refine h_one 2 (by kernel_rfl) ?_
         refine h_to 2 rfl rfl rfl rfl rfl rfl (s_app (e := 9) (sz := 1) (by_ := 16) (m := 0) (k := T.length) (olds := []) tok (T.flatMap encS) rfl (fun E w1 hm => hT.sl.src hm.get) (fun _ _ _ => str_ones T) (by omega)) (.inr fun _ _ => ⟨(by repeat (first | exact SubO.nil | refine SubO.cons rfl ?_)), rfl, Vw.le.refl _⟩) (fun _ _ => ?_)
         refine h_one 7 (by kernel_rfl) ?_
         refine h_yield 7 rfl rfl rfl rfl (y_val tok rfl) ?_
         refine h_one 9 (by kernel_rfl) ?_
         refine h_store 9 tok rfl rfl rfl rfl (by repeat' first | exact trivial | exact rfl | apply And.intro) (.inr ⟨(by repeat (first | exact SubO.nil | refine SubO.cons rfl ?_)), rfl, Vw.le.refl _⟩) ?_
         refine h_done [4, 6] (by kernel_rfl) rfl ?_
         refine k_swap 1 2 rfl ?_
         refine k_swap 2 5 rfl ?_
         refine k_swap 3 4 rfl ?_
         exact x_meet () trivial (by repeat (first | exact SubF.nil | refine SubF.cons rfl ?_)) (by repeat (first | exact SubO.nil | refine SubO.cons rfl ?_)) rfl (Vw.le.refl _)
      ·
       refine h_to 4 rfl rfl rfl rfl rfl rfl (s_mk (e := 70) (sz := 1) (by_ := 24) (z := [.slice none 0 0]) tok n n rfl rfl rfl (Nat.le_refl _) (by omega) (by simp only [maxLen]; omega)) (.inr fun _ _ => ⟨(by repeat (first | exact SubO.nil | refine SubO.cons rfl ?_)), rfl, Vw.le.refl _⟩) (fun _ _ => ?_)
       refine h_two 0 6 (by kernel_rfl) ?_ ?_
       ·
        refine h_to 0 rfl rfl rfl rfl rfl rfl (s_bs tok 1 rfl rfl rfl) (.inr fun _ _ => ⟨(by repeat (first | exact SubO.nil | refine SubO.cons rfl ?_)), rfl, Vw.le.refl _⟩) (fun _ _ => ?_)
        refine h_two 2 6 (by kernel_rfl) ?_ ?_
        ·
         refine h_to 2 rfl rfl rfl rfl rfl rfl (s_app (e := 9) (sz := 1) (by_ := 16) (m := 0) (k := T.length) (olds := []) tok (T.flatMap encS) rfl (fun E w1 hm => hT.sl.src hm.get) (fun _ _ _ => str_ones T) (by omega)) (.inr fun _ _ => ⟨(by repeat (first | exact SubO.nil | refine SubO.cons rfl ?_)), rfl, Vw.le.refl _⟩) (fun _ _ => ?_)
         refine h_one 6 (by kernel_rfl) ?_
         refine h_to 6 rfl rfl rfl rfl rfl rfl (s_mk (e := 3) (sz := 1) (by_ := 8) (z := [I 0]) tok n n rfl rfl rfl (Nat.le_refl _) (by omega) (by simp only [maxLen]; omega)) (.inr fun _ _ => ⟨(by repeat (first | exact SubO.nil | refine SubO.cons rfl ?_)), rfl, Vw.le.refl _⟩) (fun _ _ => ?_)
         refine h_one 7 (by kernel_rfl) ?_
         refine h_yield 7 rfl rfl rfl rfl (y_val tok rfl) ?_
         refine h_one 9 (by kernel_rfl) ?_
         refine h_store 9 tok rfl rfl rfl rfl (by repeat' first | exact trivial | exact rfl | apply And.intro) (.inr ⟨(by repeat (first | exact SubO.nil | refine SubO.cons rfl ?_)), rfl, Vw.le.refl _⟩) ?_
         refine h_done [4, 6] (by kernel_rfl) rfl ?_
         refine k_swap 1 3 rfl ?_
         refine k_swap 2 4 rfl ?_
         refine k_swap 3 4 rfl ?_
         refine k_swap 4 5 rfl ?_
         exact x_meet () trivial (by repeat (first | exact SubF.nil | refine SubF.cons rfl ?_)) (by repeat (first | exact SubO.nil | refine SubO.cons rfl ?_)) rfl (Vw.le.refl _)
        ·
         refine h_to 6 rfl rfl rfl rfl rfl rfl (s_mk (e := 3) (sz := 1) (by_ := 8) (z := [I 0]) tok n n rfl rfl rfl (Nat.le_refl _) (by omega) (by simp only [maxLen]; omega)) (.inr fun _ _ => ⟨(by repeat (first | exact SubO.nil | refine SubO.cons rfl ?_)), rfl, Vw.le.refl _⟩) (fun _ _ => ?_)
         refine h_one 2 (by kernel_rfl) ?_
         refine h_to 2 rfl rfl rfl rfl rfl rfl (s_app (e := 9) (sz := 1) (by_ := 16) (m := 0) (k := T.length) (olds := []) tok (T.flatMap encS) rfl (fun E w1 hm => hT.sl.src hm.get) (fun _ _ _ => str_ones T) (by omega)) (.inr fun _ _ => ⟨(by repeat (first | exact SubO.nil | refine SubO.cons rfl ?_)), rfl, Vw.le.refl _⟩) (fun _ _ => ?_)
         refine h_one 7 (by kernel_rfl) ?_
         refine h_yield 7 rfl rfl rfl rfl (y_val tok rfl) ?_
         refine h_one 9 (by kernel_rfl) ?_
         refine h_store 9 tok rfl rfl rfl rfl (by repeat' first | exact trivial | exact rfl | apply And.intro) (.inr ⟨(by repeat (first | exact SubO.nil | refine SubO.cons rfl ?_)), rfl, Vw.le.refl _⟩) ?_
         refine h_done [4, 6] (by kernel_rfl) rfl ?_
         refine k_swap 1 3 rfl ?_
         refine k_swap 2 5 rfl ?_
         refine k_swap 3 5 rfl ?_
         exact x_meet () trivial (by repeat (first | exact SubF.nil | refine SubF.cons rfl ?_)) (by repeat (first | exact SubO.nil | refine SubO.cons rfl ?_)) rfl (Vw.le.refl _)
       ·
        refine h_to 6 rfl rfl rfl rfl rfl rfl (s_mk (e := 3) (sz := 1) (by_ := 8) (z := [I 0]) tok n n rfl rfl rfl (Nat.le_refl _) (by omega) (by simp only [maxLen]; omega)) (.inr fun _ _ => ⟨(by repeat (first | exact SubO.nil | refine SubO.cons rfl ?_)), rfl, Vw.le.refl _⟩) (fun _ _ => ?_)
        refine h_one 0 (by kernel_rfl) ?_
        refine h_to 0 rfl rfl rfl rfl rfl rfl (s_bs tok 1 rfl rfl rfl) (.inr fun _ _ => ⟨(by repeat (first | exact SubO.nil | refine SubO.cons rfl ?_)), rfl, Vw.le.refl _⟩) (fun _ _ => ?_)
        refine h_one 2 (by kernel_rfl) ?_
        refine h_to 2 rfl rfl rfl rfl rfl rfl (s_app (e := 9) (sz := 1) (by_ := 16) (m := 0) (k := T.length) (olds := []) tok (T.flatMap encS) rfl (fun E w1 hm => hT.sl.src hm.get) (fun _ _ _ => str_ones T) (by omega)) (.inr fun _ _ => ⟨(by repeat (first | exact SubO.nil | refine SubO.cons rfl ?_)), rfl, Vw.le.refl _⟩) (fun _ _ => ?_)
        refine h_one 7 (by kernel_rfl) ?_
        refine h_yield 7 rfl rfl rfl rfl (y_val tok rfl) ?_
        refine h_one 9 (by kernel_rfl) ?_
        refine h_store 9 tok rfl rfl rfl rfl (by repeat' first | exact trivial | exact rfl | apply And.intro) (.inr ⟨(by repeat (first | exact SubO.nil | refine SubO.cons rfl ?_)), rfl, Vw.le.refl _⟩) ?_
        refine h_done [4, 6] (by kernel_rfl) rfl ?_
        refine k_swap 1 4 rfl ?_
        refine k_swap 2 5 rfl ?_
        refine k_swap 3 5 rfl ?_
        refine k_swap 4 5 rfl ?_
        exact x_meet () trivial (by repeat (first | exact SubF.nil | refine SubF.cons rfl ?_)) (by repeat (first | exact SubO.nil | refine SubO.cons rfl ?_)) rfl (Vw.le.refl _)
      ·
       refine h_to 6 rfl rfl rfl rfl rfl rfl (s_mk (e := 3) (sz := 1) (by_ := 8) (z := [I 0]) tok n n rfl rfl rfl (Nat.le_refl _) (by omega) (by simp only [maxLen]; omega)) (.inr fun _ _ => ⟨(by repeat (first | exact SubO.nil | refine SubO.cons rfl ?_)), rfl, Vw.le.refl _⟩) (fun _ _ => ?_)
       refine h_two 0 4 (by kernel_rfl) ?_ ?_
       ·
        refine h_to 0 rfl rfl rfl rfl rfl rfl (s_bs tok 1 rfl rfl rfl) (.inr fun _ _ => ⟨(by repeat (first | exact SubO.nil | refine SubO.cons rfl ?_)), rfl, Vw.le.refl _⟩) (fun _ _ => ?_)
        refine h_two 2 4 (by kernel_rfl) ?_ ?_
        ·
         refine h_to 2 rfl rfl rfl rfl rfl rfl (s_app (e := 9) (sz := 1) (by_ := 16) (m := 0) (k := T.length) (olds := []) tok (T.flatMap encS) rfl (fun E w1 hm => hT.sl.src hm.get) (fun _ _ _ => str_ones T) (by omega)) (.inr fun _ _ => ⟨(by repeat (first | exact SubO.nil | refine SubO.cons rfl ?_)), rfl, Vw.le.refl _⟩) (fun _ _ => ?_)
         refine h_one 4 (by kernel_rfl) ?_
         refine h_to 4 rfl rfl rfl rfl rfl rfl (s_mk (e := 70) (sz := 1) (by_ := 24) (z := [.slice none 0 0]) tok n n rfl rfl rfl (Nat.le_refl _) (by omega) (by simp only [maxLen]; omega)) (.inr fun _ _ => ⟨(by repeat (first | exact SubO.nil | refine SubO.cons rfl ?_)), rfl, Vw.le.refl _⟩) (fun _ _ => ?_)
         refine h_one 7 (by kernel_rfl) ?_
         refine h_yield 7 rfl rfl rfl rfl (y_val tok rfl) ?_
         refine h_one 9 (by kernel_rfl) ?_
         refine h_store 9 tok rfl rfl rfl rfl (by repeat' first | exact trivial | exact rfl | apply And.intro) (.inr ⟨(by repeat (first | exact SubO.nil | refine SubO.cons rfl ?_)), rfl, Vw.le.refl _⟩) ?_
         refine h_done [4, 6] (by kernel_rfl) rfl ?_
         refine k_swap 1 3 rfl ?_
         refine k_swap 2 4 rfl ?_
         refine k_swap 3 5 rfl ?_
         exact x_meet () trivial (by repeat (first | exact SubF.nil | refine SubF.cons rfl ?_)) (by repeat (first | exact SubO.nil | refine SubO.cons rfl ?_)) rfl (Vw.le.refl _)
        ·
         refine h_to 4 rfl rfl rfl rfl rfl rfl (s_mk (e := 70) (sz := 1) (by_ := 24) (z := [.slice none 0 0]) tok n n rfl rfl rfl (Nat.le_refl _) (by omega) (by simp only [maxLen]; omega)) (.inr fun _ _ => ⟨(by repeat (first | exact SubO.nil | refine SubO.cons rfl ?_)), rfl, Vw.le.refl _⟩) (fun _ _ => ?_)
         refine h_one 2 (by kernel_rfl) ?_
         refine h_to 2 rfl rfl rfl rfl rfl rfl (s_app (e := 9) (sz := 1) (by_ := 16) (m := 0) (k := T.length) (olds := []) tok (T.flatMap encS) rfl (fun E w1 hm => hT.sl.src hm.get) (fun _ _ _ => str_ones T) (by omega)) (.inr fun _ _ => ⟨(by repeat (first | exact SubO.nil | refine SubO.cons rfl ?_)), rfl, Vw.le.refl _⟩) (fun _ _ => ?_)
         refine h_one 7 (by kernel_rfl) ?_
         refine h_yield 7 rfl rfl rfl rfl (y_val tok rfl) ?_
         refine h_one 9 (by kernel_rfl) ?_
         refine h_store 9 tok rfl rfl rfl rfl (by repeat' first | exact trivial | exact rfl | apply And.intro) (.inr ⟨(by repeat (first | exact SubO.nil | refine SubO.cons rfl ?_)), rfl, Vw.le.refl _⟩) ?_
         refine h_done [4, 6] (by kernel_rfl) rfl ?_
         refine k_swap 1 3 rfl ?_
         refine k_swap 2 5 rfl ?_
         refine k_swap 3 4 rfl ?_
         refine k_swap 4 5 rfl ?_
         exact x_meet () trivial (by repeat (first | exact SubF.nil | refine SubF.cons rfl ?_)) (by repeat (first | exact SubO.nil | refine SubO.cons rfl ?_)) rfl (Vw.le.refl _)
       ·
        refine h_to 4 rfl rfl rfl rfl rfl rfl (s_mk (e := 70) (sz := 1) (by_ := 24) (z := [.slice none 0 0]) tok n n rfl rfl rfl (Nat.le_refl _) (by omega) (by simp only [maxLen]; omega)) (.inr fun _ _ => ⟨(by repeat (first | exact SubO.nil | refine SubO.cons rfl ?_)), rfl, Vw.le.refl _⟩) (fun _ _ => ?_)
        refine h_one 0 (by kernel_rfl) ?_
        refine h_to 0 rfl rfl rfl rfl rfl rfl (s_bs tok 1 rfl rfl rfl) (.inr fun _ _ => ⟨(by repeat (first | exact SubO.nil | refine SubO.cons rfl ?_)), rfl, Vw.le.refl _⟩) (fun _ _ => ?_)
        refine h_one 2 (by kernel_rfl) ?_
        refine h_to 2 rfl rfl rfl rfl rfl rfl (s_app (e := 9) (sz := 1) (by_ := 16) (m := 0) (k := T.length) (olds := []) tok (T.flatMap encS) rfl (fun E w1 hm => hT.sl.src hm.get) (fun _ _ _ => str_ones T) (by omega)) (.inr fun _ _ => ⟨(by repeat (first | exact SubO.nil | refine SubO.cons rfl ?_)), rfl, Vw.le.refl _⟩) (fun _ _ => ?_)
        refine h_one 7 (by kernel_rfl) ?_
        refine h_yield 7 rfl rfl rfl rfl (y_val tok rfl) ?_
        refine h_one 9 (by kernel_rfl) ?_
        refine h_store 9 tok rfl rfl rfl rfl (by repeat' first | exact trivial | exact rfl | apply And.intro) (.inr ⟨(by repeat (first | exact SubO.nil | refine SubO.cons rfl ?_)), rfl, Vw.le.refl _⟩) ?_
        refine h_done [4, 6] (by kernel_rfl) rfl ?_
        refine k_swap 1 4 rfl ?_
        refine k_swap 2 5 rfl ?_
        refine k_swap 4 5 rfl ?_
        exact x_meet () trivial (by repeat (first | exact SubF.nil | refine SubF.cons rfl ?_)) (by repeat (first | exact SubO.nil | refine SubO.cons rfl ?_)) rfl (Vw.le.refl _)
    rintro ⟨⟩ -
    refine x_then ?_
    refine c_seq ?_
    refine c_seq ?_
    refine c_region ?_
    refine o_yield rfl rfl rfl (y_val tok rfl) ?_
    rw [Nat.zero_add T.length, List.nil_append]
    refine k_nilO 5 4 3 1 rfl rfl ?_
    have newChk : ∀ (w1 : World) (v1 v2 v3 v4 : Value), SlOf (vw w1) encS 1 v1 T → SlOf (vw w1) Sl.enc 1 v2 (List.replicate n (⟨.slice none 0 0, []⟩ : Sl Cell)) → SlOf (vw w1) encI64 1 v3 (List.replicate n (0 : Int)) → SlOf (vw w1) encI64 1 v4 ([] : List Int) →
        Calls Try.prog 26 #[.agg #[v1, v2, v3, I 1, v4]] w1 fun e w' => e = .returned (I 0) ∧ Below w1.heap.size w1 w' := by
      intro w1 v1 v2 v3 v4 h1' h2' h3' h4'
      have hh := refCheck_c (vw w1) ⟨⟨v1, T⟩, ⟨v2, List.replicate n ⟨.slice none 0 0, []⟩⟩, ⟨v3, List.replicate n 0⟩, 1, ⟨v4, []⟩⟩ w1 (Vw.le.refl _) ⟨h1', by simp only [maxLen]; omega, h2', by simp [maxLen]; omega, fun c hc => by rw [List.mem_replicate] at hc; rw [hc.2]; exact ⟨slNil _ _ _ _ (fun _ => rfl), by simp⟩, h3', by simp [maxLen]; omega, h4', by simp⟩
      rw [(good_new h0 h1 hTl hT2 hs).check v1 v2 v3 v4 (by rw [List.map_replicate]), if_pos rfl] at hh
      exact hh
    refine o_call (.a (.v _)) rfl rfl fnok26 rfl rfl rfl (fun hg E w1 hm => by exact newChk w1 _ _ _ _ (rowOfN hm 2 rfl rfl rfl (fun _ => rfl)) (rowOfN hm 3 rfl (by simp) hrc (fun _ => rfl)) (rowOfN hm 4 rfl (by simp) hrk (fun _ => rfl)) (slNil _ _ _ _ (fun _ => rfl))) ?_
    refine o_yield rfl rfl rfl (y_val tok rfl) ?_
    refine o_end [4, 6, 24] rfl ?_
    refine x_then ?_
    refine c_cond rfl (fun h => ?_) (fun h => ?_)
    ·
      exact absurd h (by decide)
    ·
      refine c_skip ?_
      refine x_then ?_
      refine c_seq ?_
      refine c_region ?_
      refine o_yield rfl rfl rfl (y_val tok rfl) ?_
      refine o_store tok rfl rfl rfl (by first | exact ⟨trivial, trivial⟩ | (repeat' first | exact trivial | exact rfl | apply And.intro); done | simp [onesP, oneP, lk, Value.oneCell']) ?_
      refine o_yield rfl rfl rfl (y_val tok rfl) ?_
      refine o_end [4, 5] rfl ?_
      refine x_then ?_
      refine c_ret ?_
      refine b_ret tok rfl ?_
      intro E w' hm _
      have hbw := hm.below (Vw.le.refl _)
      have hfd := fin_dev (V := V) (S := T) (D := List.replicate n (⟨.slice none 0 0, []⟩ : Sl Cell)) (K := List.replicate n 0) hm (Vw.le.refl _) 2 3 4 6 1 rfl rfl rfl rfl ⟨rfl, rfl⟩ ⟨by simp, hrc⟩ ⟨by simp, hrk⟩ (fun c hc => by
        rw [List.mem_replicate] at hc
        rw [hc.2]
        exact slNil _ _ _ _ (fun _ => rfl))
      rw [List.map_replicate] at hfd
      exact ⟨_, V.grown w w', rfl, hbw, Vext.grown hV hbw, _, rfl, hfd⟩
end Go.Proofs.Ytipmgnhbcaniiaa

/- The document's cells of blocks; what settling wants and takes. -/
set_option linter.unusedVariables false
set_option linter.unusedSimpArgs false
set_option maxRecDepth 100000
namespace Go.Proofs.Ytipmgnhbcaniiaa
open Go Go.Eng Go.RowKit

theorem rpieces_cV (V : Vw) (g : Geo) (ok : g.Ok) (text : ByteArray) (w : World) (hV : V.le (vw w)) (ht : text.size ≤ maxLen) (hg : geoB g = true) (hle : (text.size : Int) ≤ g.per * 256) :
    Calls Try.prog 64 #[g.val, S text] w fun e w' => ∃ x V', e = .returned x ∧ Below w.heap.size w w' ∧ Vext w.heap.size V V' w' ∧ ∃ a n c, x = .tuple #[.slice a n c, I 0] ∧ SlOf V' encS 1 (.slice a n c) (pieceL g.per.toNat text) := by
  refine (refPieces_c g ok text w ht).mono ?_
  rintro e w' ⟨h | h | h, hb⟩
  · obtain ⟨_, _, v, rfl, hrow⟩ := h
    obtain ⟨V', hx, hsl⟩ := ownsRow_vext hV hb hrow
    obtain ⟨a, n, c, rfl⟩ := sl_shape hsl
    exact ⟨_, V', rfl, hb, hx, a, n, c, rfl, hsl, fun _ => rfl⟩
  · rw [hg] at h; cases h.1
  · omega

set_option maxHeartbeats 2000000 in
theorem rcells_c (V : Vw) (g : Geo) (ok : g.Ok) (sa : Option Addr) (sm sc : Nat) (l : List Block) (w : World) (hV : V.le (vw w)) (hs0 : SlOf V Block.cells 2 (.slice sa sm sc) l) (hn : l.length ≤ maxLen) (hml : mayL g l = true) :
    Calls Try.prog 51 #[g.val, .slice sa sm sc] w fun e w' => (∃ v, e = .returned (.tuple #[v, I 0]) ∧ w'.ownsRow w.heap.size 83 2 v (allCells g l).length ((allCells g l).flatMap Cell.cells)) ∧ Below w.heap.size w w' := by
  have hs := hs0.mono hV
  have hn0 := hn
  simp only [maxLen] at hn
  have hlen := mayL_len hml
  have hmay := hml
  rw [mayL, Bool.and_eq_true] at hmay
  have hf := geo_facts hmay.1
  have hat := mayF_at hmay.2
  obtain ⟨per, hper⟩ : ∃ per : Nat, g.per = per := ⟨g.per.toNat, by omega⟩
  have hpn : g.per.toNat = per := by omega
  refine enter (E := E0) (O := []) (nl := 0) (V := vw w) [.a (.v g.val), .a (.v (.slice sa sm sc))] Try.func51 rfl rfl (mem0 E0 0 w) rfl rfl ?_
  refine c_seq ?_
  refine c_region ?_
  refine o_new tok rfl rfl rfl rfl ?_
  refine o_yield rfl rfl rfl (y_val tok rfl) ?_
  refine o_yield rfl rfl rfl (y_val tok rfl) ?_
  refine o_end [1, 2] rfl ?_
  refine x_then ?_
  refine c_seq ?_
  refine c_seq ?_
  refine c_region ?_
  refine o_yield rfl rfl rfl (y_val tok rfl) ?_
  refine o_yield rfl rfl rfl (y_val tok rfl) ?_
  refine o_call (.a (.v _)) rfl rfl fnok5 rfl rfl rfl (fun hg E w1 hm => by exact refBMay_c (vw w) g ok _ l _ hm.leV hs hn0) ?_
  refine o_yield rfl rfl rfl (y_val tok rfl) ?_
  refine o_end [1, 2, 14] rfl ?_
  refine x_then ?_
  refine c_cond rfl (fun h => ?_) (fun h => ?_)
  ·
    simp only [Bool.and_eq_true, Bool.or_eq_true, Bool.not_eq_true', Bool.or_eq_false_iff, Bool.and_eq_false_iff, decide_eq_true_eq, decide_eq_false_iff_not, beq_iff_eq, bne_iff_ne, Bool.not_eq_false', beq_eq_false_iff_ne, bne_eq_false_iff_eq, ne_eq, Decidable.not_not, Int.not_lt, Int.not_le] at h
    refine c_seq ?_
    refine c_region ?_
    refine o_yield rfl rfl rfl (y_val tok rfl) ?_
    refine o_yield rfl rfl rfl (y_val tok rfl) ?_
    refine o_end [4, 5] rfl ?_
    refine x_then ?_
    refine c_ret ?_
    refine x_then_ret ?_
    refine b_ret tok rfl ?_
    rw [hml] at h; cases h
  ·
    simp only [Bool.and_eq_true, Bool.or_eq_true, Bool.not_eq_true', Bool.or_eq_false_iff, Bool.and_eq_false_iff, decide_eq_true_eq, decide_eq_false_iff_not, beq_iff_eq, bne_iff_ne, Bool.not_eq_false', beq_eq_false_iff_ne, bne_eq_false_iff_eq, ne_eq, Decidable.not_not, Int.not_lt, Int.not_le] at h
    refine c_skip ?_
    refine x_then ?_
    refine c_seq ?_
    refine c_region ?_
    refine o_yield rfl rfl rfl (y_val tok rfl) ?_
    refine o_end [1, 2, 6] rfl ?_
    refine x_then ?_
    refine c_seq ?_
    refine c_seq ?_
    refine c_region ?_
    refine o_yield rfl rfl rfl (y_val tok rfl) ?_
    refine o_end [1, 2, 6, 7] rfl ?_
    refine x_then ?_
    refine c_block ?_
    refine k_nil 6 83 2 rfl rfl ?_
    have e0 : cellsN g per l (0 * per) = [] := by simp [cellsN]
    refine c_loopK [1, 2] [1, 0] rfl rfl (σ := Nat) (fun i => [(6, .a (.row 1)), (7, .a (.v (I i)))]) (fun i => [(1, .row 83 2 (cellsN g per l (i * per)).length ((cellsN g per l (i * per)).flatMap Cell.cells)), (0, .lit (g.cells.map .v) 23)]) (fun i => i ≤ l.length) (fun i => l.length - i) (0) (by omega) (by repeat (first | exact SubF.nil | refine SubF.cons rfl ?_ | refine SubF.cons (by simp only [e0]; first | done | rfl) ?_)) (by repeat (first | exact SubO.nil | refine SubO.cons rfl ?_ | refine SubO.cons (by simp only [e0]; first | done | rfl) ?_)) rfl ?_
    rintro i hi
    have hip : i * per ≤ 512 := by
      have : i * per ≤ 64 * per := Nat.mul_le_mul_right _ (by omega)
      omega
    refine c_seq ?_
    refine c_seq ?_
    refine c_region ?_
    refine o_yield rfl rfl rfl (y_val tok rfl) ?_
    refine o_yield rfl rfl rfl (y_val tok rfl) ?_
    refine o_yield rfl rfl rfl (y_len tok rfl (fun hg => hs.sl)) ?_
    refine o_yield rfl rfl rfl (y_val tok rfl) ?_
    refine o_end [1, 2, 6, 7, 18] rfl ?_
    refine x_then ?_
    refine c_cond rfl (fun h => ?_) (fun h => ?_)
    ·
      simp only [Bool.and_eq_true, Bool.or_eq_true, Bool.not_eq_true', Bool.or_eq_false_iff, Bool.and_eq_false_iff, decide_eq_true_eq, decide_eq_false_iff_not, beq_iff_eq, bne_iff_ne, Bool.not_eq_false', beq_eq_false_iff_ne, bne_eq_false_iff_eq, ne_eq, Decidable.not_not, Int.not_lt, Int.not_le] at h
      refine c_skip ?_
      refine x_then ?_
      refine c_seq ?_
      refine c_block ?_
      refine c_seq ?_
      refine c_heldR mixed rfl (by repeat (first | exact SubO.nil | refine SubO.cons rfl ?_)) (by first | rfl | simp [okCels, allOk_plain]) ?_
      refine t_take 0 rfl (by kernel_rfl) rfl rfl rfl (y_val tok rfl) rfl ?_
      refine t_take 1 rfl (by kernel_rfl) rfl rfl rfl (y_val tok rfl) rfl ?_
      refine t_take 2 rfl (by kernel_rfl) rfl rfl rfl (y_val tok rfl) rfl ?_
      obtain ⟨x, h_x⟩ := hs.at (k := i) (by omega)
      have hlt_x := lt_of_at h_x
      refine t_take 3 rfl (by kernel_rfl) rfl rfl rfl (y_idx tok rfl (fun hg => hs.sl) (fun hg => ⟨by omega, by omega⟩)) rfl ?_
      refine t_take 4 rfl (by kernel_rfl) rfl rfl rfl (y_fel tok rfl (fun hg => hs.sl) (fun hg => by omega)) rfl ?_
      refine t_take 5 rfl (by kernel_rfl) rfl rfl rfl (y_lel tok (i) 1 (x) rfl (fun hg => hs) (fun hg => h_x) rfl rfl) rfl ?_
      refine t_go ?_
      refine h_one 6 (by kernel_rfl) ?_
      obtain ⟨_, _, hx3, _, _⟩ := hat i x h_x
      have hxs : x.text.size ≤ 2048 := by omega
      have hpl : (pieceL per x.text).length = per := pieceL_len _ _
      refine h_callV 6 (fun y V' => ∃ a n c, y = .tuple #[.slice a n c, I 0] ∧ SlOf V' encS 1 (.slice a n c) (pieceL per x.text)) rfl rfl rfl fnok64 rfl rfl (fun hg E w1 hm => by exact by have := rpieces_cV (vw w) g ok x.text w1 hm.leV (by simp only [maxLen]; omega) hmay.1 hx3; rw [hpn] at this; exact this) ?_
      rintro y V1 hle1 hy
      obtain ⟨a1, n1, c1, rfl, hs1⟩ := hy rfl
      refine h_one 7 (by kernel_rfl) ?_
      refine h_yield 7 rfl rfl rfl rfl (y_val tok rfl) ?_
      refine h_take 8 rfl (by kernel_rfl) rfl rfl rfl rfl (y_val tok rfl) rfl ?_
      refine h_take 9 rfl (by kernel_rfl) rfl rfl rfl rfl (y_val tok rfl) rfl ?_
      refine h_one 10 (by kernel_rfl) ?_
      refine h_yield 10 rfl rfl rfl rfl (y_val tok rfl) ?_
      refine h_one 11 (by kernel_rfl) ?_
      refine h_yield 11 rfl rfl rfl rfl (y_val tok rfl) ?_
      refine h_done [1, 2, 6, 7, 8] (by kernel_rfl) rfl ?_
      refine x_then ?_
      refine c_seq ?_
      refine c_region ?_
      refine o_yield rfl rfl rfl (y_val tok rfl) ?_
      refine o_end [1, 2, 6, 7, 8, 10] rfl ?_
      refine x_then ?_
      refine c_block ?_
      refine c_loopK [1, 2, 7, 8] [1, 0] rfl rfl (σ := Nat) (fun k => [(6, .a (.row 1)), (10, .a (.v (I k)))]) (fun k => [(1, .row 83 2 (cellsN g per l (i * per + k)).length ((cellsN g per l (i * per + k)).flatMap Cell.cells)), (0, .lit (g.cells.map .v) 23)]) (fun k => k ≤ per) (fun k => per - k) (0) (by omega) (by repeat (first | exact SubF.nil | refine SubF.cons rfl ?_)) (by repeat (first | exact SubO.nil | refine SubO.cons rfl ?_)) rfl ?_
      rintro k hk
      refine c_seq ?_
      refine c_seq ?_
      refine c_region ?_
      refine o_yield rfl rfl rfl (y_val tok rfl) ?_
      refine o_yield rfl rfl rfl (y_val tok rfl) ?_
      refine o_yield rfl rfl rfl (y_len tok rfl (fun hg => hs1.sl)) ?_
      refine o_yield rfl rfl rfl (y_val tok rfl) ?_
      refine o_end [1, 2, 6, 7, 8, 10, 34] rfl ?_
      refine x_then ?_
      refine c_cond rfl (fun h => ?_) (fun h => ?_)
      ·
        simp only [Bool.and_eq_true, Bool.or_eq_true, Bool.not_eq_true', Bool.or_eq_false_iff, Bool.and_eq_false_iff, decide_eq_true_eq, decide_eq_false_iff_not, beq_iff_eq, bne_iff_ne, Bool.not_eq_false', beq_eq_false_iff_ne, bne_eq_false_iff_eq, ne_eq, Decidable.not_not, Int.not_lt, Int.not_le] at h
        refine c_skip ?_
        refine x_then ?_
        refine c_seq ?_
        refine c_block ?_
        refine c_held [] ([(0, .lit (g.cells.map .v) 23)]) mixed (by repeat (first | exact SubO.nil | refine SubO.cons rfl ?_)) (by first | rfl | simp [okCels, allOk_plain]) ?_
        refine t_take 0 rfl (by kernel_rfl) rfl rfl rfl (y_val tok rfl) rfl ?_
        refine t_take 1 rfl (by kernel_rfl) rfl rfl rfl (y_val tok rfl) rfl ?_
        refine t_take 2 rfl (by kernel_rfl) rfl rfl rfl (y_val tok rfl) rfl ?_
        refine t_take 3 rfl (by kernel_rfl) rfl rfl rfl (y_val tok rfl) rfl ?_
        have hklt : k < per := by omega
        have hp : (pieceL per x.text)[k]? = some (pieceAt x.text k) := by simp [pieceL, List.getElem?_range hklt]
        have hca := cellAt_eq g h_x hklt
        have hl1 : (cellsN g per l (i * per + k)).length + 1 = (cellsN g per l (i * per + (k + 1))).length := by rw [cellsN_len, cellsN_len]; omega
        have hsx := hs.mono hle1
        have hlt_x := lt_of_at h_x
        refine t_take 4 rfl (by kernel_rfl) rfl rfl rfl (y_idx tok rfl (fun hg => hsx.sl) (fun hg => ⟨by omega, by omega⟩)) rfl ?_
        refine t_take 5 rfl (by kernel_rfl) rfl rfl rfl (y_fel tok rfl (fun hg => hsx.sl) (fun hg => by omega)) rfl ?_
        refine t_take 6 rfl (by kernel_rfl) rfl rfl rfl (y_lel tok (i) 0 (x) rfl (fun hg => hsx) (fun hg => h_x) rfl rfl) rfl ?_
        refine t_take 7 rfl (by kernel_rfl) rfl rfl rfl (y_val tok rfl) rfl ?_
        refine t_take 9 rfl (by kernel_rfl) rfl rfl rfl (y_val tok rfl) rfl ?_
        refine t_take 10 rfl (by kernel_rfl) rfl rfl rfl (y_val tok rfl) rfl ?_
        have hlt_pieceAt_x_text_k := lt_of_at hp
        refine t_take 11 rfl (by kernel_rfl) rfl rfl rfl (y_idx tok rfl (fun hg => hs1.sl) (fun hg => ⟨by omega, by omega⟩)) rfl ?_
        refine t_take 12 rfl (by kernel_rfl) rfl rfl rfl (y_lel tok (k) 0 (pieceAt x.text k) rfl (fun hg => hs1) (fun hg => hp) rfl rfl) rfl ?_
        refine t_go ?_
        refine h_one 8 (by kernel_rfl) ?_
        refine h_call 8 (.a (.v _)) rfl rfl rfl fnok21 rfl rfl rfl (fun hg E w1 hm => by exact refData_c g ok x.n k _) ?_
        refine h_one 13 (by kernel_rfl) ?_
        refine h_yield 13 rfl rfl rfl rfl (y_val tok rfl) ?_
        refine h_one 14 (by kernel_rfl) ?_
        refine h_to 14 rfl rfl rfl rfl rfl rfl (s_bs tok 2 rfl rfl rfl) (.inr fun _ _ => ⟨(by repeat (first | exact SubO.nil | refine SubO.cons rfl ?_)), rfl, (by first | exact Vw.le.refl _ | assumption)⟩) (fun _ _ => ?_)
        refine h_one 15 (by kernel_rfl) ?_
        refine h_to 15 rfl rfl rfl rfl rfl rfl (s_app tok ([cellAt g per l (i * per + k)].flatMap Cell.cells) rfl (fun E w hm => by rw [hca]; exact ownsRow_src (hm.row _ _ _ _ _ rfl)) (fun _ _ _ => cell_ones _) (by dsimp only; rw [cellsN_len]; omega)) (.inr fun _ _ => ⟨(by repeat (first | exact SubO.nil | refine SubO.cons rfl ?_)), rfl, (by first | exact Vw.le.refl _ | assumption)⟩) (fun _ _ => ?_)
        refine h_one 16 (by kernel_rfl) ?_
        refine h_yield 16 rfl rfl rfl rfl (y_val tok rfl) ?_
        refine h_done [1, 2, 6, 7, 8, 10] (by kernel_rfl) rfl ?_
        refine x_block ?_
        refine x_then ?_
        refine c_region ?_
        refine o_yield rfl rfl rfl (y_val tok rfl) ?_
        refine o_yield rfl rfl rfl (y_val tok rfl) ?_
        refine o_yield rfl rfl rfl (y_val tok rfl) ?_
        refine o_end [1, 2, 6, 7, 8, 10] rfl ?_
        refine x_then ?_
        rw [hl1, ← List.flatMap_append, ← cellsN_succ, wrapI (n := (k : Int) + 1) (by omega) (by omega)]
        refine k_swap 1 3 rfl ?_
        refine x_round (k + 1) (by omega) (by first | omega | (dsimp only; omega)) (by repeat (first | exact SubF.nil | refine SubF.cons rfl ?_)) (by repeat (first | exact SubO.nil | refine SubO.cons rfl ?_)) rfl (Vw.le.refl _)
      ·
        simp only [Bool.and_eq_true, Bool.or_eq_true, Bool.not_eq_true', Bool.or_eq_false_iff, Bool.and_eq_false_iff, decide_eq_true_eq, decide_eq_false_iff_not, beq_iff_eq, bne_iff_ne, Bool.not_eq_false', beq_eq_false_iff_ne, bne_eq_false_iff_eq, ne_eq, Decidable.not_not, Int.not_lt, Int.not_le] at h
        refine c_exit ?_
        refine x_then_exit ?_
        refine x_then_exit ?_
        refine x_block_hit ?_
        refine x_block ?_
        refine x_then ?_
        refine c_region ?_
        refine o_yield rfl rfl rfl (y_val tok rfl) ?_
        refine o_yield rfl rfl rfl (y_val tok rfl) ?_
        refine o_yield rfl rfl rfl (y_val tok rfl) ?_
        refine o_end [1, 2, 6, 7] rfl ?_
        refine x_then ?_
        have hkp : k = per := by omega
        subst hkp
        rw [wrapI (n := (i : Int) + 1) (by omega) (by omega), show i * k + k = (i + 1) * k by rw [Nat.add_mul, Nat.one_mul]]
        refine x_round (i + 1) (by omega) (by first | omega | (dsimp only; omega)) (by repeat (first | exact SubF.nil | refine SubF.cons rfl ?_)) (by repeat (first | exact SubO.nil | refine SubO.cons rfl ?_)) rfl (hle1)
    ·
      simp only [Bool.and_eq_true, Bool.or_eq_true, Bool.not_eq_true', Bool.or_eq_false_iff, Bool.and_eq_false_iff, decide_eq_true_eq, decide_eq_false_iff_not, beq_iff_eq, bne_iff_ne, Bool.not_eq_false', beq_eq_false_iff_ne, bne_eq_false_iff_eq, ne_eq, Decidable.not_not, Int.not_lt, Int.not_le] at h
      refine c_exit ?_
      refine x_then_exit ?_
      refine x_then_exit ?_
      refine x_block_hit ?_
      refine x_then ?_
      refine c_seq ?_
      refine c_region ?_
      refine o_yield rfl rfl rfl (y_val tok rfl) ?_
      refine o_yield rfl rfl rfl (y_val tok rfl) ?_
      refine o_yield rfl rfl rfl (y_val tok rfl) ?_
      refine o_end [4, 5] rfl ?_
      refine x_then ?_
      refine c_ret ?_
      refine b_ret tok rfl ?_
      have hil : i = l.length := by omega
      subst hil
      intro E w' hm _
      refine ⟨⟨E.κ 1, rfl, ?_⟩, hm.below (Vw.le.refl _)⟩
      rw [allCells, hpn]
      exact hm.rowFresh (Vw.le.refl _) (l := 1) rfl
end Go.Proofs.Ytipmgnhbcaniiaa

/- Settling, by the document: what it begins with, wants, comes to. -/
set_option linter.unusedVariables false
set_option linter.unusedSimpArgs false
set_option maxRecDepth 100000
namespace Go.Proofs.Ytipmgnhbcaniiaa
open Go Go.Eng Go.RowKit

abbrev stV (a : Option Addr) (n c : Nat) (i left at_ : Int) : Value := .agg #[.slice a n c, I i, I left, I8 at_]

theorem rbegin20_c (V : Vw) (g : Geo) (ok : g.Ok) (sa : Option Addr) (sm sc : Nat) (l : List Block) (w : World) (hV : V.le (vw w)) (hs0 : SlOf V Block.cells 2 (.slice sa sm sc) l) (hn : l.length ≤ maxLen) (hml : mayL g l = true) :
    Calls Try.prog 27 #[g.val, .slice sa sm sc] w fun e w' => ∃ x V', e = .returned x ∧ Below w.heap.size w w' ∧ Vext w.heap.size V V' w' ∧ ∃ a n c, x = .tuple #[stV a n c 0 0 (if (allCells g l).length = 0 then 3 else 0), I 0] ∧ SlOf V' Cell.cells 2 (.slice a n c) (allCells g l) := by
  have hs := hs0.mono hV
  refine enter (E := E0) (O := []) (nl := 0) (V := vw w) [.a (.v g.val), .a (.v (.slice sa sm sc))] Try.func27 rfl rfl (mem0 E0 0 w) rfl rfl ?_
  refine c_seq ?_
  refine c_region ?_
  refine o_new tok rfl rfl rfl rfl ?_
  refine o_new tok rfl rfl rfl rfl ?_
  refine o_yield rfl rfl rfl (y_val tok rfl) ?_
  refine o_end [1, 2, 4] rfl ?_
  refine x_then ?_
  refine c_seq ?_
  refine c_region ?_
  refine o_yield rfl rfl rfl (y_val tok rfl) ?_
  refine o_yield rfl rfl rfl (y_val tok rfl) ?_
  refine o_callV (fun y V' => ∃ a n c, y = .tuple #[.slice a n c, I 0] ∧ SlOf V' Cell.cells 2 (.slice a n c) (allCells g l) ∧ NewSl w.heap.size (.slice a n c)) rfl rfl fnok51 rfl rfl (fun hg E w1 hm => by exact (rcells_c (vw w) g ok sa sm sc l w1 hm.leV hs hn hml).mono fun e w' h => by obtain ⟨⟨v, rfl, hrow⟩, hb⟩ := h; obtain ⟨V', hx, hsl⟩ := ownsRow_vext hm.leV hb hrow; obtain ⟨a, n, c, rfl⟩ := sl_shape hsl; exact ⟨_, V', rfl, hb, hx, a, n, c, rfl, ⟨hsl, fun _ => rfl⟩, fun k hk => Nat.le_trans (hm.below (Vw.le.refl _)).size (hrow.lt k hk).1⟩) ?_
  rintro y W hle hy
  obtain ⟨a, n, c, rfl, hc, hnew⟩ := hy rfl
  refine o_yield rfl rfl rfl (y_val tok rfl) ?_
  refine o_yield rfl rfl rfl (y_val tok rfl) ?_
  refine o_yield rfl rfl rfl (y_val tok rfl) ?_
  refine o_yield rfl rfl rfl (y_val tok rfl) ?_
  refine o_yield rfl rfl rfl (y_val tok rfl) ?_
  refine o_end [4, 6, 7] rfl ?_
  refine x_then ?_
  refine c_seq ?_
  refine c_seq ?_
  refine c_region ?_
  refine o_yield rfl rfl rfl (y_val tok rfl) ?_
  refine o_yield rfl rfl rfl (y_val tok rfl) ?_
  refine o_end [4, 6, 7, 15] rfl ?_
  refine x_then ?_
  refine c_cond rfl (fun h => ?_) (fun h => ?_)
  ·
    exact absurd h (by decide)
  ·
    refine c_skip ?_
    refine x_then ?_
    refine c_seq ?_
    refine c_seq ?_
    refine c_region ?_
    refine o_yield rfl rfl rfl (y_val tok rfl) ?_
    refine o_yield rfl rfl rfl (y_len tok rfl (fun hg => hc.sl)) ?_
    refine o_yield rfl rfl rfl (y_val tok rfl) ?_
    refine o_end [4, 6, 20] rfl ?_
    refine x_then ?_
    refine c_cond rfl (fun h => ?_) (fun h => ?_)
    ·
      have h0 : (allCells g l).length = 0 := by simpa using h
      have hnil : allCells g l = [] := List.eq_nil_of_length_eq_zero h0
      clear h
      refine c_seq ?_
      refine c_region ?_
      refine o_yield rfl rfl rfl (y_val tok rfl) ?_
      refine o_store tok rfl rfl rfl (by first | exact ⟨trivial, trivial⟩ | (repeat' first | exact trivial | exact rfl | apply And.intro); done | simp [onesP, oneP, lk, Value.oneCell']) ?_
      refine o_yield rfl rfl rfl (y_val tok rfl) ?_
      refine o_end [4, 5] rfl ?_
      refine x_then ?_
      refine c_ret ?_
      refine x_then_ret ?_
      refine b_ret tok rfl ?_
      intro E w' hm _
      have hbw := hm.below hle
      exact ⟨_, V.grown w w', rfl, hbw, Vext.grown hV hbw, none, 0, 0, by rw [if_pos h0]; rfl, by rw [hnil]; exact slNil _ _ _ _ (fun _ => rfl)⟩
    ·
      have h0 : ¬ (allCells g l).length = 0 := by simpa using h
      clear h
      refine c_skip ?_
      refine x_then ?_
      refine c_seq ?_
      refine c_region ?_
      refine o_yield rfl rfl rfl (y_val tok rfl) ?_
      refine o_yield rfl rfl rfl (y_val tok rfl) ?_
      refine o_store tok rfl rfl rfl (by first | exact ⟨trivial, trivial⟩ | (repeat' first | exact trivial | exact rfl | apply And.intro); done | simp [onesP, oneP, lk, Value.oneCell']) ?_
      refine o_yield rfl rfl rfl (y_val tok rfl) ?_
      refine o_end [4, 5] rfl ?_
      refine x_then ?_
      refine c_ret ?_
      refine b_ret tok rfl ?_
      intro E w' hm _
      have hbw := hm.below hle
      exact ⟨_, V.grown w w', rfl, hbw, Vext.grown hV hbw, a, n, c, by rw [if_neg h0]; rfl, hc.newIn hnew (NewIn.grown hm)⟩

theorem rover20_c (a : Option Addr) (n c : Nat) (i left at_ : Int) (w : World) : Calls Try.prog 28 #[stV a n c i left at_] w fun e w' => e = .returned (.bool (decide (2 < at_))) ∧ Below w.heap.size w w' := by
  refine enter (E := E0) (O := []) (nl := 0) (V := vw w) [.a (.v (stV a n c i left at_))] Try.func28 rfl rfl (mem0 E0 0 w) rfl rfl ?_
  refine c_seq ?_
  refine c_region ?_
  refine o_new tok rfl rfl rfl rfl ?_
  refine o_yield rfl rfl rfl (y_val tok rfl) ?_
  refine o_end [1] rfl ?_
  refine x_then ?_
  refine c_seq ?_
  refine c_region ?_
  refine o_yield rfl rfl rfl (y_val tok rfl) ?_
  refine o_yield rfl rfl rfl (y_val tok rfl) ?_
  refine o_yield rfl rfl rfl (y_val tok rfl) ?_
  refine o_yield rfl rfl rfl (y_val tok rfl) ?_
  refine o_end [2] rfl ?_
  refine x_then ?_
  refine c_ret ?_
  refine b_ret tok rfl ?_
  intro E w' hm _
  refine ⟨?_, hm.below (Vw.le.refl _)⟩
  rfl

theorem rwant0_c (V : Vw) (g : Geo) (ok : g.Ok) (a : Option Addr) (n c : Nat) (L : List Cell) (i : Nat) (x : Cell) (slot head : Int) (w : World) (hV : V.le (vw w)) (hs0 : SlOf V Cell.cells 2 (.slice a n c) L) (hx : L[i]? = some x) (hL : L.length ≤ 1000) (hh : (headS head).2 = 0) (hk : 0 ≤ headV g slot) :
    Calls Try.prog 29 #[g.val, stV a n c i 0 0, I slot, I head] w fun e w' => e = .returned (⟨3, x.sector, x.b, 0⟩ : ActV).val ∧ Below w.heap.size w w' := by
  have hs := hs0.mono hV
  have hi := (List.getElem?_eq_some_iff.1 hx).1
  have hhd := refHeadS_c head
  rw [hh] at hhd
  refine enter (E := E0) (O := []) (nl := 0) (V := vw w) [.a (.v g.val), .a (.v (stV a n c i 0 0)), .a (.v (I slot)), .a (.v (I head))] Try.func29 rfl rfl (mem0 E0 0 w) rfl rfl ?_
  refine c_seq ?_
  refine c_region ?_
  refine o_new tok rfl rfl rfl rfl ?_
  refine o_new tok rfl rfl rfl rfl ?_
  refine o_new tok rfl rfl rfl rfl ?_
  refine o_end [2, 3, 4, 5, 8] rfl ?_
  refine x_then ?_
  refine c_seq ?_
  refine c_region ?_
  refine o_yield rfl rfl rfl (y_val tok rfl) ?_
  refine o_call (.a (.v _)) rfl rfl fnok23 rfl rfl rfl (fun hg E w1 hm => by exact hhd _) ?_
  refine o_yield rfl rfl rfl (y_val tok rfl) ?_
  refine o_yield rfl rfl rfl (y_val tok rfl) ?_
  refine o_yield rfl rfl rfl (y_val tok rfl) ?_
  refine o_yield rfl rfl rfl (y_val tok rfl) ?_
  refine o_yield rfl rfl rfl (y_val tok rfl) ?_
  refine o_end [2, 4, 5, 8, 9, 10] rfl ?_
  refine x_then ?_
  refine c_seq ?_
  refine c_region ?_
  refine o_yield rfl rfl rfl (y_val tok rfl) ?_
  refine o_yield rfl rfl rfl (y_val tok rfl) ?_
  refine o_call (.a (.v _)) rfl rfl fnok25 rfl rfl rfl (fun hg E w1 hm => by exact refHead_c g ok slot _) ?_
  refine o_yield rfl rfl rfl (y_val tok rfl) ?_
  refine o_end [5, 8, 9, 10, 11] rfl ?_
  refine x_then ?_
  refine c_seq ?_
  refine c_seq ?_
  refine c_region ?_
  refine o_yield rfl rfl rfl (y_val tok rfl) ?_
  refine o_yield rfl rfl rfl (y_val tok rfl) ?_
  refine o_yield rfl rfl rfl (y_val tok rfl) ?_
  refine o_yield rfl rfl rfl (y_val tok rfl) ?_
  refine o_yield rfl rfl rfl (y_val tok rfl) ?_
  refine o_yield rfl rfl rfl (y_val tok rfl) ?_
  refine o_end [5, 8, 9, 11, 25] rfl ?_
  refine x_then ?_
  refine c_cond rfl (fun h => ?_) (fun h => ?_)
  ·
    exfalso
    simp at h
    omega
  ·
    refine c_skip ?_
    refine x_then ?_
    refine c_seq ?_
    refine c_block ?_
    refine c_seq ?_
    refine c_region ?_
    refine o_yield rfl rfl rfl (y_val tok rfl) ?_
    refine o_yield rfl rfl rfl (y_val tok rfl) ?_
    refine o_yield rfl rfl rfl (y_val tok rfl) ?_
    refine o_yield rfl rfl rfl (y_val tok rfl) ?_
    refine o_yield rfl rfl rfl (y_val tok rfl) ?_
    refine o_yield rfl rfl rfl (y_val tok rfl) ?_
    refine o_yield rfl rfl rfl (y_val tok rfl) ?_
    refine o_yield rfl rfl rfl (y_val tok rfl) ?_
    refine o_yield rfl rfl rfl (y_val tok rfl) ?_
    refine o_yield rfl rfl rfl (y_val tok rfl) ?_
    refine o_yield rfl rfl rfl (y_val tok rfl) ?_
    refine o_yield rfl rfl rfl (y_val tok rfl) ?_
    refine o_yield rfl rfl rfl (y_val tok rfl) ?_
    refine o_yield rfl rfl rfl (y_len tok rfl (fun hg => hs.sl)) ?_
    refine o_yield rfl rfl rfl (y_val tok rfl) ?_
    refine o_yield rfl rfl rfl (y_val tok rfl) ?_
    refine o_yield rfl rfl rfl (y_val tok rfl) ?_
    refine o_end [5, 8, 9, 11, 27] rfl ?_
    refine x_then ?_
    refine c_cond rfl (fun h => ?_) (fun h => ?_)
    ·
      refine c_seq ?_
      refine c_held [] ([(0, .lit (g.cells.map .v) 23), (1, .lit [.v (.slice a n c), .v (I i), .v (I 0), .v (I8 0)] 72)]) mixed (by repeat (first | exact SubO.nil | refine SubO.cons rfl ?_)) (by first | rfl | simp [okCels, allOk_plain]) ?_
      refine t_take 0 rfl (by kernel_rfl) rfl rfl rfl (y_val tok rfl) rfl ?_
      refine t_take 1 rfl (by kernel_rfl) rfl rfl rfl (y_val tok rfl) rfl ?_
      refine t_take 2 rfl (by kernel_rfl) rfl rfl rfl (y_val tok rfl) rfl ?_
      refine t_take 3 rfl (by kernel_rfl) rfl rfl rfl (y_val tok rfl) rfl ?_
      have hlt_x := lt_of_at hx
      refine t_take 4 rfl (by kernel_rfl) rfl rfl rfl (y_idx tok rfl (fun hg => hs.sl) (fun hg => ⟨by omega, by omega⟩)) rfl ?_
      refine t_take 5 rfl (by kernel_rfl) rfl rfl rfl (y_fel tok rfl (fun hg => hs.sl) (fun hg => by omega)) rfl ?_
      refine t_take 6 rfl (by kernel_rfl) rfl rfl rfl (y_lel tok (i) 0 (x) rfl (fun hg => hs) (fun hg => hx) rfl rfl) rfl ?_
      refine t_take 7 rfl (by kernel_rfl) rfl rfl rfl (y_val tok rfl) rfl ?_
      refine t_take 8 rfl (by kernel_rfl) rfl rfl rfl (y_val tok rfl) rfl ?_
      refine t_take 9 rfl (by kernel_rfl) rfl rfl rfl (y_val tok rfl) rfl ?_
      refine t_take 10 rfl (by kernel_rfl) rfl rfl rfl (y_val tok rfl) rfl ?_
      have hlt_x := lt_of_at hx
      refine t_take 11 rfl (by kernel_rfl) rfl rfl rfl (y_idx tok rfl (fun hg => hs.sl) (fun hg => ⟨by omega, by omega⟩)) rfl ?_
      refine t_take 12 rfl (by kernel_rfl) rfl rfl rfl (y_fel tok rfl (fun hg => hs.sl) (fun hg => by omega)) rfl ?_
      refine t_take 13 rfl (by kernel_rfl) rfl rfl rfl (y_lel tok (i) 1 (x) rfl (fun hg => hs) (fun hg => hx) rfl rfl) rfl ?_
      refine t_take 14 rfl (by kernel_rfl) rfl rfl rfl (y_val tok rfl) rfl ?_
      refine t_go ?_
      refine h_one 15 (by kernel_rfl) ?_
      refine h_store 15 tok rfl rfl rfl rfl (by first | exact ⟨trivial, trivial⟩ | (repeat' first | exact trivial | exact rfl | apply And.intro); done | simp [onesP, oneP, lk, Value.oneCell']) (.inr ⟨(by repeat (first | exact SubO.nil | refine SubO.cons rfl ?_)), rfl, (by first | exact Vw.le.refl _ | assumption)⟩) ?_
      refine h_done [8] (by kernel_rfl) rfl ?_
      refine x_then ?_
      refine c_ret ?_
      refine x_block_ret ?_
      refine x_then_ret ?_
      refine b_ret tok rfl ?_
      intro E w' hm _
      refine ⟨?_, hm.below (Vw.le.refl _)⟩
      rfl
    ·
      exfalso
      simp at h
      omega

theorem rwant1_c (g : Geo) (ok : g.Ok) (a : Option Addr) (n c : Nat) (i left : Int) (slot head : Int) (w : World) (hh : (headS head).2 = 0) (hk : 0 ≤ headV g slot) :
    Calls Try.prog 29 #[g.val, stV a n c i left 1, I slot, I head] w fun e w' => e = .returned (⟨4, 0, ByteArray.empty, 0⟩ : ActV).val ∧ Below w.heap.size w w' := by
  have hhd := refHeadS_c head
  rw [hh] at hhd
  refine enter (E := E0) (O := []) (nl := 0) (V := vw w) [.a (.v g.val), .a (.v (stV a n c i left 1)), .a (.v (I slot)), .a (.v (I head))] Try.func29 rfl rfl (mem0 E0 0 w) rfl rfl ?_
  refine c_seq ?_
  refine c_region ?_
  refine o_new tok rfl rfl rfl rfl ?_
  refine o_new tok rfl rfl rfl rfl ?_
  refine o_new tok rfl rfl rfl rfl ?_
  refine o_end [2, 3, 4, 5, 8] rfl ?_
  refine x_then ?_
  refine c_seq ?_
  refine c_region ?_
  refine o_yield rfl rfl rfl (y_val tok rfl) ?_
  refine o_call (.a (.v _)) rfl rfl fnok23 rfl rfl rfl (fun hg E w1 hm => by exact hhd _) ?_
  refine o_yield rfl rfl rfl (y_val tok rfl) ?_
  refine o_yield rfl rfl rfl (y_val tok rfl) ?_
  refine o_yield rfl rfl rfl (y_val tok rfl) ?_
  refine o_yield rfl rfl rfl (y_val tok rfl) ?_
  refine o_yield rfl rfl rfl (y_val tok rfl) ?_
  refine o_end [2, 4, 5, 8, 9, 10] rfl ?_
  refine x_then ?_
  refine c_seq ?_
  refine c_region ?_
  refine o_yield rfl rfl rfl (y_val tok rfl) ?_
  refine o_yield rfl rfl rfl (y_val tok rfl) ?_
  refine o_call (.a (.v _)) rfl rfl fnok25 rfl rfl rfl (fun hg E w1 hm => by exact refHead_c g ok slot _) ?_
  refine o_yield rfl rfl rfl (y_val tok rfl) ?_
  refine o_end [5, 8, 9, 10, 11] rfl ?_
  refine x_then ?_
  refine c_seq ?_
  refine c_seq ?_
  refine c_region ?_
  refine o_yield rfl rfl rfl (y_val tok rfl) ?_
  refine o_yield rfl rfl rfl (y_val tok rfl) ?_
  refine o_yield rfl rfl rfl (y_val tok rfl) ?_
  refine o_yield rfl rfl rfl (y_val tok rfl) ?_
  refine o_yield rfl rfl rfl (y_val tok rfl) ?_
  refine o_yield rfl rfl rfl (y_val tok rfl) ?_
  refine o_end [5, 8, 9, 11, 25] rfl ?_
  refine x_then ?_
  refine c_cond rfl (fun h => ?_) (fun h => ?_)
  ·
    exfalso
    simp at h
    omega
  ·
    refine c_skip ?_
    refine x_then ?_
    refine c_seq ?_
    refine c_block ?_
    refine c_seq ?_
    refine c_region ?_
    refine o_yield rfl rfl rfl (y_val tok rfl) ?_
    refine o_yield rfl rfl rfl (y_val tok rfl) ?_
    refine o_yield rfl rfl rfl (y_val tok rfl) ?_
    refine o_yield rfl rfl rfl (y_val tok rfl) ?_
    refine o_yield rfl rfl rfl (y_val tok rfl) ?_
    refine o_yield rfl rfl rfl (y_val tok rfl) ?_
    refine o_yield rfl rfl rfl (y_val tok rfl) ?_
    refine o_yield rfl rfl rfl (y_val tok rfl) ?_
    refine o_yield rfl rfl rfl (y_val tok rfl) ?_
    refine o_yield rfl rfl rfl (y_val tok rfl) ?_
    refine o_yield rfl rfl rfl (y_val tok rfl) ?_
    refine o_yield rfl rfl rfl (y_val tok rfl) ?_
    refine o_yield rfl rfl rfl (y_val tok rfl) ?_
    refine o_yield rfl rfl rfl (y_lenP tok rfl) ?_
    refine o_yield rfl rfl rfl (y_val tok rfl) ?_
    refine o_yield rfl rfl rfl (y_val tok rfl) ?_
    refine o_yield rfl rfl rfl (y_val tok rfl) ?_
    refine o_end [5, 8, 9, 11, 27] rfl ?_
    refine x_then ?_
    refine c_cond rfl (fun h => ?_) (fun h => ?_)
    ·
      exfalso
      simp at h
    ·
      refine c_seq ?_
      refine c_region ?_
      refine o_yield rfl rfl rfl (y_val tok rfl) ?_
      refine o_yield rfl rfl rfl (y_val tok rfl) ?_
      refine o_yield rfl rfl rfl (y_val tok rfl) ?_
      refine o_yield rfl rfl rfl (y_val tok rfl) ?_
      refine o_end [5, 8, 9, 11, 59] rfl ?_
      refine x_then ?_
      refine c_cond rfl (fun h => ?_) (fun h => ?_)
      ·
        refine c_seq ?_
        refine c_region ?_
        refine o_yield rfl rfl rfl (y_val tok rfl) ?_
        refine o_store tok rfl rfl rfl (by first | exact ⟨trivial, trivial⟩ | (repeat' first | exact trivial | exact rfl | apply And.intro); done | simp [onesP, oneP, lk, Value.oneCell']) ?_
        refine o_end [8] rfl ?_
        refine x_then ?_
        refine c_ret ?_
        refine x_block_ret ?_
        refine x_then_ret ?_
        refine b_ret tok rfl ?_
        intro E w' hm _
        refine ⟨?_, hm.below (Vw.le.refl _)⟩
        rfl
      ·
        exact absurd h (by decide)

theorem rwant2_c (g : Geo) (ok : g.Ok) (a : Option Addr) (n c : Nat) (i left : Int) (slot head : Int) (w : World) (hh : (headS head).2 = 0) (hk : 0 ≤ headV g slot) :
    Calls Try.prog 29 #[g.val, stV a n c i left 2, I slot, I head] w fun e w' => e = .returned (⟨2, headV g slot, (headS head).1, 0⟩ : ActV).val ∧ Below w.heap.size w w' := by
  have hhd := refHeadS_c head
  rw [hh] at hhd
  refine enter (E := E0) (O := []) (nl := 0) (V := vw w) [.a (.v g.val), .a (.v (stV a n c i left 2)), .a (.v (I slot)), .a (.v (I head))] Try.func29 rfl rfl (mem0 E0 0 w) rfl rfl ?_
  refine c_seq ?_
  refine c_region ?_
  refine o_new tok rfl rfl rfl rfl ?_
  refine o_new tok rfl rfl rfl rfl ?_
  refine o_new tok rfl rfl rfl rfl ?_
  refine o_end [2, 3, 4, 5, 8] rfl ?_
  refine x_then ?_
  refine c_seq ?_
  refine c_region ?_
  refine o_yield rfl rfl rfl (y_val tok rfl) ?_
  refine o_call (.a (.v _)) rfl rfl fnok23 rfl rfl rfl (fun hg E w1 hm => by exact hhd _) ?_
  refine o_yield rfl rfl rfl (y_val tok rfl) ?_
  refine o_yield rfl rfl rfl (y_val tok rfl) ?_
  refine o_yield rfl rfl rfl (y_val tok rfl) ?_
  refine o_yield rfl rfl rfl (y_val tok rfl) ?_
  refine o_yield rfl rfl rfl (y_val tok rfl) ?_
  refine o_end [2, 4, 5, 8, 9, 10] rfl ?_
  refine x_then ?_
  refine c_seq ?_
  refine c_region ?_
  refine o_yield rfl rfl rfl (y_val tok rfl) ?_
  refine o_yield rfl rfl rfl (y_val tok rfl) ?_
  refine o_call (.a (.v _)) rfl rfl fnok25 rfl rfl rfl (fun hg E w1 hm => by exact refHead_c g ok slot _) ?_
  refine o_yield rfl rfl rfl (y_val tok rfl) ?_
  refine o_end [5, 8, 9, 10, 11] rfl ?_
  refine x_then ?_
  refine c_seq ?_
  refine c_seq ?_
  refine c_region ?_
  refine o_yield rfl rfl rfl (y_val tok rfl) ?_
  refine o_yield rfl rfl rfl (y_val tok rfl) ?_
  refine o_yield rfl rfl rfl (y_val tok rfl) ?_
  refine o_yield rfl rfl rfl (y_val tok rfl) ?_
  refine o_yield rfl rfl rfl (y_val tok rfl) ?_
  refine o_yield rfl rfl rfl (y_val tok rfl) ?_
  refine o_end [5, 8, 9, 11, 25] rfl ?_
  refine x_then ?_
  refine c_cond rfl (fun h => ?_) (fun h => ?_)
  ·
    exfalso
    simp at h
    omega
  ·
    refine c_skip ?_
    refine x_then ?_
    refine c_seq ?_
    refine c_block ?_
    refine c_seq ?_
    refine c_region ?_
    refine o_yield rfl rfl rfl (y_val tok rfl) ?_
    refine o_yield rfl rfl rfl (y_val tok rfl) ?_
    refine o_yield rfl rfl rfl (y_val tok rfl) ?_
    refine o_yield rfl rfl rfl (y_val tok rfl) ?_
    refine o_yield rfl rfl rfl (y_val tok rfl) ?_
    refine o_yield rfl rfl rfl (y_val tok rfl) ?_
    refine o_yield rfl rfl rfl (y_val tok rfl) ?_
    refine o_yield rfl rfl rfl (y_val tok rfl) ?_
    refine o_yield rfl rfl rfl (y_val tok rfl) ?_
    refine o_yield rfl rfl rfl (y_val tok rfl) ?_
    refine o_yield rfl rfl rfl (y_val tok rfl) ?_
    refine o_yield rfl rfl rfl (y_val tok rfl) ?_
    refine o_yield rfl rfl rfl (y_val tok rfl) ?_
    refine o_yield rfl rfl rfl (y_lenP tok rfl) ?_
    refine o_yield rfl rfl rfl (y_val tok rfl) ?_
    refine o_yield rfl rfl rfl (y_val tok rfl) ?_
    refine o_yield rfl rfl rfl (y_val tok rfl) ?_
    refine o_end [5, 8, 9, 11, 27] rfl ?_
    refine x_then ?_
    refine c_cond rfl (fun h => ?_) (fun h => ?_)
    ·
      exfalso
      simp at h
    ·
      refine c_seq ?_
      refine c_region ?_
      refine o_yield rfl rfl rfl (y_val tok rfl) ?_
      refine o_yield rfl rfl rfl (y_val tok rfl) ?_
      refine o_yield rfl rfl rfl (y_val tok rfl) ?_
      refine o_yield rfl rfl rfl (y_val tok rfl) ?_
      refine o_end [5, 8, 9, 11, 59] rfl ?_
      refine x_then ?_
      refine c_cond rfl (fun h => ?_) (fun h => ?_)
      ·
        exact absurd h (by decide)
      ·
        refine c_seq ?_
        refine c_region ?_
        refine o_yield rfl rfl rfl (y_val tok rfl) ?_
        refine o_yield rfl rfl rfl (y_val tok rfl) ?_
        refine o_yield rfl rfl rfl (y_val tok rfl) ?_
        refine o_yield rfl rfl rfl (y_val tok rfl) ?_
        refine o_end [8, 9, 11, 64] rfl ?_
        refine x_then ?_
        refine c_cond rfl (fun h => ?_) (fun h => ?_)
        ·
          refine c_seq ?_
          refine c_region ?_
          refine o_yield rfl rfl rfl (y_val tok rfl) ?_
          refine o_yield rfl rfl rfl (y_val tok rfl) ?_
          refine o_yield rfl rfl rfl (y_val tok rfl) ?_
          refine o_store tok rfl rfl rfl (by first | exact ⟨trivial, trivial⟩ | (repeat' first | exact trivial | exact rfl | apply And.intro); done | simp [onesP, oneP, lk, Value.oneCell']) ?_
          refine o_end [8] rfl ?_
          refine x_then ?_
          refine c_ret ?_
          refine x_block_ret ?_
          refine x_then_ret ?_
          refine b_ret tok rfl ?_
          intro E w' hm _
          refine ⟨?_, hm.below (Vw.le.refl _)⟩
          rfl
        ·
          exact absurd h (by decide)

/-- What settling comes to behind an act. -/
def tkI (i at_ : Int) : Int := if at_ = 0 then i + 1 else i
def tkAt (m : Nat) (i left at_ : Int) : Int := if at_ = 0 then (if i + 1 ≥ m then 1 else 0) else if at_ = 1 then (if left - 1 ≤ 0 then 2 else 1) else if at_ = 2 then 3 else at_
def tkL (m : Nat) (i left at_ : Int) : Int := if at_ = 0 then (if i + 1 ≥ m then m else left) else if at_ = 1 then (if left - 1 ≤ 0 then 0 else left - 1) else left

theorem rtake20_c (V : Vw) (a : Option Addr) (n c : Nat) (L : List Cell) (i left at_ : Int) (w : World) (hV : V.le (vw w)) (hs0 : SlOf V Cell.cells 2 (.slice a n c) L) (hi : 0 ≤ i ∧ i ≤ 1000) (hl : 0 ≤ left ∧ left ≤ 1000) :
    Calls Try.prog 30 #[stV a n c i left at_] w fun e w' => e = .returned (stV a n c (tkI i at_) (tkL L.length i left at_) (tkAt L.length i left at_)) ∧ Below w.heap.size w w' := by
  have hs := hs0.mono hV
  have hw1 : IntKind.i64.wrap (i + 1) = i + 1 := wrapI (by omega) (by omega)
  have hw2 : IntKind.i64.wrap (left - 1) = left - 1 := wrapI (by omega) (by omega)
  refine enter (E := E0) (O := []) (nl := 0) (V := vw w) [.a (.v (stV a n c i left at_))] Try.func30 rfl rfl (mem0 E0 0 w) rfl rfl ?_
  refine c_seq ?_
  refine c_region ?_
  refine o_new tok rfl rfl rfl rfl ?_
  refine o_new tok rfl rfl rfl rfl ?_
  refine o_end [1, 2] rfl ?_
  refine x_then ?_
  refine c_seq ?_
  refine c_block ?_
  refine c_seq ?_
  refine c_region ?_
  refine o_yield rfl rfl rfl (y_val tok rfl) ?_
  refine o_yield rfl rfl rfl (y_val tok rfl) ?_
  refine o_yield rfl rfl rfl (y_val tok rfl) ?_
  refine o_yield rfl rfl rfl (y_val tok rfl) ?_
  refine o_end [1, 2, 3] rfl ?_
  refine x_then ?_
  refine c_cond rfl (fun h => ?_) (fun h => ?_)
  ·
    simp only [Bool.and_eq_true, Bool.or_eq_true, Bool.not_eq_true', Bool.or_eq_false_iff, Bool.and_eq_false_iff, decide_eq_true_eq, decide_eq_false_iff_not, beq_iff_eq, bne_iff_ne, Bool.not_eq_false', beq_eq_false_iff_ne, bne_eq_false_iff_eq, ne_eq, Decidable.not_not, Int.not_lt, Int.not_le] at h
    have h0 := h
    clear h
    refine c_seq ?_
    refine c_region ?_
    refine o_yield rfl rfl rfl (y_val tok rfl) ?_
    refine o_yield rfl rfl rfl (y_val tok rfl) ?_
    refine o_yield rfl rfl rfl (y_val tok rfl) ?_
    refine o_yield rfl rfl rfl (y_val tok rfl) ?_
    refine o_store tok rfl rfl rfl (by first | exact ⟨trivial, trivial⟩ | (repeat' first | exact trivial | exact rfl | apply And.intro); done | simp [onesP, oneP, lk, Value.oneCell']) ?_
    refine o_end [1, 2] rfl ?_
    refine x_then ?_
    refine c_seq ?_
    refine c_region ?_
    refine o_yield rfl rfl rfl (y_val tok rfl) ?_
    refine o_yield rfl rfl rfl (y_val tok rfl) ?_
    refine o_yield rfl rfl rfl (y_val tok rfl) ?_
    refine o_yield rfl rfl rfl (y_val tok rfl) ?_
    refine o_yield rfl rfl rfl (y_len tok rfl (fun hg => hs.sl)) ?_
    refine o_yield rfl rfl rfl (y_val tok rfl) ?_
    refine o_end [1, 2, 16] rfl ?_
    refine x_then ?_
    refine c_cond rfl (fun h => ?_) (fun h => ?_)
    ·
      simp only [Bool.and_eq_true, Bool.or_eq_true, Bool.not_eq_true', Bool.or_eq_false_iff, Bool.and_eq_false_iff, decide_eq_true_eq, decide_eq_false_iff_not, beq_iff_eq, bne_iff_ne, Bool.not_eq_false', beq_eq_false_iff_ne, bne_eq_false_iff_eq, ne_eq, Decidable.not_not, Int.not_lt, Int.not_le] at h
      refine c_seq ?_
      refine c_region ?_
      refine o_yield rfl rfl rfl (y_val tok rfl) ?_
      refine o_store tok rfl rfl rfl (by first | exact ⟨trivial, trivial⟩ | (repeat' first | exact trivial | exact rfl | apply And.intro); done | simp [onesP, oneP, lk, Value.oneCell']) ?_
      refine o_end [1, 2] rfl ?_
      refine x_then ?_
      refine c_region ?_
      refine o_yield rfl rfl rfl (y_val tok rfl) ?_
      refine o_yield rfl rfl rfl (y_val tok rfl) ?_
      refine o_yield rfl rfl rfl (y_len tok rfl (fun hg => hs.sl)) ?_
      refine o_yield rfl rfl rfl (y_val tok rfl) ?_
      refine o_store tok rfl rfl rfl (by first | exact ⟨trivial, trivial⟩ | (repeat' first | exact trivial | exact rfl | apply And.intro); done | simp [onesP, oneP, lk, Value.oneCell']) ?_
      refine o_end [1, 2] rfl ?_
      refine x_block ?_
      refine x_then ?_
      refine c_seq ?_
      refine c_region ?_
      refine o_yield rfl rfl rfl (y_val tok rfl) ?_
      refine o_store tok rfl rfl rfl (by first | exact ⟨trivial, trivial⟩ | (repeat' first | exact trivial | exact rfl | apply And.intro); done | simp [onesP, oneP, lk, Value.oneCell']) ?_
      refine o_end [2] rfl ?_
      refine x_then ?_
      refine c_ret ?_
      refine b_ret tok rfl ?_
      rw [hw1] at *
      intro E w' hm _
      refine ⟨?_, hm.below (Vw.le.refl _)⟩
      simp only [tkI, tkL, tkAt, if_pos h0]
      rw [if_pos (by omega), if_pos (by omega)]
      rfl
    ·
      simp only [Bool.and_eq_true, Bool.or_eq_true, Bool.not_eq_true', Bool.or_eq_false_iff, Bool.and_eq_false_iff, decide_eq_true_eq, decide_eq_false_iff_not, beq_iff_eq, bne_iff_ne, Bool.not_eq_false', beq_eq_false_iff_ne, bne_eq_false_iff_eq, ne_eq, Decidable.not_not, Int.not_lt, Int.not_le] at h
      refine c_skip ?_
      refine x_block ?_
      refine x_then ?_
      refine c_seq ?_
      refine c_region ?_
      refine o_yield rfl rfl rfl (y_val tok rfl) ?_
      refine o_store tok rfl rfl rfl (by first | exact ⟨trivial, trivial⟩ | (repeat' first | exact trivial | exact rfl | apply And.intro); done | simp [onesP, oneP, lk, Value.oneCell']) ?_
      refine o_end [2] rfl ?_
      refine x_then ?_
      refine c_ret ?_
      refine b_ret tok rfl ?_
      rw [hw1] at *
      intro E w' hm _
      refine ⟨?_, hm.below (Vw.le.refl _)⟩
      simp only [tkI, tkL, tkAt, if_pos h0]
      rw [if_neg (by omega), if_neg (by omega)]
      subst h0
      rfl
  ·
    simp only [Bool.and_eq_true, Bool.or_eq_true, Bool.not_eq_true', Bool.or_eq_false_iff, Bool.and_eq_false_iff, decide_eq_true_eq, decide_eq_false_iff_not, beq_iff_eq, bne_iff_ne, Bool.not_eq_false', beq_eq_false_iff_ne, bne_eq_false_iff_eq, ne_eq, Decidable.not_not, Int.not_lt, Int.not_le] at h
    have h0 := h
    clear h
    refine c_seq ?_
    refine c_region ?_
    refine o_yield rfl rfl rfl (y_val tok rfl) ?_
    refine o_yield rfl rfl rfl (y_val tok rfl) ?_
    refine o_yield rfl rfl rfl (y_val tok rfl) ?_
    refine o_yield rfl rfl rfl (y_val tok rfl) ?_
    refine o_end [1, 2, 22] rfl ?_
    refine x_then ?_
    refine c_cond rfl (fun h => ?_) (fun h => ?_)
    ·
      simp only [Bool.and_eq_true, Bool.or_eq_true, Bool.not_eq_true', Bool.or_eq_false_iff, Bool.and_eq_false_iff, decide_eq_true_eq, decide_eq_false_iff_not, beq_iff_eq, bne_iff_ne, Bool.not_eq_false', beq_eq_false_iff_ne, bne_eq_false_iff_eq, ne_eq, Decidable.not_not, Int.not_lt, Int.not_le] at h
      have h1 := h
      clear h
      refine c_seq ?_
      refine c_region ?_
      refine o_yield rfl rfl rfl (y_val tok rfl) ?_
      refine o_yield rfl rfl rfl (y_val tok rfl) ?_
      refine o_yield rfl rfl rfl (y_val tok rfl) ?_
      refine o_yield rfl rfl rfl (y_val tok rfl) ?_
      refine o_store tok rfl rfl rfl (by first | exact ⟨trivial, trivial⟩ | (repeat' first | exact trivial | exact rfl | apply And.intro); done | simp [onesP, oneP, lk, Value.oneCell']) ?_
      refine o_end [1, 2] rfl ?_
      refine x_then ?_
      refine c_seq ?_
      refine c_region ?_
      refine o_yield rfl rfl rfl (y_val tok rfl) ?_
      refine o_yield rfl rfl rfl (y_val tok rfl) ?_
      refine o_yield rfl rfl rfl (y_val tok rfl) ?_
      refine o_end [1, 2, 32] rfl ?_
      refine x_then ?_
      refine c_cond rfl (fun h => ?_) (fun h => ?_)
      ·
        simp only [Bool.and_eq_true, Bool.or_eq_true, Bool.not_eq_true', Bool.or_eq_false_iff, Bool.and_eq_false_iff, decide_eq_true_eq, decide_eq_false_iff_not, beq_iff_eq, bne_iff_ne, Bool.not_eq_false', beq_eq_false_iff_ne, bne_eq_false_iff_eq, ne_eq, Decidable.not_not, Int.not_lt, Int.not_le] at h
        refine c_seq ?_
        refine c_region ?_
        refine o_yield rfl rfl rfl (y_val tok rfl) ?_
        refine o_store tok rfl rfl rfl (by first | exact ⟨trivial, trivial⟩ | (repeat' first | exact trivial | exact rfl | apply And.intro); done | simp [onesP, oneP, lk, Value.oneCell']) ?_
        refine o_end [1, 2] rfl ?_
        refine x_then ?_
        refine c_region ?_
        refine o_yield rfl rfl rfl (y_val tok rfl) ?_
        refine o_store tok rfl rfl rfl (by first | exact ⟨trivial, trivial⟩ | (repeat' first | exact trivial | exact rfl | apply And.intro); done | simp [onesP, oneP, lk, Value.oneCell']) ?_
        refine o_end [1, 2] rfl ?_
        refine x_block ?_
        refine x_then ?_
        refine c_seq ?_
        refine c_region ?_
        refine o_yield rfl rfl rfl (y_val tok rfl) ?_
        refine o_store tok rfl rfl rfl (by first | exact ⟨trivial, trivial⟩ | (repeat' first | exact trivial | exact rfl | apply And.intro); done | simp [onesP, oneP, lk, Value.oneCell']) ?_
        refine o_end [2] rfl ?_
        refine x_then ?_
        refine c_ret ?_
        refine b_ret tok rfl ?_
        rw [hw2] at *
        intro E w' hm _
        refine ⟨?_, hm.below (Vw.le.refl _)⟩
        simp only [tkI, tkL, tkAt, if_neg h0, if_pos h1]
        rw [if_pos (by omega), if_pos (by omega)]
        rfl
      ·
        simp only [Bool.and_eq_true, Bool.or_eq_true, Bool.not_eq_true', Bool.or_eq_false_iff, Bool.and_eq_false_iff, decide_eq_true_eq, decide_eq_false_iff_not, beq_iff_eq, bne_iff_ne, Bool.not_eq_false', beq_eq_false_iff_ne, bne_eq_false_iff_eq, ne_eq, Decidable.not_not, Int.not_lt, Int.not_le] at h
        refine c_skip ?_
        refine x_block ?_
        refine x_then ?_
        refine c_seq ?_
        refine c_region ?_
        refine o_yield rfl rfl rfl (y_val tok rfl) ?_
        refine o_store tok rfl rfl rfl (by first | exact ⟨trivial, trivial⟩ | (repeat' first | exact trivial | exact rfl | apply And.intro); done | simp [onesP, oneP, lk, Value.oneCell']) ?_
        refine o_end [2] rfl ?_
        refine x_then ?_
        refine c_ret ?_
        refine b_ret tok rfl ?_
        rw [hw2] at *
        intro E w' hm _
        refine ⟨?_, hm.below (Vw.le.refl _)⟩
        simp only [tkI, tkL, tkAt, if_neg h0, if_pos h1]
        rw [if_neg (by omega), if_neg (by omega)]
        subst h1
        rfl
    ·
      simp only [Bool.and_eq_true, Bool.or_eq_true, Bool.not_eq_true', Bool.or_eq_false_iff, Bool.and_eq_false_iff, decide_eq_true_eq, decide_eq_false_iff_not, beq_iff_eq, bne_iff_ne, Bool.not_eq_false', beq_eq_false_iff_ne, bne_eq_false_iff_eq, ne_eq, Decidable.not_not, Int.not_lt, Int.not_le] at h
      have h1 := h
      clear h
      refine c_seq ?_
      refine c_region ?_
      refine o_yield rfl rfl rfl (y_val tok rfl) ?_
      refine o_yield rfl rfl rfl (y_val tok rfl) ?_
      refine o_yield rfl rfl rfl (y_val tok rfl) ?_
      refine o_yield rfl rfl rfl (y_val tok rfl) ?_
      refine o_end [1, 2, 35] rfl ?_
      refine x_then ?_
      refine c_cond rfl (fun h => ?_) (fun h => ?_)
      ·
        simp only [Bool.and_eq_true, Bool.or_eq_true, Bool.not_eq_true', Bool.or_eq_false_iff, Bool.and_eq_false_iff, decide_eq_true_eq, decide_eq_false_iff_not, beq_iff_eq, bne_iff_ne, Bool.not_eq_false', beq_eq_false_iff_ne, bne_eq_false_iff_eq, ne_eq, Decidable.not_not, Int.not_lt, Int.not_le] at h
        refine c_region ?_
        refine o_yield rfl rfl rfl (y_val tok rfl) ?_
        refine o_store tok rfl rfl rfl (by first | exact ⟨trivial, trivial⟩ | (repeat' first | exact trivial | exact rfl | apply And.intro); done | simp [onesP, oneP, lk, Value.oneCell']) ?_
        refine o_end [1, 2] rfl ?_
        refine x_block ?_
        refine x_then ?_
        refine c_seq ?_
        refine c_region ?_
        refine o_yield rfl rfl rfl (y_val tok rfl) ?_
        refine o_store tok rfl rfl rfl (by first | exact ⟨trivial, trivial⟩ | (repeat' first | exact trivial | exact rfl | apply And.intro); done | simp [onesP, oneP, lk, Value.oneCell']) ?_
        refine o_end [2] rfl ?_
        refine x_then ?_
        refine c_ret ?_
        refine b_ret tok rfl ?_
        intro E w' hm _
        refine ⟨?_, hm.below (Vw.le.refl _)⟩
        simp only [tkI, tkL, tkAt, if_neg h0, if_neg h1, if_pos h]
        rfl
      ·
        simp only [Bool.and_eq_true, Bool.or_eq_true, Bool.not_eq_true', Bool.or_eq_false_iff, Bool.and_eq_false_iff, decide_eq_true_eq, decide_eq_false_iff_not, beq_iff_eq, bne_iff_ne, Bool.not_eq_false', beq_eq_false_iff_ne, bne_eq_false_iff_eq, ne_eq, Decidable.not_not, Int.not_lt, Int.not_le] at h
        refine c_skip ?_
        refine x_block ?_
        refine x_then ?_
        refine c_seq ?_
        refine c_region ?_
        refine o_yield rfl rfl rfl (y_val tok rfl) ?_
        refine o_store tok rfl rfl rfl (by first | exact ⟨trivial, trivial⟩ | (repeat' first | exact trivial | exact rfl | apply And.intro); done | simp [onesP, oneP, lk, Value.oneCell']) ?_
        refine o_end [2] rfl ?_
        refine x_then ?_
        refine c_ret ?_
        refine b_ret tok rfl ?_
        intro E w' hm _
        refine ⟨?_, hm.below (Vw.le.refl _)⟩
        simp only [tkI, tkL, tkAt, if_neg h0, if_neg h1, if_neg h]
        rfl
end Go.Proofs.Ytipmgnhbcaniiaa
