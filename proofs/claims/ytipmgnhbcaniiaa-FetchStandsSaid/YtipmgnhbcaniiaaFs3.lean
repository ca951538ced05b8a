import Derived.Test.YtipmgnhbcaniiaaFs2
/- The document's device, copied. -/
set_option linter.unusedVariables false
set_option linter.unusedSimpArgs false
set_option maxRecDepth 100000
namespace Go.Proofs.Ytipmgnhbcaniiaa
open Go Go.Eng Go.RowKit

/-- Copies of rows of cells, each in memory of its own that is not older than so many blocks. -/
structure Copies (base : Nat) (V : Vw) (l C : List (Sl Cell)) : Prop where
  same : C.map Sl.l = l.map Sl.l
  row : ∀ c ∈ C, VRow V c.v 83 2 c.l.length (c.l.flatMap Cell.cells)
  new : ∀ c ∈ C, NewSl base c.v
  sep : ∀ (i j : Nat) (x y : Sl Cell) (k : Nat), i < j → C[i]? = some x → C[j]? = some y → x.v.ownBlock = some k → y.v.ownBlock ≠ some k

theorem Copies.nil (base : Nat) (V : Vw) : Copies base V [] [] := ⟨rfl, by simp, by simp, by simp⟩

theorem Copies.snoc {base : Nat} {V V' : Vw} {l C : List (Sl Cell)} {x : Sl Cell} {v : Value} (h : Copies base V l C) (hle : V.le V') (hv : VRow V' v 83 2 x.l.length (x.l.flatMap Cell.cells)) (hn : NewSl base v) (hoff : ∀ k, v.ownBlock = some k → V.get k = none) :
    Copies base V' (l ++ [x]) (C ++ [⟨v, x.l⟩]) := by
  refine ⟨by rw [List.map_append, List.map_append, h.same]; rfl, fun c hc => ?_, fun c hc => ?_, fun i j a b k hij ha hb hk hk2 => ?_⟩
  · rcases List.mem_append.1 hc with hc | hc
    · exact (h.row c hc).mono hle
    · rw [List.mem_singleton] at hc; subst hc; exact hv
  · rcases List.mem_append.1 hc with hc | hc
    · exact h.new c hc
    · rw [List.mem_singleton] at hc; subst hc; exact hn
  · rw [List.getElem?_append] at ha hb
    split at hb
    · rw [if_pos (by omega)] at ha
      exact h.sep i j a b k hij ha hb hk hk2
    · rename_i hj
      have hb2 : b = ⟨v, x.l⟩ := by
        rw [List.getElem?_singleton] at hb
        split at hb
        · cases hb; rfl
        · cases hb
      have hj2 := (List.getElem?_eq_some_iff.1 hb).1
      simp only [List.length_singleton] at hj2
      rw [if_pos (by omega)] at ha
      subst hb2
      have h1 := (h.row a (List.mem_of_getElem? ha)).seen hk
      rw [hoff k hk2] at h1
      cases h1

theorem Copies.newIn {base b2 : Nat} {W V : Vw} {l C : List (Sl Cell)} (h : Copies b2 W l C) (hb : base ≤ b2) (hV : NewIn b2 W V) : Copies base V l C :=
  ⟨h.same, fun c hc => (h.row c hc).newIn (h.new c hc) hV, fun c hc k hk => Nat.le_trans hb (h.new c hc k hk), h.sep⟩

theorem sl_snoc {α : Type} (A : List (Sl α)) (x : Sl α) : A.length + 1 = (A ++ [x]).length ∧ A.flatMap Sl.enc ++ [x.v] = (A ++ [x]).flatMap Sl.enc := by
  simp [Sl.enc]

set_option maxHeartbeats 8000000 in
theorem copied_c (base : Nat) (V : Vw) (a1 a2 a3 a4 : Option Addr) (n1 c1 n2 c2 n3 c3 n4 c4 : Nat) (nx : Int) (S : List ByteArray) (D : List (Sl Cell)) (K : List Int) (w : World) (hbase : base ≤ w.heap.size) (hV : V.le (vw w))
    (hS0 : SlOf V encS 1 (.slice a1 n1 c1) S) (hD0 : SlOf V Sl.enc 1 (.slice a2 n2 c2) D) (hK0 : SlOf V encI64 1 (.slice a3 n3 c3) K) (hF0 : SlOf V encI64 1 (.slice a4 n4 c4) ([] : List Int))
    (hDs : ∀ c ∈ D, SlOf V Cell.cells 2 c.v c.l ∧ c.l.length ≤ 1000) (hSn : S.length ≤ 100000) (hDn : D.length ≤ 1000) (hKn : K.length ≤ 1000) :
    Calls Try.prog 33 #[.agg #[.slice a1 n1 c1, .slice a2 n2 c2, .slice a3 n3 c3, I nx, .slice a4 n4 c4]] w
      (MakesV w (fun C V' => Copies base V' D C) (fun _ : List (Sl Cell) => .agg [.row 3, .row 9, .row 5, .v (I nx), .row 7]) (fun C => [(3, .row 9 1 S.length (S.flatMap encS)), (9, .row 70 1 C.length (C.flatMap Sl.enc)), (5, .row 3 1 K.length (K.flatMap encI64)), (7, .row 3 1 0 [])]) 10) := by
  have hS := hS0.mono hV
  have hD := hD0.mono hV
  have hK := hK0.mono hV
  have hF := hF0.mono hV
  refine enter (E := E0) (O := []) (nl := 0) (V := vw w) [.a (.v (.agg #[.slice a1 n1 c1, .slice a2 n2 c2, .slice a3 n3 c3, I nx, .slice a4 n4 c4]))] Try.func33 rfl rfl (mem0 E0 0 w) rfl rfl ?_
  refine c_seq ?_
  refine c_region ?_
  refine o_new tok rfl rfl rfl rfl ?_
  refine o_new tok rfl rfl rfl rfl ?_
  refine o_end [1, 2] rfl ?_
  refine x_then ?_
  refine c_seq ?_
  refine c_heldM (σ := Unit) (fun _ => [(1, .a (.ptr 0 0)), (2, .a (.ptr 1 0)), (3, .a (.ptr 8 0))]) (fun _ => [(0, .lit [.v (.slice a1 n1 c1), .v (.slice a2 n2 c2), .v (.slice a3 n3 c3), .v (I nx), .v (.slice a4 n4 c4)] 35), (1, .lit [.v (.slice none 0 0), .v (.slice none 0 0), .v (.slice none 0 0), .v (I 0), .v (.slice none 0 0)] 35), (3, .row 9 1 (0 + S.length) ([] ++ S.flatMap encS)), (5, .row 3 1 (0 + K.length) ([] ++ K.flatMap encI64)), (7, .row 3 1 (0 + 0) ([] ++ [])), (8, .lit [.row 3, .v (.slice none 0 0), .row 5, .v (I nx), .row 7] 35)]) (9) (fun _ => vw w) (fun _ => True) mixed ?_ ?_
  ·
   refine t_take 1 rfl (by kernel_rfl) rfl rfl rfl (y_val tok rfl) rfl ?_
   refine t_take 2 rfl (by kernel_rfl) rfl rfl rfl (y_val tok rfl) rfl ?_
   refine t_take 5 rfl (by kernel_rfl) rfl rfl rfl (y_val tok rfl) rfl ?_
   refine t_take 6 rfl (by kernel_rfl) rfl rfl rfl (y_val tok rfl) rfl ?_
   refine t_take 8 rfl (by kernel_rfl) rfl rfl rfl (y_val tok rfl) rfl ?_
   refine t_take 9 rfl (by kernel_rfl) rfl rfl rfl (y_val tok rfl) rfl ?_
   refine t_take 11 rfl (by kernel_rfl) rfl rfl rfl (y_val tok rfl) rfl ?_
   refine t_take 12 rfl (by kernel_rfl) rfl rfl rfl (y_val tok rfl) rfl ?_
   refine t_go ?_
   refine h_four 0 4 10 15 (by kernel_rfl) ?_ ?_ ?_ ?_
   ·
    refine h_to 0 rfl rfl rfl rfl rfl rfl (s_bs tok 1 rfl rfl rfl) (.inr fun _ _ => ⟨(by repeat (first | exact SubO.nil | refine SubO.cons rfl ?_)), rfl, Vw.le.refl _⟩) (fun _ _ => ?_)
    refine h_four 3 4 10 15 (by kernel_rfl) ?_ ?_ ?_ ?_
    ·
     refine h_to 3 rfl rfl rfl rfl rfl rfl (s_app (e := 9) (sz := 1) (by_ := 16) (m := 0) (k := S.length) (olds := []) tok (S.flatMap encS) rfl (fun E w1 hm => hS.sl.src hm.get) (fun _ _ _ => str_ones S) (by omega)) (.inr fun _ _ => ⟨(by repeat (first | exact SubO.nil | refine SubO.cons rfl ?_)), rfl, Vw.le.refl _⟩) (fun _ _ => ?_)
     refine h_three 4 10 15 (by kernel_rfl) ?_ ?_ ?_
     ·
      refine h_to 4 rfl rfl rfl rfl rfl rfl (s_bs tok 1 rfl rfl rfl) (.inr fun _ _ => ⟨(by repeat (first | exact SubO.nil | refine SubO.cons rfl ?_)), rfl, Vw.le.refl _⟩) (fun _ _ => ?_)
      refine h_three 7 10 15 (by kernel_rfl) ?_ ?_ ?_
      ·
       refine h_to 7 rfl rfl rfl rfl rfl rfl (s_app (e := 3) (sz := 1) (by_ := 8) (m := 0) (k := K.length) (olds := []) tok (K.flatMap encI64) rfl (fun E w1 hm => hK.sl.src hm.get) (fun _ _ _ => int_ones K) (by omega)) (.inr fun _ _ => ⟨(by repeat (first | exact SubO.nil | refine SubO.cons rfl ?_)), rfl, Vw.le.refl _⟩) (fun _ _ => ?_)
       refine h_two 10 15 (by kernel_rfl) ?_ ?_
       ·
        refine h_to 10 rfl rfl rfl rfl rfl rfl (s_bs tok 1 rfl rfl rfl) (.inr fun _ _ => ⟨(by repeat (first | exact SubO.nil | refine SubO.cons rfl ?_)), rfl, Vw.le.refl _⟩) (fun _ _ => ?_)
        refine h_two 13 15 (by kernel_rfl) ?_ ?_
        ·
         refine h_to 13 rfl rfl rfl rfl rfl rfl (s_app (e := 3) (sz := 1) (by_ := 8) (m := 0) (k := 0) (olds := []) tok ([] : List Value) rfl (fun E w1 hm => hF.sl.src hm.get) (fun _ _ _ => by simp) (by omega)) (.inr fun _ _ => ⟨(by repeat (first | exact SubO.nil | refine SubO.cons rfl ?_)), rfl, Vw.le.refl _⟩) (fun _ _ => ?_)
         refine h_two 14 15 (by kernel_rfl) ?_ ?_
         ·
          refine h_yield 14 rfl rfl rfl rfl (y_val tok rfl) ?_
          refine h_one 15 (by kernel_rfl) ?_
          refine h_new 15 tok rfl rfl rfl rfl rfl rfl ?_
          refine h_one 16 (by kernel_rfl) ?_
          refine h_store 16 tok rfl rfl rfl rfl (by repeat' first | exact trivial | exact rfl | apply And.intro) (.inr ⟨(by repeat (first | exact SubO.nil | refine SubO.cons rfl ?_)), rfl, Vw.le.refl _⟩) ?_
          refine h_done [1, 2, 3] (by kernel_rfl) rfl ?_
          exact x_meet () trivial (by repeat (first | exact SubF.nil | refine SubF.cons rfl ?_)) (by repeat (first | exact SubO.nil | refine SubO.cons rfl ?_)) rfl (Vw.le.refl _)
         ·
          refine h_new 15 tok rfl rfl rfl rfl rfl rfl ?_
          refine h_one 14 (by kernel_rfl) ?_
          refine h_yield 14 rfl rfl rfl rfl (y_val tok rfl) ?_
          refine h_one 16 (by kernel_rfl) ?_
          refine h_store 16 tok rfl rfl rfl rfl (by repeat' first | exact trivial | exact rfl | apply And.intro) (.inr ⟨(by repeat (first | exact SubO.nil | refine SubO.cons rfl ?_)), rfl, Vw.le.refl _⟩) ?_
          refine h_done [1, 2, 3] (by kernel_rfl) rfl ?_
          exact x_meet () trivial (by repeat (first | exact SubF.nil | refine SubF.cons rfl ?_)) (by repeat (first | exact SubO.nil | refine SubO.cons rfl ?_)) rfl (Vw.le.refl _)
        ·
         refine h_new 15 tok rfl rfl rfl rfl rfl rfl ?_
         refine h_one 13 (by kernel_rfl) ?_
         refine h_to 13 rfl rfl rfl rfl rfl rfl (s_app (e := 3) (sz := 1) (by_ := 8) (m := 0) (k := 0) (olds := []) tok ([] : List Value) rfl (fun E w1 hm => hF.sl.src hm.get) (fun _ _ _ => by simp) (by omega)) (.inr fun _ _ => ⟨(by repeat (first | exact SubO.nil | refine SubO.cons rfl ?_)), rfl, Vw.le.refl _⟩) (fun _ _ => ?_)
         refine h_one 14 (by kernel_rfl) ?_
         refine h_yield 14 rfl rfl rfl rfl (y_val tok rfl) ?_
         refine h_one 16 (by kernel_rfl) ?_
         refine h_store 16 tok rfl rfl rfl rfl (by repeat' first | exact trivial | exact rfl | apply And.intro) (.inr ⟨(by repeat (first | exact SubO.nil | refine SubO.cons rfl ?_)), rfl, Vw.le.refl _⟩) ?_
         refine h_done [1, 2, 3] (by kernel_rfl) rfl ?_
         refine k_swap 7 8 rfl ?_
         exact x_meet () trivial (by repeat (first | exact SubF.nil | refine SubF.cons rfl ?_)) (by repeat (first | exact SubO.nil | refine SubO.cons rfl ?_)) rfl (Vw.le.refl _)
       ·
        refine h_new 15 tok rfl rfl rfl rfl rfl rfl ?_
        refine h_one 10 (by kernel_rfl) ?_
        refine h_to 10 rfl rfl rfl rfl rfl rfl (s_bs tok 1 rfl rfl rfl) (.inr fun _ _ => ⟨(by repeat (first | exact SubO.nil | refine SubO.cons rfl ?_)), rfl, Vw.le.refl _⟩) (fun _ _ => ?_)
        refine h_one 13 (by kernel_rfl) ?_
        refine h_to 13 rfl rfl rfl rfl rfl rfl (s_app (e := 3) (sz := 1) (by_ := 8) (m := 0) (k := 0) (olds := []) tok ([] : List Value) rfl (fun E w1 hm => hF.sl.src hm.get) (fun _ _ _ => by simp) (by omega)) (.inr fun _ _ => ⟨(by repeat (first | exact SubO.nil | refine SubO.cons rfl ?_)), rfl, Vw.le.refl _⟩) (fun _ _ => ?_)
        refine h_one 14 (by kernel_rfl) ?_
        refine h_yield 14 rfl rfl rfl rfl (y_val tok rfl) ?_
        refine h_one 16 (by kernel_rfl) ?_
        refine h_store 16 tok rfl rfl rfl rfl (by repeat' first | exact trivial | exact rfl | apply And.intro) (.inr ⟨(by repeat (first | exact SubO.nil | refine SubO.cons rfl ?_)), rfl, Vw.le.refl _⟩) ?_
        refine h_done [1, 2, 3] (by kernel_rfl) rfl ?_
        refine k_swap 6 7 rfl ?_
        refine k_swap 7 8 rfl ?_
        exact x_meet () trivial (by repeat (first | exact SubF.nil | refine SubF.cons rfl ?_)) (by repeat (first | exact SubO.nil | refine SubO.cons rfl ?_)) rfl (Vw.le.refl _)
      ·
       refine h_to 10 rfl rfl rfl rfl rfl rfl (s_bs tok 1 rfl rfl rfl) (.inr fun _ _ => ⟨(by repeat (first | exact SubO.nil | refine SubO.cons rfl ?_)), rfl, Vw.le.refl _⟩) (fun _ _ => ?_)
       refine h_two 7 15 (by kernel_rfl) ?_ ?_
       ·
        refine h_to 7 rfl rfl rfl rfl rfl rfl (s_app (e := 3) (sz := 1) (by_ := 8) (m := 0) (k := K.length) (olds := []) tok (K.flatMap encI64) rfl (fun E w1 hm => hK.sl.src hm.get) (fun _ _ _ => int_ones K) (by omega)) (.inr fun _ _ => ⟨(by repeat (first | exact SubO.nil | refine SubO.cons rfl ?_)), rfl, Vw.le.refl _⟩) (fun _ _ => ?_)
        refine h_two 13 15 (by kernel_rfl) ?_ ?_
        ·
         refine h_to 13 rfl rfl rfl rfl rfl rfl (s_app (e := 3) (sz := 1) (by_ := 8) (m := 0) (k := 0) (olds := []) tok ([] : List Value) rfl (fun E w1 hm => hF.sl.src hm.get) (fun _ _ _ => by simp) (by omega)) (.inr fun _ _ => ⟨(by repeat (first | exact SubO.nil | refine SubO.cons rfl ?_)), rfl, Vw.le.refl _⟩) (fun _ _ => ?_)
         refine h_two 14 15 (by kernel_rfl) ?_ ?_
         ·
          refine h_yield 14 rfl rfl rfl rfl (y_val tok rfl) ?_
          refine h_one 15 (by kernel_rfl) ?_
          refine h_new 15 tok rfl rfl rfl rfl rfl rfl ?_
          refine h_one 16 (by kernel_rfl) ?_
          refine h_store 16 tok rfl rfl rfl rfl (by repeat' first | exact trivial | exact rfl | apply And.intro) (.inr ⟨(by repeat (first | exact SubO.nil | refine SubO.cons rfl ?_)), rfl, Vw.le.refl _⟩) ?_
          refine h_done [1, 2, 3] (by kernel_rfl) rfl ?_
          refine k_swap 5 6 rfl ?_
          exact x_meet () trivial (by repeat (first | exact SubF.nil | refine SubF.cons rfl ?_)) (by repeat (first | exact SubO.nil | refine SubO.cons rfl ?_)) rfl (Vw.le.refl _)
         ·
          refine h_new 15 tok rfl rfl rfl rfl rfl rfl ?_
          refine h_one 14 (by kernel_rfl) ?_
          refine h_yield 14 rfl rfl rfl rfl (y_val tok rfl) ?_
          refine h_one 16 (by kernel_rfl) ?_
          refine h_store 16 tok rfl rfl rfl rfl (by repeat' first | exact trivial | exact rfl | apply And.intro) (.inr ⟨(by repeat (first | exact SubO.nil | refine SubO.cons rfl ?_)), rfl, Vw.le.refl _⟩) ?_
          refine h_done [1, 2, 3] (by kernel_rfl) rfl ?_
          refine k_swap 5 6 rfl ?_
          exact x_meet () trivial (by repeat (first | exact SubF.nil | refine SubF.cons rfl ?_)) (by repeat (first | exact SubO.nil | refine SubO.cons rfl ?_)) rfl (Vw.le.refl _)
        ·
         refine h_new 15 tok rfl rfl rfl rfl rfl rfl ?_
         refine h_one 13 (by kernel_rfl) ?_
         refine h_to 13 rfl rfl rfl rfl rfl rfl (s_app (e := 3) (sz := 1) (by_ := 8) (m := 0) (k := 0) (olds := []) tok ([] : List Value) rfl (fun E w1 hm => hF.sl.src hm.get) (fun _ _ _ => by simp) (by omega)) (.inr fun _ _ => ⟨(by repeat (first | exact SubO.nil | refine SubO.cons rfl ?_)), rfl, Vw.le.refl _⟩) (fun _ _ => ?_)
         refine h_one 14 (by kernel_rfl) ?_
         refine h_yield 14 rfl rfl rfl rfl (y_val tok rfl) ?_
         refine h_one 16 (by kernel_rfl) ?_
         refine h_store 16 tok rfl rfl rfl rfl (by repeat' first | exact trivial | exact rfl | apply And.intro) (.inr ⟨(by repeat (first | exact SubO.nil | refine SubO.cons rfl ?_)), rfl, Vw.le.refl _⟩) ?_
         refine h_done [1, 2, 3] (by kernel_rfl) rfl ?_
         refine k_swap 5 6 rfl ?_
         refine k_swap 7 8 rfl ?_
         exact x_meet () trivial (by repeat (first | exact SubF.nil | refine SubF.cons rfl ?_)) (by repeat (first | exact SubO.nil | refine SubO.cons rfl ?_)) rfl (Vw.le.refl _)
       ·
        refine h_new 15 tok rfl rfl rfl rfl rfl rfl ?_
        refine h_one 7 (by kernel_rfl) ?_
        refine h_to 7 rfl rfl rfl rfl rfl rfl (s_app (e := 3) (sz := 1) (by_ := 8) (m := 0) (k := K.length) (olds := []) tok (K.flatMap encI64) rfl (fun E w1 hm => hK.sl.src hm.get) (fun _ _ _ => int_ones K) (by omega)) (.inr fun _ _ => ⟨(by repeat (first | exact SubO.nil | refine SubO.cons rfl ?_)), rfl, Vw.le.refl _⟩) (fun _ _ => ?_)
        refine h_one 13 (by kernel_rfl) ?_
        refine h_to 13 rfl rfl rfl rfl rfl rfl (s_app (e := 3) (sz := 1) (by_ := 8) (m := 0) (k := 0) (olds := []) tok ([] : List Value) rfl (fun E w1 hm => hF.sl.src hm.get) (fun _ _ _ => by simp) (by omega)) (.inr fun _ _ => ⟨(by repeat (first | exact SubO.nil | refine SubO.cons rfl ?_)), rfl, Vw.le.refl _⟩) (fun _ _ => ?_)
        refine h_one 14 (by kernel_rfl) ?_
        refine h_yield 14 rfl rfl rfl rfl (y_val tok rfl) ?_
        refine h_one 16 (by kernel_rfl) ?_
        refine h_store 16 tok rfl rfl rfl rfl (by repeat' first | exact trivial | exact rfl | apply And.intro) (.inr ⟨(by repeat (first | exact SubO.nil | refine SubO.cons rfl ?_)), rfl, Vw.le.refl _⟩) ?_
        refine h_done [1, 2, 3] (by kernel_rfl) rfl ?_
        refine k_swap 5 7 rfl ?_
        refine k_swap 6 7 rfl ?_
        refine k_swap 7 8 rfl ?_
        exact x_meet () trivial (by repeat (first | exact SubF.nil | refine SubF.cons rfl ?_)) (by repeat (first | exact SubO.nil | refine SubO.cons rfl ?_)) rfl (Vw.le.refl _)
      ·
       refine h_new 15 tok rfl rfl rfl rfl rfl rfl ?_
       refine h_two 7 10 (by kernel_rfl) ?_ ?_
       ·
        refine h_to 7 rfl rfl rfl rfl rfl rfl (s_app (e := 3) (sz := 1) (by_ := 8) (m := 0) (k := K.length) (olds := []) tok (K.flatMap encI64) rfl (fun E w1 hm => hK.sl.src hm.get) (fun _ _ _ => int_ones K) (by omega)) (.inr fun _ _ => ⟨(by repeat (first | exact SubO.nil | refine SubO.cons rfl ?_)), rfl, Vw.le.refl _⟩) (fun _ _ => ?_)
        refine h_one 10 (by kernel_rfl) ?_
        refine h_to 10 rfl rfl rfl rfl rfl rfl (s_bs tok 1 rfl rfl rfl) (.inr fun _ _ => ⟨(by repeat (first | exact SubO.nil | refine SubO.cons rfl ?_)), rfl, Vw.le.refl _⟩) (fun _ _ => ?_)
        refine h_one 13 (by kernel_rfl) ?_
        refine h_to 13 rfl rfl rfl rfl rfl rfl (s_app (e := 3) (sz := 1) (by_ := 8) (m := 0) (k := 0) (olds := []) tok ([] : List Value) rfl (fun E w1 hm => hF.sl.src hm.get) (fun _ _ _ => by simp) (by omega)) (.inr fun _ _ => ⟨(by repeat (first | exact SubO.nil | refine SubO.cons rfl ?_)), rfl, Vw.le.refl _⟩) (fun _ _ => ?_)
        refine h_one 14 (by kernel_rfl) ?_
        refine h_yield 14 rfl rfl rfl rfl (y_val tok rfl) ?_
        refine h_one 16 (by kernel_rfl) ?_
        refine h_store 16 tok rfl rfl rfl rfl (by repeat' first | exact trivial | exact rfl | apply And.intro) (.inr ⟨(by repeat (first | exact SubO.nil | refine SubO.cons rfl ?_)), rfl, Vw.le.refl _⟩) ?_
        refine h_done [1, 2, 3] (by kernel_rfl) rfl ?_
        refine k_swap 5 6 rfl ?_
        refine k_swap 6 7 rfl ?_
        refine k_swap 7 8 rfl ?_
        exact x_meet () trivial (by repeat (first | exact SubF.nil | refine SubF.cons rfl ?_)) (by repeat (first | exact SubO.nil | refine SubO.cons rfl ?_)) rfl (Vw.le.refl _)
       ·
        refine h_to 10 rfl rfl rfl rfl rfl rfl (s_bs tok 1 rfl rfl rfl) (.inr fun _ _ => ⟨(by repeat (first | exact SubO.nil | refine SubO.cons rfl ?_)), rfl, Vw.le.refl _⟩) (fun _ _ => ?_)
        refine h_one 7 (by kernel_rfl) ?_
        refine h_to 7 rfl rfl rfl rfl rfl rfl (s_app (e := 3) (sz := 1) (by_ := 8) (m := 0) (k := K.length) (olds := []) tok (K.flatMap encI64) rfl (fun E w1 hm => hK.sl.src hm.get) (fun _ _ _ => int_ones K) (by omega)) (.inr fun _ _ => ⟨(by repeat (first | exact SubO.nil | refine SubO.cons rfl ?_)), rfl, Vw.le.refl _⟩) (fun _ _ => ?_)
        refine h_one 13 (by kernel_rfl) ?_
        refine h_to 13 rfl rfl rfl rfl rfl rfl (s_app (e := 3) (sz := 1) (by_ := 8) (m := 0) (k := 0) (olds := []) tok ([] : List Value) rfl (fun E w1 hm => hF.sl.src hm.get) (fun _ _ _ => by simp) (by omega)) (.inr fun _ _ => ⟨(by repeat (first | exact SubO.nil | refine SubO.cons rfl ?_)), rfl, Vw.le.refl _⟩) (fun _ _ => ?_)
        refine h_one 14 (by kernel_rfl) ?_
        refine h_yield 14 rfl rfl rfl rfl (y_val tok rfl) ?_
        refine h_one 16 (by kernel_rfl) ?_
        refine h_store 16 tok rfl rfl rfl rfl (by repeat' first | exact trivial | exact rfl | apply And.intro) (.inr ⟨(by repeat (first | exact SubO.nil | refine SubO.cons rfl ?_)), rfl, Vw.le.refl _⟩) ?_
        refine h_done [1, 2, 3] (by kernel_rfl) rfl ?_
        refine k_swap 5 7 rfl ?_
        refine k_swap 7 8 rfl ?_
        exact x_meet () trivial (by repeat (first | exact SubF.nil | refine SubF.cons rfl ?_)) (by repeat (first | exact SubO.nil | refine SubO.cons rfl ?_)) rfl (Vw.le.refl _)
     ·
      refine h_to 10 rfl rfl rfl rfl rfl rfl (s_bs tok 1 rfl rfl rfl) (.inr fun _ _ => ⟨(by repeat (first | exact SubO.nil | refine SubO.cons rfl ?_)), rfl, Vw.le.refl _⟩) (fun _ _ => ?_)
      refine h_two 4 15 (by kernel_rfl) ?_ ?_
      ·
       refine h_to 4 rfl rfl rfl rfl rfl rfl (s_bs tok 1 rfl rfl rfl) (.inr fun _ _ => ⟨(by repeat (first | exact SubO.nil | refine SubO.cons rfl ?_)), rfl, Vw.le.refl _⟩) (fun _ _ => ?_)
       refine h_two 7 15 (by kernel_rfl) ?_ ?_
       ·
        refine h_to 7 rfl rfl rfl rfl rfl rfl (s_app (e := 3) (sz := 1) (by_ := 8) (m := 0) (k := K.length) (olds := []) tok (K.flatMap encI64) rfl (fun E w1 hm => hK.sl.src hm.get) (fun _ _ _ => int_ones K) (by omega)) (.inr fun _ _ => ⟨(by repeat (first | exact SubO.nil | refine SubO.cons rfl ?_)), rfl, Vw.le.refl _⟩) (fun _ _ => ?_)
        refine h_two 13 15 (by kernel_rfl) ?_ ?_
        ·
         refine h_to 13 rfl rfl rfl rfl rfl rfl (s_app (e := 3) (sz := 1) (by_ := 8) (m := 0) (k := 0) (olds := []) tok ([] : List Value) rfl (fun E w1 hm => hF.sl.src hm.get) (fun _ _ _ => by simp) (by omega)) (.inr fun _ _ => ⟨(by repeat (first | exact SubO.nil | refine SubO.cons rfl ?_)), rfl, Vw.le.refl _⟩) (fun _ _ => ?_)
         refine h_two 14 15 (by kernel_rfl) ?_ ?_
         ·
          refine h_yield 14 rfl rfl rfl rfl (y_val tok rfl) ?_
          refine h_one 15 (by kernel_rfl) ?_
          refine h_new 15 tok rfl rfl rfl rfl rfl rfl ?_
          refine h_one 16 (by kernel_rfl) ?_
          refine h_store 16 tok rfl rfl rfl rfl (by repeat' first | exact trivial | exact rfl | apply And.intro) (.inr ⟨(by repeat (first | exact SubO.nil | refine SubO.cons rfl ?_)), rfl, Vw.le.refl _⟩) ?_
          refine h_done [1, 2, 3] (by kernel_rfl) rfl ?_
          refine k_swap 4 5 rfl ?_
          refine k_swap 5 6 rfl ?_
          exact x_meet () trivial (by repeat (first | exact SubF.nil | refine SubF.cons rfl ?_)) (by repeat (first | exact SubO.nil | refine SubO.cons rfl ?_)) rfl (Vw.le.refl _)
         ·
          refine h_new 15 tok rfl rfl rfl rfl rfl rfl ?_
          refine h_one 14 (by kernel_rfl) ?_
          refine h_yield 14 rfl rfl rfl rfl (y_val tok rfl) ?_
          refine h_one 16 (by kernel_rfl) ?_
          refine h_store 16 tok rfl rfl rfl rfl (by repeat' first | exact trivial | exact rfl | apply And.intro) (.inr ⟨(by repeat (first | exact SubO.nil | refine SubO.cons rfl ?_)), rfl, Vw.le.refl _⟩) ?_
          refine h_done [1, 2, 3] (by kernel_rfl) rfl ?_
          refine k_swap 4 5 rfl ?_
          refine k_swap 5 6 rfl ?_
          exact x_meet () trivial (by repeat (first | exact SubF.nil | refine SubF.cons rfl ?_)) (by repeat (first | exact SubO.nil | refine SubO.cons rfl ?_)) rfl (Vw.le.refl _)
        ·
         refine h_new 15 tok rfl rfl rfl rfl rfl rfl ?_
         refine h_one 13 (by kernel_rfl) ?_
         refine h_to 13 rfl rfl rfl rfl rfl rfl (s_app (e := 3) (sz := 1) (by_ := 8) (m := 0) (k := 0) (olds := []) tok ([] : List Value) rfl (fun E w1 hm => hF.sl.src hm.get) (fun _ _ _ => by simp) (by omega)) (.inr fun _ _ => ⟨(by repeat (first | exact SubO.nil | refine SubO.cons rfl ?_)), rfl, Vw.le.refl _⟩) (fun _ _ => ?_)
         refine h_one 14 (by kernel_rfl) ?_
         refine h_yield 14 rfl rfl rfl rfl (y_val tok rfl) ?_
         refine h_one 16 (by kernel_rfl) ?_
         refine h_store 16 tok rfl rfl rfl rfl (by repeat' first | exact trivial | exact rfl | apply And.intro) (.inr ⟨(by repeat (first | exact SubO.nil | refine SubO.cons rfl ?_)), rfl, Vw.le.refl _⟩) ?_
         refine h_done [1, 2, 3] (by kernel_rfl) rfl ?_
         refine k_swap 4 5 rfl ?_
         refine k_swap 5 6 rfl ?_
         refine k_swap 7 8 rfl ?_
         exact x_meet () trivial (by repeat (first | exact SubF.nil | refine SubF.cons rfl ?_)) (by repeat (first | exact SubO.nil | refine SubO.cons rfl ?_)) rfl (Vw.le.refl _)
       ·
        refine h_new 15 tok rfl rfl rfl rfl rfl rfl ?_
        refine h_one 7 (by kernel_rfl) ?_
        refine h_to 7 rfl rfl rfl rfl rfl rfl (s_app (e := 3) (sz := 1) (by_ := 8) (m := 0) (k := K.length) (olds := []) tok (K.flatMap encI64) rfl (fun E w1 hm => hK.sl.src hm.get) (fun _ _ _ => int_ones K) (by omega)) (.inr fun _ _ => ⟨(by repeat (first | exact SubO.nil | refine SubO.cons rfl ?_)), rfl, Vw.le.refl _⟩) (fun _ _ => ?_)
        refine h_one 13 (by kernel_rfl) ?_
        refine h_to 13 rfl rfl rfl rfl rfl rfl (s_app (e := 3) (sz := 1) (by_ := 8) (m := 0) (k := 0) (olds := []) tok ([] : List Value) rfl (fun E w1 hm => hF.sl.src hm.get) (fun _ _ _ => by simp) (by omega)) (.inr fun _ _ => ⟨(by repeat (first | exact SubO.nil | refine SubO.cons rfl ?_)), rfl, Vw.le.refl _⟩) (fun _ _ => ?_)
        refine h_one 14 (by kernel_rfl) ?_
        refine h_yield 14 rfl rfl rfl rfl (y_val tok rfl) ?_
        refine h_one 16 (by kernel_rfl) ?_
        refine h_store 16 tok rfl rfl rfl rfl (by repeat' first | exact trivial | exact rfl | apply And.intro) (.inr ⟨(by repeat (first | exact SubO.nil | refine SubO.cons rfl ?_)), rfl, Vw.le.refl _⟩) ?_
        refine h_done [1, 2, 3] (by kernel_rfl) rfl ?_
        refine k_swap 4 5 rfl ?_
        refine k_swap 5 7 rfl ?_
        refine k_swap 6 7 rfl ?_
        refine k_swap 7 8 rfl ?_
        exact x_meet () trivial (by repeat (first | exact SubF.nil | refine SubF.cons rfl ?_)) (by repeat (first | exact SubO.nil | refine SubO.cons rfl ?_)) rfl (Vw.le.refl _)
      ·
       refine h_new 15 tok rfl rfl rfl rfl rfl rfl ?_
       refine h_one 4 (by kernel_rfl) ?_
       refine h_to 4 rfl rfl rfl rfl rfl rfl (s_bs tok 1 rfl rfl rfl) (.inr fun _ _ => ⟨(by repeat (first | exact SubO.nil | refine SubO.cons rfl ?_)), rfl, Vw.le.refl _⟩) (fun _ _ => ?_)
       refine h_one 7 (by kernel_rfl) ?_
       refine h_to 7 rfl rfl rfl rfl rfl rfl (s_app (e := 3) (sz := 1) (by_ := 8) (m := 0) (k := K.length) (olds := []) tok (K.flatMap encI64) rfl (fun E w1 hm => hK.sl.src hm.get) (fun _ _ _ => int_ones K) (by omega)) (.inr fun _ _ => ⟨(by repeat (first | exact SubO.nil | refine SubO.cons rfl ?_)), rfl, Vw.le.refl _⟩) (fun _ _ => ?_)
       refine h_one 13 (by kernel_rfl) ?_
       refine h_to 13 rfl rfl rfl rfl rfl rfl (s_app (e := 3) (sz := 1) (by_ := 8) (m := 0) (k := 0) (olds := []) tok ([] : List Value) rfl (fun E w1 hm => hF.sl.src hm.get) (fun _ _ _ => by simp) (by omega)) (.inr fun _ _ => ⟨(by repeat (first | exact SubO.nil | refine SubO.cons rfl ?_)), rfl, Vw.le.refl _⟩) (fun _ _ => ?_)
       refine h_one 14 (by kernel_rfl) ?_
       refine h_yield 14 rfl rfl rfl rfl (y_val tok rfl) ?_
       refine h_one 16 (by kernel_rfl) ?_
       refine h_store 16 tok rfl rfl rfl rfl (by repeat' first | exact trivial | exact rfl | apply And.intro) (.inr ⟨(by repeat (first | exact SubO.nil | refine SubO.cons rfl ?_)), rfl, Vw.le.refl _⟩) ?_
       refine h_done [1, 2, 3] (by kernel_rfl) rfl ?_
       refine k_swap 4 6 rfl ?_
       refine k_swap 5 7 rfl ?_
       refine k_swap 7 8 rfl ?_
       exact x_meet () trivial (by repeat (first | exact SubF.nil | refine SubF.cons rfl ?_)) (by repeat (first | exact SubO.nil | refine SubO.cons rfl ?_)) rfl (Vw.le.refl _)
     ·
      refine h_new 15 tok rfl rfl rfl rfl rfl rfl ?_
      refine h_two 4 10 (by kernel_rfl) ?_ ?_
      ·
       refine h_to 4 rfl rfl rfl rfl rfl rfl (s_bs tok 1 rfl rfl rfl) (.inr fun _ _ => ⟨(by repeat (first | exact SubO.nil | refine SubO.cons rfl ?_)), rfl, Vw.le.refl _⟩) (fun _ _ => ?_)
       refine h_two 7 10 (by kernel_rfl) ?_ ?_
       ·
        refine h_to 7 rfl rfl rfl rfl rfl rfl (s_app (e := 3) (sz := 1) (by_ := 8) (m := 0) (k := K.length) (olds := []) tok (K.flatMap encI64) rfl (fun E w1 hm => hK.sl.src hm.get) (fun _ _ _ => int_ones K) (by omega)) (.inr fun _ _ => ⟨(by repeat (first | exact SubO.nil | refine SubO.cons rfl ?_)), rfl, Vw.le.refl _⟩) (fun _ _ => ?_)
        refine h_one 10 (by kernel_rfl) ?_
        refine h_to 10 rfl rfl rfl rfl rfl rfl (s_bs tok 1 rfl rfl rfl) (.inr fun _ _ => ⟨(by repeat (first | exact SubO.nil | refine SubO.cons rfl ?_)), rfl, Vw.le.refl _⟩) (fun _ _ => ?_)
        refine h_one 13 (by kernel_rfl) ?_
        refine h_to 13 rfl rfl rfl rfl rfl rfl (s_app (e := 3) (sz := 1) (by_ := 8) (m := 0) (k := 0) (olds := []) tok ([] : List Value) rfl (fun E w1 hm => hF.sl.src hm.get) (fun _ _ _ => by simp) (by omega)) (.inr fun _ _ => ⟨(by repeat (first | exact SubO.nil | refine SubO.cons rfl ?_)), rfl, Vw.le.refl _⟩) (fun _ _ => ?_)
        refine h_one 14 (by kernel_rfl) ?_
        refine h_yield 14 rfl rfl rfl rfl (y_val tok rfl) ?_
        refine h_one 16 (by kernel_rfl) ?_
        refine h_store 16 tok rfl rfl rfl rfl (by repeat' first | exact trivial | exact rfl | apply And.intro) (.inr ⟨(by repeat (first | exact SubO.nil | refine SubO.cons rfl ?_)), rfl, Vw.le.refl _⟩) ?_
        refine h_done [1, 2, 3] (by kernel_rfl) rfl ?_
        refine k_swap 4 5 rfl ?_
        refine k_swap 5 6 rfl ?_
        refine k_swap 6 7 rfl ?_
        refine k_swap 7 8 rfl ?_
        exact x_meet () trivial (by repeat (first | exact SubF.nil | refine SubF.cons rfl ?_)) (by repeat (first | exact SubO.nil | refine SubO.cons rfl ?_)) rfl (Vw.le.refl _)
       ·
        refine h_to 10 rfl rfl rfl rfl rfl rfl (s_bs tok 1 rfl rfl rfl) (.inr fun _ _ => ⟨(by repeat (first | exact SubO.nil | refine SubO.cons rfl ?_)), rfl, Vw.le.refl _⟩) (fun _ _ => ?_)
        refine h_one 7 (by kernel_rfl) ?_
        refine h_to 7 rfl rfl rfl rfl rfl rfl (s_app (e := 3) (sz := 1) (by_ := 8) (m := 0) (k := K.length) (olds := []) tok (K.flatMap encI64) rfl (fun E w1 hm => hK.sl.src hm.get) (fun _ _ _ => int_ones K) (by omega)) (.inr fun _ _ => ⟨(by repeat (first | exact SubO.nil | refine SubO.cons rfl ?_)), rfl, Vw.le.refl _⟩) (fun _ _ => ?_)
        refine h_one 13 (by kernel_rfl) ?_
        refine h_to 13 rfl rfl rfl rfl rfl rfl (s_app (e := 3) (sz := 1) (by_ := 8) (m := 0) (k := 0) (olds := []) tok ([] : List Value) rfl (fun E w1 hm => hF.sl.src hm.get) (fun _ _ _ => by simp) (by omega)) (.inr fun _ _ => ⟨(by repeat (first | exact SubO.nil | refine SubO.cons rfl ?_)), rfl, Vw.le.refl _⟩) (fun _ _ => ?_)
        refine h_one 14 (by kernel_rfl) ?_
        refine h_yield 14 rfl rfl rfl rfl (y_val tok rfl) ?_
        refine h_one 16 (by kernel_rfl) ?_
        refine h_store 16 tok rfl rfl rfl rfl (by repeat' first | exact trivial | exact rfl | apply And.intro) (.inr ⟨(by repeat (first | exact SubO.nil | refine SubO.cons rfl ?_)), rfl, Vw.le.refl _⟩) ?_
        refine h_done [1, 2, 3] (by kernel_rfl) rfl ?_
        refine k_swap 4 5 rfl ?_
        refine k_swap 5 7 rfl ?_
        refine k_swap 7 8 rfl ?_
        exact x_meet () trivial (by repeat (first | exact SubF.nil | refine SubF.cons rfl ?_)) (by repeat (first | exact SubO.nil | refine SubO.cons rfl ?_)) rfl (Vw.le.refl _)
      ·
       refine h_to 10 rfl rfl rfl rfl rfl rfl (s_bs tok 1 rfl rfl rfl) (.inr fun _ _ => ⟨(by repeat (first | exact SubO.nil | refine SubO.cons rfl ?_)), rfl, Vw.le.refl _⟩) (fun _ _ => ?_)
       refine h_one 4 (by kernel_rfl) ?_
       refine h_to 4 rfl rfl rfl rfl rfl rfl (s_bs tok 1 rfl rfl rfl) (.inr fun _ _ => ⟨(by repeat (first | exact SubO.nil | refine SubO.cons rfl ?_)), rfl, Vw.le.refl _⟩) (fun _ _ => ?_)
       refine h_one 7 (by kernel_rfl) ?_
       refine h_to 7 rfl rfl rfl rfl rfl rfl (s_app (e := 3) (sz := 1) (by_ := 8) (m := 0) (k := K.length) (olds := []) tok (K.flatMap encI64) rfl (fun E w1 hm => hK.sl.src hm.get) (fun _ _ _ => int_ones K) (by omega)) (.inr fun _ _ => ⟨(by repeat (first | exact SubO.nil | refine SubO.cons rfl ?_)), rfl, Vw.le.refl _⟩) (fun _ _ => ?_)
       refine h_one 13 (by kernel_rfl) ?_
       refine h_to 13 rfl rfl rfl rfl rfl rfl (s_app (e := 3) (sz := 1) (by_ := 8) (m := 0) (k := 0) (olds := []) tok ([] : List Value) rfl (fun E w1 hm => hF.sl.src hm.get) (fun _ _ _ => by simp) (by omega)) (.inr fun _ _ => ⟨(by repeat (first | exact SubO.nil | refine SubO.cons rfl ?_)), rfl, Vw.le.refl _⟩) (fun _ _ => ?_)
       refine h_one 14 (by kernel_rfl) ?_
       refine h_yield 14 rfl rfl rfl rfl (y_val tok rfl) ?_
       refine h_one 16 (by kernel_rfl) ?_
       refine h_store 16 tok rfl rfl rfl rfl (by repeat' first | exact trivial | exact rfl | apply And.intro) (.inr ⟨(by repeat (first | exact SubO.nil | refine SubO.cons rfl ?_)), rfl, Vw.le.refl _⟩) ?_
       refine h_done [1, 2, 3] (by kernel_rfl) rfl ?_
       refine k_swap 4 6 rfl ?_
       refine k_swap 5 7 rfl ?_
       refine k_swap 6 7 rfl ?_
       refine k_swap 7 8 rfl ?_
       exact x_meet () trivial (by repeat (first | exact SubF.nil | refine SubF.cons rfl ?_)) (by repeat (first | exact SubO.nil | refine SubO.cons rfl ?_)) rfl (Vw.le.refl _)
    ·
     refine h_to 4 rfl rfl rfl rfl rfl rfl (s_bs tok 1 rfl rfl rfl) (.inr fun _ _ => ⟨(by repeat (first | exact SubO.nil | refine SubO.cons rfl ?_)), rfl, Vw.le.refl _⟩) (fun _ _ => ?_)
     refine h_three 3 10 15 (by kernel_rfl) ?_ ?_ ?_
     ·
      refine h_to 3 rfl rfl rfl rfl rfl rfl (s_app (e := 9) (sz := 1) (by_ := 16) (m := 0) (k := S.length) (olds := []) tok (S.flatMap encS) rfl (fun E w1 hm => hS.sl.src hm.get) (fun _ _ _ => str_ones S) (by omega)) (.inr fun _ _ => ⟨(by repeat (first | exact SubO.nil | refine SubO.cons rfl ?_)), rfl, Vw.le.refl _⟩) (fun _ _ => ?_)
      refine h_three 7 10 15 (by kernel_rfl) ?_ ?_ ?_
      ·
       refine h_to 7 rfl rfl rfl rfl rfl rfl (s_app (e := 3) (sz := 1) (by_ := 8) (m := 0) (k := K.length) (olds := []) tok (K.flatMap encI64) rfl (fun E w1 hm => hK.sl.src hm.get) (fun _ _ _ => int_ones K) (by omega)) (.inr fun _ _ => ⟨(by repeat (first | exact SubO.nil | refine SubO.cons rfl ?_)), rfl, Vw.le.refl _⟩) (fun _ _ => ?_)
       refine h_two 10 15 (by kernel_rfl) ?_ ?_
       ·
        refine h_to 10 rfl rfl rfl rfl rfl rfl (s_bs tok 1 rfl rfl rfl) (.inr fun _ _ => ⟨(by repeat (first | exact SubO.nil | refine SubO.cons rfl ?_)), rfl, Vw.le.refl _⟩) (fun _ _ => ?_)
        refine h_two 13 15 (by kernel_rfl) ?_ ?_
        ·
         refine h_to 13 rfl rfl rfl rfl rfl rfl (s_app (e := 3) (sz := 1) (by_ := 8) (m := 0) (k := 0) (olds := []) tok ([] : List Value) rfl (fun E w1 hm => hF.sl.src hm.get) (fun _ _ _ => by simp) (by omega)) (.inr fun _ _ => ⟨(by repeat (first | exact SubO.nil | refine SubO.cons rfl ?_)), rfl, Vw.le.refl _⟩) (fun _ _ => ?_)
         refine h_two 14 15 (by kernel_rfl) ?_ ?_
         ·
          refine h_yield 14 rfl rfl rfl rfl (y_val tok rfl) ?_
          refine h_one 15 (by kernel_rfl) ?_
          refine h_new 15 tok rfl rfl rfl rfl rfl rfl ?_
          refine h_one 16 (by kernel_rfl) ?_
          refine h_store 16 tok rfl rfl rfl rfl (by repeat' first | exact trivial | exact rfl | apply And.intro) (.inr ⟨(by repeat (first | exact SubO.nil | refine SubO.cons rfl ?_)), rfl, Vw.le.refl _⟩) ?_
          refine h_done [1, 2, 3] (by kernel_rfl) rfl ?_
          refine k_swap 3 4 rfl ?_
          exact x_meet () trivial (by repeat (first | exact SubF.nil | refine SubF.cons rfl ?_)) (by repeat (first | exact SubO.nil | refine SubO.cons rfl ?_)) rfl (Vw.le.refl _)
         ·
          refine h_new 15 tok rfl rfl rfl rfl rfl rfl ?_
          refine h_one 14 (by kernel_rfl) ?_
          refine h_yield 14 rfl rfl rfl rfl (y_val tok rfl) ?_
          refine h_one 16 (by kernel_rfl) ?_
          refine h_store 16 tok rfl rfl rfl rfl (by repeat' first | exact trivial | exact rfl | apply And.intro) (.inr ⟨(by repeat (first | exact SubO.nil | refine SubO.cons rfl ?_)), rfl, Vw.le.refl _⟩) ?_
          refine h_done [1, 2, 3] (by kernel_rfl) rfl ?_
          refine k_swap 3 4 rfl ?_
          exact x_meet () trivial (by repeat (first | exact SubF.nil | refine SubF.cons rfl ?_)) (by repeat (first | exact SubO.nil | refine SubO.cons rfl ?_)) rfl (Vw.le.refl _)
        ·
         refine h_new 15 tok rfl rfl rfl rfl rfl rfl ?_
         refine h_one 13 (by kernel_rfl) ?_
         refine h_to 13 rfl rfl rfl rfl rfl rfl (s_app (e := 3) (sz := 1) (by_ := 8) (m := 0) (k := 0) (olds := []) tok ([] : List Value) rfl (fun E w1 hm => hF.sl.src hm.get) (fun _ _ _ => by simp) (by omega)) (.inr fun _ _ => ⟨(by repeat (first | exact SubO.nil | refine SubO.cons rfl ?_)), rfl, Vw.le.refl _⟩) (fun _ _ => ?_)
         refine h_one 14 (by kernel_rfl) ?_
         refine h_yield 14 rfl rfl rfl rfl (y_val tok rfl) ?_
         refine h_one 16 (by kernel_rfl) ?_
         refine h_store 16 tok rfl rfl rfl rfl (by repeat' first | exact trivial | exact rfl | apply And.intro) (.inr ⟨(by repeat (first | exact SubO.nil | refine SubO.cons rfl ?_)), rfl, Vw.le.refl _⟩) ?_
         refine h_done [1, 2, 3] (by kernel_rfl) rfl ?_
         refine k_swap 3 4 rfl ?_
         refine k_swap 7 8 rfl ?_
         exact x_meet () trivial (by repeat (first | exact SubF.nil | refine SubF.cons rfl ?_)) (by repeat (first | exact SubO.nil | refine SubO.cons rfl ?_)) rfl (Vw.le.refl _)
       ·
        refine h_new 15 tok rfl rfl rfl rfl rfl rfl ?_
        refine h_one 10 (by kernel_rfl) ?_
        refine h_to 10 rfl rfl rfl rfl rfl rfl (s_bs tok 1 rfl rfl rfl) (.inr fun _ _ => ⟨(by repeat (first | exact SubO.nil | refine SubO.cons rfl ?_)), rfl, Vw.le.refl _⟩) (fun _ _ => ?_)
        refine h_one 13 (by kernel_rfl) ?_
        refine h_to 13 rfl rfl rfl rfl rfl rfl (s_app (e := 3) (sz := 1) (by_ := 8) (m := 0) (k := 0) (olds := []) tok ([] : List Value) rfl (fun E w1 hm => hF.sl.src hm.get) (fun _ _ _ => by simp) (by omega)) (.inr fun _ _ => ⟨(by repeat (first | exact SubO.nil | refine SubO.cons rfl ?_)), rfl, Vw.le.refl _⟩) (fun _ _ => ?_)
        refine h_one 14 (by kernel_rfl) ?_
        refine h_yield 14 rfl rfl rfl rfl (y_val tok rfl) ?_
        refine h_one 16 (by kernel_rfl) ?_
        refine h_store 16 tok rfl rfl rfl rfl (by repeat' first | exact trivial | exact rfl | apply And.intro) (.inr ⟨(by repeat (first | exact SubO.nil | refine SubO.cons rfl ?_)), rfl, Vw.le.refl _⟩) ?_
        refine h_done [1, 2, 3] (by kernel_rfl) rfl ?_
        refine k_swap 3 4 rfl ?_
        refine k_swap 6 7 rfl ?_
        refine k_swap 7 8 rfl ?_
        exact x_meet () trivial (by repeat (first | exact SubF.nil | refine SubF.cons rfl ?_)) (by repeat (first | exact SubO.nil | refine SubO.cons rfl ?_)) rfl (Vw.le.refl _)
      ·
       refine h_to 10 rfl rfl rfl rfl rfl rfl (s_bs tok 1 rfl rfl rfl) (.inr fun _ _ => ⟨(by repeat (first | exact SubO.nil | refine SubO.cons rfl ?_)), rfl, Vw.le.refl _⟩) (fun _ _ => ?_)
       refine h_two 7 15 (by kernel_rfl) ?_ ?_
       ·
        refine h_to 7 rfl rfl rfl rfl rfl rfl (s_app (e := 3) (sz := 1) (by_ := 8) (m := 0) (k := K.length) (olds := []) tok (K.flatMap encI64) rfl (fun E w1 hm => hK.sl.src hm.get) (fun _ _ _ => int_ones K) (by omega)) (.inr fun _ _ => ⟨(by repeat (first | exact SubO.nil | refine SubO.cons rfl ?_)), rfl, Vw.le.refl _⟩) (fun _ _ => ?_)
        refine h_two 13 15 (by kernel_rfl) ?_ ?_
        ·
         refine h_to 13 rfl rfl rfl rfl rfl rfl (s_app (e := 3) (sz := 1) (by_ := 8) (m := 0) (k := 0) (olds := []) tok ([] : List Value) rfl (fun E w1 hm => hF.sl.src hm.get) (fun _ _ _ => by simp) (by omega)) (.inr fun _ _ => ⟨(by repeat (first | exact SubO.nil | refine SubO.cons rfl ?_)), rfl, Vw.le.refl _⟩) (fun _ _ => ?_)
         refine h_two 14 15 (by kernel_rfl) ?_ ?_
         ·
          refine h_yield 14 rfl rfl rfl rfl (y_val tok rfl) ?_
          refine h_one 15 (by kernel_rfl) ?_
          refine h_new 15 tok rfl rfl rfl rfl rfl rfl ?_
          refine h_one 16 (by kernel_rfl) ?_
          refine h_store 16 tok rfl rfl rfl rfl (by repeat' first | exact trivial | exact rfl | apply And.intro) (.inr ⟨(by repeat (first | exact SubO.nil | refine SubO.cons rfl ?_)), rfl, Vw.le.refl _⟩) ?_
          refine h_done [1, 2, 3] (by kernel_rfl) rfl ?_
          refine k_swap 3 4 rfl ?_
          refine k_swap 5 6 rfl ?_
          exact x_meet () trivial (by repeat (first | exact SubF.nil | refine SubF.cons rfl ?_)) (by repeat (first | exact SubO.nil | refine SubO.cons rfl ?_)) rfl (Vw.le.refl _)
         ·
          refine h_new 15 tok rfl rfl rfl rfl rfl rfl ?_
          refine h_one 14 (by kernel_rfl) ?_
          refine h_yield 14 rfl rfl rfl rfl (y_val tok rfl) ?_
          refine h_one 16 (by kernel_rfl) ?_
          refine h_store 16 tok rfl rfl rfl rfl (by repeat' first | exact trivial | exact rfl | apply And.intro) (.inr ⟨(by repeat (first | exact SubO.nil | refine SubO.cons rfl ?_)), rfl, Vw.le.refl _⟩) ?_
          refine h_done [1, 2, 3] (by kernel_rfl) rfl ?_
          refine k_swap 3 4 rfl ?_
          refine k_swap 5 6 rfl ?_
          exact x_meet () trivial (by repeat (first | exact SubF.nil | refine SubF.cons rfl ?_)) (by repeat (first | exact SubO.nil | refine SubO.cons rfl ?_)) rfl (Vw.le.refl _)
        ·
         refine h_new 15 tok rfl rfl rfl rfl rfl rfl ?_
         refine h_one 13 (by kernel_rfl) ?_
         refine h_to 13 rfl rfl rfl rfl rfl rfl (s_app (e := 3) (sz := 1) (by_ := 8) (m := 0) (k := 0) (olds := []) tok ([] : List Value) rfl (fun E w1 hm => hF.sl.src hm.get) (fun _ _ _ => by simp) (by omega)) (.inr fun _ _ => ⟨(by repeat (first | exact SubO.nil | refine SubO.cons rfl ?_)), rfl, Vw.le.refl _⟩) (fun _ _ => ?_)
         refine h_one 14 (by kernel_rfl) ?_
         refine h_yield 14 rfl rfl rfl rfl (y_val tok rfl) ?_
         refine h_one 16 (by kernel_rfl) ?_
         refine h_store 16 tok rfl rfl rfl rfl (by repeat' first | exact trivial | exact rfl | apply And.intro) (.inr ⟨(by repeat (first | exact SubO.nil | refine SubO.cons rfl ?_)), rfl, Vw.le.refl _⟩) ?_
         refine h_done [1, 2, 3] (by kernel_rfl) rfl ?_
         refine k_swap 3 4 rfl ?_
         refine k_swap 5 6 rfl ?_
         refine k_swap 7 8 rfl ?_
         exact x_meet () trivial (by repeat (first | exact SubF.nil | refine SubF.cons rfl ?_)) (by repeat (first | exact SubO.nil | refine SubO.cons rfl ?_)) rfl (Vw.le.refl _)
       ·
        refine h_new 15 tok rfl rfl rfl rfl rfl rfl ?_
        refine h_one 7 (by kernel_rfl) ?_
        refine h_to 7 rfl rfl rfl rfl rfl rfl (s_app (e := 3) (sz := 1) (by_ := 8) (m := 0) (k := K.length) (olds := []) tok (K.flatMap encI64) rfl (fun E w1 hm => hK.sl.src hm.get) (fun _ _ _ => int_ones K) (by omega)) (.inr fun _ _ => ⟨(by repeat (first | exact SubO.nil | refine SubO.cons rfl ?_)), rfl, Vw.le.refl _⟩) (fun _ _ => ?_)
        refine h_one 13 (by kernel_rfl) ?_
        refine h_to 13 rfl rfl rfl rfl rfl rfl (s_app (e := 3) (sz := 1) (by_ := 8) (m := 0) (k := 0) (olds := []) tok ([] : List Value) rfl (fun E w1 hm => hF.sl.src hm.get) (fun _ _ _ => by simp) (by omega)) (.inr fun _ _ => ⟨(by repeat (first | exact SubO.nil | refine SubO.cons rfl ?_)), rfl, Vw.le.refl _⟩) (fun _ _ => ?_)
        refine h_one 14 (by kernel_rfl) ?_
        refine h_yield 14 rfl rfl rfl rfl (y_val tok rfl) ?_
        refine h_one 16 (by kernel_rfl) ?_
        refine h_store 16 tok rfl rfl rfl rfl (by repeat' first | exact trivial | exact rfl | apply And.intro) (.inr ⟨(by repeat (first | exact SubO.nil | refine SubO.cons rfl ?_)), rfl, Vw.le.refl _⟩) ?_
        refine h_done [1, 2, 3] (by kernel_rfl) rfl ?_
        refine k_swap 3 4 rfl ?_
        refine k_swap 5 7 rfl ?_
        refine k_swap 6 7 rfl ?_
        refine k_swap 7 8 rfl ?_
        exact x_meet () trivial (by repeat (first | exact SubF.nil | refine SubF.cons rfl ?_)) (by repeat (first | exact SubO.nil | refine SubO.cons rfl ?_)) rfl (Vw.le.refl _)
      ·
       refine h_new 15 tok rfl rfl rfl rfl rfl rfl ?_
       refine h_two 7 10 (by kernel_rfl) ?_ ?_
       ·
        refine h_to 7 rfl rfl rfl rfl rfl rfl (s_app (e := 3) (sz := 1) (by_ := 8) (m := 0) (k := K.length) (olds := []) tok (K.flatMap encI64) rfl (fun E w1 hm => hK.sl.src hm.get) (fun _ _ _ => int_ones K) (by omega)) (.inr fun _ _ => ⟨(by repeat (first | exact SubO.nil | refine SubO.cons rfl ?_)), rfl, Vw.le.refl _⟩) (fun _ _ => ?_)
        refine h_one 10 (by kernel_rfl) ?_
        refine h_to 10 rfl rfl rfl rfl rfl rfl (s_bs tok 1 rfl rfl rfl) (.inr fun _ _ => ⟨(by repeat (first | exact SubO.nil | refine SubO.cons rfl ?_)), rfl, Vw.le.refl _⟩) (fun _ _ => ?_)
        refine h_one 13 (by kernel_rfl) ?_
        refine h_to 13 rfl rfl rfl rfl rfl rfl (s_app (e := 3) (sz := 1) (by_ := 8) (m := 0) (k := 0) (olds := []) tok ([] : List Value) rfl (fun E w1 hm => hF.sl.src hm.get) (fun _ _ _ => by simp) (by omega)) (.inr fun _ _ => ⟨(by repeat (first | exact SubO.nil | refine SubO.cons rfl ?_)), rfl, Vw.le.refl _⟩) (fun _ _ => ?_)
        refine h_one 14 (by kernel_rfl) ?_
        refine h_yield 14 rfl rfl rfl rfl (y_val tok rfl) ?_
        refine h_one 16 (by kernel_rfl) ?_
        refine h_store 16 tok rfl rfl rfl rfl (by repeat' first | exact trivial | exact rfl | apply And.intro) (.inr ⟨(by repeat (first | exact SubO.nil | refine SubO.cons rfl ?_)), rfl, Vw.le.refl _⟩) ?_
        refine h_done [1, 2, 3] (by kernel_rfl) rfl ?_
        refine k_swap 3 4 rfl ?_
        refine k_swap 5 6 rfl ?_
        refine k_swap 6 7 rfl ?_
        refine k_swap 7 8 rfl ?_
        exact x_meet () trivial (by repeat (first | exact SubF.nil | refine SubF.cons rfl ?_)) (by repeat (first | exact SubO.nil | refine SubO.cons rfl ?_)) rfl (Vw.le.refl _)
       ·
        refine h_to 10 rfl rfl rfl rfl rfl rfl (s_bs tok 1 rfl rfl rfl) (.inr fun _ _ => ⟨(by repeat (first | exact SubO.nil | refine SubO.cons rfl ?_)), rfl, Vw.le.refl _⟩) (fun _ _ => ?_)
        refine h_one 7 (by kernel_rfl) ?_
        refine h_to 7 rfl rfl rfl rfl rfl rfl (s_app (e := 3) (sz := 1) (by_ := 8) (m := 0) (k := K.length) (olds := []) tok (K.flatMap encI64) rfl (fun E w1 hm => hK.sl.src hm.get) (fun _ _ _ => int_ones K) (by omega)) (.inr fun _ _ => ⟨(by repeat (first | exact SubO.nil | refine SubO.cons rfl ?_)), rfl, Vw.le.refl _⟩) (fun _ _ => ?_)
        refine h_one 13 (by kernel_rfl) ?_
        refine h_to 13 rfl rfl rfl rfl rfl rfl (s_app (e := 3) (sz := 1) (by_ := 8) (m := 0) (k := 0) (olds := []) tok ([] : List Value) rfl (fun E w1 hm => hF.sl.src hm.get) (fun _ _ _ => by simp) (by omega)) (.inr fun _ _ => ⟨(by repeat (first | exact SubO.nil | refine SubO.cons rfl ?_)), rfl, Vw.le.refl _⟩) (fun _ _ => ?_)
        refine h_one 14 (by kernel_rfl) ?_
        refine h_yield 14 rfl rfl rfl rfl (y_val tok rfl) ?_
        refine h_one 16 (by kernel_rfl) ?_
        refine h_store 16 tok rfl rfl rfl rfl (by repeat' first | exact trivial | exact rfl | apply And.intro) (.inr ⟨(by repeat (first | exact SubO.nil | refine SubO.cons rfl ?_)), rfl, Vw.le.refl _⟩) ?_
        refine h_done [1, 2, 3] (by kernel_rfl) rfl ?_
        refine k_swap 3 4 rfl ?_
        refine k_swap 5 7 rfl ?_
        refine k_swap 7 8 rfl ?_
        exact x_meet () trivial (by repeat (first | exact SubF.nil | refine SubF.cons rfl ?_)) (by repeat (first | exact SubO.nil | refine SubO.cons rfl ?_)) rfl (Vw.le.refl _)
     ·
      refine h_to 10 rfl rfl rfl rfl rfl rfl (s_bs tok 1 rfl rfl rfl) (.inr fun _ _ => ⟨(by repeat (first | exact SubO.nil | refine SubO.cons rfl ?_)), rfl, Vw.le.refl _⟩) (fun _ _ => ?_)
      refine h_two 3 15 (by kernel_rfl) ?_ ?_
      ·
       refine h_to 3 rfl rfl rfl rfl rfl rfl (s_app (e := 9) (sz := 1) (by_ := 16) (m := 0) (k := S.length) (olds := []) tok (S.flatMap encS) rfl (fun E w1 hm => hS.sl.src hm.get) (fun _ _ _ => str_ones S) (by omega)) (.inr fun _ _ => ⟨(by repeat (first | exact SubO.nil | refine SubO.cons rfl ?_)), rfl, Vw.le.refl _⟩) (fun _ _ => ?_)
       refine h_two 7 15 (by kernel_rfl) ?_ ?_
       ·
        refine h_to 7 rfl rfl rfl rfl rfl rfl (s_app (e := 3) (sz := 1) (by_ := 8) (m := 0) (k := K.length) (olds := []) tok (K.flatMap encI64) rfl (fun E w1 hm => hK.sl.src hm.get) (fun _ _ _ => int_ones K) (by omega)) (.inr fun _ _ => ⟨(by repeat (first | exact SubO.nil | refine SubO.cons rfl ?_)), rfl, Vw.le.refl _⟩) (fun _ _ => ?_)
        refine h_two 13 15 (by kernel_rfl) ?_ ?_
        ·
         refine h_to 13 rfl rfl rfl rfl rfl rfl (s_app (e := 3) (sz := 1) (by_ := 8) (m := 0) (k := 0) (olds := []) tok ([] : List Value) rfl (fun E w1 hm => hF.sl.src hm.get) (fun _ _ _ => by simp) (by omega)) (.inr fun _ _ => ⟨(by repeat (first | exact SubO.nil | refine SubO.cons rfl ?_)), rfl, Vw.le.refl _⟩) (fun _ _ => ?_)
         refine h_two 14 15 (by kernel_rfl) ?_ ?_
         ·
          refine h_yield 14 rfl rfl rfl rfl (y_val tok rfl) ?_
          refine h_one 15 (by kernel_rfl) ?_
          refine h_new 15 tok rfl rfl rfl rfl rfl rfl ?_
          refine h_one 16 (by kernel_rfl) ?_
          refine h_store 16 tok rfl rfl rfl rfl (by repeat' first | exact trivial | exact rfl | apply And.intro) (.inr ⟨(by repeat (first | exact SubO.nil | refine SubO.cons rfl ?_)), rfl, Vw.le.refl _⟩) ?_
          refine h_done [1, 2, 3] (by kernel_rfl) rfl ?_
          refine k_swap 3 5 rfl ?_
          refine k_swap 4 5 rfl ?_
          refine k_swap 5 6 rfl ?_
          exact x_meet () trivial (by repeat (first | exact SubF.nil | refine SubF.cons rfl ?_)) (by repeat (first | exact SubO.nil | refine SubO.cons rfl ?_)) rfl (Vw.le.refl _)
         ·
          refine h_new 15 tok rfl rfl rfl rfl rfl rfl ?_
          refine h_one 14 (by kernel_rfl) ?_
          refine h_yield 14 rfl rfl rfl rfl (y_val tok rfl) ?_
          refine h_one 16 (by kernel_rfl) ?_
          refine h_store 16 tok rfl rfl rfl rfl (by repeat' first | exact trivial | exact rfl | apply And.intro) (.inr ⟨(by repeat (first | exact SubO.nil | refine SubO.cons rfl ?_)), rfl, Vw.le.refl _⟩) ?_
          refine h_done [1, 2, 3] (by kernel_rfl) rfl ?_
          refine k_swap 3 5 rfl ?_
          refine k_swap 4 5 rfl ?_
          refine k_swap 5 6 rfl ?_
          exact x_meet () trivial (by repeat (first | exact SubF.nil | refine SubF.cons rfl ?_)) (by repeat (first | exact SubO.nil | refine SubO.cons rfl ?_)) rfl (Vw.le.refl _)
        ·
         refine h_new 15 tok rfl rfl rfl rfl rfl rfl ?_
         refine h_one 13 (by kernel_rfl) ?_
         refine h_to 13 rfl rfl rfl rfl rfl rfl (s_app (e := 3) (sz := 1) (by_ := 8) (m := 0) (k := 0) (olds := []) tok ([] : List Value) rfl (fun E w1 hm => hF.sl.src hm.get) (fun _ _ _ => by simp) (by omega)) (.inr fun _ _ => ⟨(by repeat (first | exact SubO.nil | refine SubO.cons rfl ?_)), rfl, Vw.le.refl _⟩) (fun _ _ => ?_)
         refine h_one 14 (by kernel_rfl) ?_
         refine h_yield 14 rfl rfl rfl rfl (y_val tok rfl) ?_
         refine h_one 16 (by kernel_rfl) ?_
         refine h_store 16 tok rfl rfl rfl rfl (by repeat' first | exact trivial | exact rfl | apply And.intro) (.inr ⟨(by repeat (first | exact SubO.nil | refine SubO.cons rfl ?_)), rfl, Vw.le.refl _⟩) ?_
         refine h_done [1, 2, 3] (by kernel_rfl) rfl ?_
         refine k_swap 3 5 rfl ?_
         refine k_swap 4 5 rfl ?_
         refine k_swap 5 6 rfl ?_
         refine k_swap 7 8 rfl ?_
         exact x_meet () trivial (by repeat (first | exact SubF.nil | refine SubF.cons rfl ?_)) (by repeat (first | exact SubO.nil | refine SubO.cons rfl ?_)) rfl (Vw.le.refl _)
       ·
        refine h_new 15 tok rfl rfl rfl rfl rfl rfl ?_
        refine h_one 7 (by kernel_rfl) ?_
        refine h_to 7 rfl rfl rfl rfl rfl rfl (s_app (e := 3) (sz := 1) (by_ := 8) (m := 0) (k := K.length) (olds := []) tok (K.flatMap encI64) rfl (fun E w1 hm => hK.sl.src hm.get) (fun _ _ _ => int_ones K) (by omega)) (.inr fun _ _ => ⟨(by repeat (first | exact SubO.nil | refine SubO.cons rfl ?_)), rfl, Vw.le.refl _⟩) (fun _ _ => ?_)
        refine h_one 13 (by kernel_rfl) ?_
        refine h_to 13 rfl rfl rfl rfl rfl rfl (s_app (e := 3) (sz := 1) (by_ := 8) (m := 0) (k := 0) (olds := []) tok ([] : List Value) rfl (fun E w1 hm => hF.sl.src hm.get) (fun _ _ _ => by simp) (by omega)) (.inr fun _ _ => ⟨(by repeat (first | exact SubO.nil | refine SubO.cons rfl ?_)), rfl, Vw.le.refl _⟩) (fun _ _ => ?_)
        refine h_one 14 (by kernel_rfl) ?_
        refine h_yield 14 rfl rfl rfl rfl (y_val tok rfl) ?_
        refine h_one 16 (by kernel_rfl) ?_
        refine h_store 16 tok rfl rfl rfl rfl (by repeat' first | exact trivial | exact rfl | apply And.intro) (.inr ⟨(by repeat (first | exact SubO.nil | refine SubO.cons rfl ?_)), rfl, Vw.le.refl _⟩) ?_
        refine h_done [1, 2, 3] (by kernel_rfl) rfl ?_
        refine k_swap 3 5 rfl ?_
        refine k_swap 4 5 rfl ?_
        refine k_swap 5 7 rfl ?_
        refine k_swap 6 7 rfl ?_
        refine k_swap 7 8 rfl ?_
        exact x_meet () trivial (by repeat (first | exact SubF.nil | refine SubF.cons rfl ?_)) (by repeat (first | exact SubO.nil | refine SubO.cons rfl ?_)) rfl (Vw.le.refl _)
      ·
       refine h_new 15 tok rfl rfl rfl rfl rfl rfl ?_
       refine h_one 3 (by kernel_rfl) ?_
       refine h_to 3 rfl rfl rfl rfl rfl rfl (s_app (e := 9) (sz := 1) (by_ := 16) (m := 0) (k := S.length) (olds := []) tok (S.flatMap encS) rfl (fun E w1 hm => hS.sl.src hm.get) (fun _ _ _ => str_ones S) (by omega)) (.inr fun _ _ => ⟨(by repeat (first | exact SubO.nil | refine SubO.cons rfl ?_)), rfl, Vw.le.refl _⟩) (fun _ _ => ?_)
       refine h_one 7 (by kernel_rfl) ?_
       refine h_to 7 rfl rfl rfl rfl rfl rfl (s_app (e := 3) (sz := 1) (by_ := 8) (m := 0) (k := K.length) (olds := []) tok (K.flatMap encI64) rfl (fun E w1 hm => hK.sl.src hm.get) (fun _ _ _ => int_ones K) (by omega)) (.inr fun _ _ => ⟨(by repeat (first | exact SubO.nil | refine SubO.cons rfl ?_)), rfl, Vw.le.refl _⟩) (fun _ _ => ?_)
       refine h_one 13 (by kernel_rfl) ?_
       refine h_to 13 rfl rfl rfl rfl rfl rfl (s_app (e := 3) (sz := 1) (by_ := 8) (m := 0) (k := 0) (olds := []) tok ([] : List Value) rfl (fun E w1 hm => hF.sl.src hm.get) (fun _ _ _ => by simp) (by omega)) (.inr fun _ _ => ⟨(by repeat (first | exact SubO.nil | refine SubO.cons rfl ?_)), rfl, Vw.le.refl _⟩) (fun _ _ => ?_)
       refine h_one 14 (by kernel_rfl) ?_
       refine h_yield 14 rfl rfl rfl rfl (y_val tok rfl) ?_
       refine h_one 16 (by kernel_rfl) ?_
       refine h_store 16 tok rfl rfl rfl rfl (by repeat' first | exact trivial | exact rfl | apply And.intro) (.inr ⟨(by repeat (first | exact SubO.nil | refine SubO.cons rfl ?_)), rfl, Vw.le.refl _⟩) ?_
       refine h_done [1, 2, 3] (by kernel_rfl) rfl ?_
       refine k_swap 3 6 rfl ?_
       refine k_swap 4 6 rfl ?_
       refine k_swap 5 7 rfl ?_
       refine k_swap 7 8 rfl ?_
       exact x_meet () trivial (by repeat (first | exact SubF.nil | refine SubF.cons rfl ?_)) (by repeat (first | exact SubO.nil | refine SubO.cons rfl ?_)) rfl (Vw.le.refl _)
     ·
      refine h_new 15 tok rfl rfl rfl rfl rfl rfl ?_
      refine h_two 3 10 (by kernel_rfl) ?_ ?_
      ·
       refine h_to 3 rfl rfl rfl rfl rfl rfl (s_app (e := 9) (sz := 1) (by_ := 16) (m := 0) (k := S.length) (olds := []) tok (S.flatMap encS) rfl (fun E w1 hm => hS.sl.src hm.get) (fun _ _ _ => str_ones S) (by omega)) (.inr fun _ _ => ⟨(by repeat (first | exact SubO.nil | refine SubO.cons rfl ?_)), rfl, Vw.le.refl _⟩) (fun _ _ => ?_)
       refine h_two 7 10 (by kernel_rfl) ?_ ?_
       ·
        refine h_to 7 rfl rfl rfl rfl rfl rfl (s_app (e := 3) (sz := 1) (by_ := 8) (m := 0) (k := K.length) (olds := []) tok (K.flatMap encI64) rfl (fun E w1 hm => hK.sl.src hm.get) (fun _ _ _ => int_ones K) (by omega)) (.inr fun _ _ => ⟨(by repeat (first | exact SubO.nil | refine SubO.cons rfl ?_)), rfl, Vw.le.refl _⟩) (fun _ _ => ?_)
        refine h_one 10 (by kernel_rfl) ?_
        refine h_to 10 rfl rfl rfl rfl rfl rfl (s_bs tok 1 rfl rfl rfl) (.inr fun _ _ => ⟨(by repeat (first | exact SubO.nil | refine SubO.cons rfl ?_)), rfl, Vw.le.refl _⟩) (fun _ _ => ?_)
        refine h_one 13 (by kernel_rfl) ?_
        refine h_to 13 rfl rfl rfl rfl rfl rfl (s_app (e := 3) (sz := 1) (by_ := 8) (m := 0) (k := 0) (olds := []) tok ([] : List Value) rfl (fun E w1 hm => hF.sl.src hm.get) (fun _ _ _ => by simp) (by omega)) (.inr fun _ _ => ⟨(by repeat (first | exact SubO.nil | refine SubO.cons rfl ?_)), rfl, Vw.le.refl _⟩) (fun _ _ => ?_)
        refine h_one 14 (by kernel_rfl) ?_
        refine h_yield 14 rfl rfl rfl rfl (y_val tok rfl) ?_
        refine h_one 16 (by kernel_rfl) ?_
        refine h_store 16 tok rfl rfl rfl rfl (by repeat' first | exact trivial | exact rfl | apply And.intro) (.inr ⟨(by repeat (first | exact SubO.nil | refine SubO.cons rfl ?_)), rfl, Vw.le.refl _⟩) ?_
        refine h_done [1, 2, 3] (by kernel_rfl) rfl ?_
        refine k_swap 3 5 rfl ?_
        refine k_swap 4 5 rfl ?_
        refine k_swap 5 6 rfl ?_
        refine k_swap 6 7 rfl ?_
        refine k_swap 7 8 rfl ?_
        exact x_meet () trivial (by repeat (first | exact SubF.nil | refine SubF.cons rfl ?_)) (by repeat (first | exact SubO.nil | refine SubO.cons rfl ?_)) rfl (Vw.le.refl _)
       ·
        refine h_to 10 rfl rfl rfl rfl rfl rfl (s_bs tok 1 rfl rfl rfl) (.inr fun _ _ => ⟨(by repeat (first | exact SubO.nil | refine SubO.cons rfl ?_)), rfl, Vw.le.refl _⟩) (fun _ _ => ?_)
        refine h_one 7 (by kernel_rfl) ?_
        refine h_to 7 rfl rfl rfl rfl rfl rfl (s_app (e := 3) (sz := 1) (by_ := 8) (m := 0) (k := K.length) (olds := []) tok (K.flatMap encI64) rfl (fun E w1 hm => hK.sl.src hm.get) (fun _ _ _ => int_ones K) (by omega)) (.inr fun _ _ => ⟨(by repeat (first | exact SubO.nil | refine SubO.cons rfl ?_)), rfl, Vw.le.refl _⟩) (fun _ _ => ?_)
        refine h_one 13 (by kernel_rfl) ?_
        refine h_to 13 rfl rfl rfl rfl rfl rfl (s_app (e := 3) (sz := 1) (by_ := 8) (m := 0) (k := 0) (olds := []) tok ([] : List Value) rfl (fun E w1 hm => hF.sl.src hm.get) (fun _ _ _ => by simp) (by omega)) (.inr fun _ _ => ⟨(by repeat (first | exact SubO.nil | refine SubO.cons rfl ?_)), rfl, Vw.le.refl _⟩) (fun _ _ => ?_)
        refine h_one 14 (by kernel_rfl) ?_
        refine h_yield 14 rfl rfl rfl rfl (y_val tok rfl) ?_
        refine h_one 16 (by kernel_rfl) ?_
        refine h_store 16 tok rfl rfl rfl rfl (by repeat' first | exact trivial | exact rfl | apply And.intro) (.inr ⟨(by repeat (first | exact SubO.nil | refine SubO.cons rfl ?_)), rfl, Vw.le.refl _⟩) ?_
        refine h_done [1, 2, 3] (by kernel_rfl) rfl ?_
        refine k_swap 3 5 rfl ?_
        refine k_swap 4 5 rfl ?_
        refine k_swap 5 7 rfl ?_
        refine k_swap 7 8 rfl ?_
        exact x_meet () trivial (by repeat (first | exact SubF.nil | refine SubF.cons rfl ?_)) (by repeat (first | exact SubO.nil | refine SubO.cons rfl ?_)) rfl (Vw.le.refl _)
      ·
       refine h_to 10 rfl rfl rfl rfl rfl rfl (s_bs tok 1 rfl rfl rfl) (.inr fun _ _ => ⟨(by repeat (first | exact SubO.nil | refine SubO.cons rfl ?_)), rfl, Vw.le.refl _⟩) (fun _ _ => ?_)
       refine h_one 3 (by kernel_rfl) ?_
       refine h_to 3 rfl rfl rfl rfl rfl rfl (s_app (e := 9) (sz := 1) (by_ := 16) (m := 0) (k := S.length) (olds := []) tok (S.flatMap encS) rfl (fun E w1 hm => hS.sl.src hm.get) (fun _ _ _ => str_ones S) (by omega)) (.inr fun _ _ => ⟨(by repeat (first | exact SubO.nil | refine SubO.cons rfl ?_)), rfl, Vw.le.refl _⟩) (fun _ _ => ?_)
       refine h_one 7 (by kernel_rfl) ?_
       refine h_to 7 rfl rfl rfl rfl rfl rfl (s_app (e := 3) (sz := 1) (by_ := 8) (m := 0) (k := K.length) (olds := []) tok (K.flatMap encI64) rfl (fun E w1 hm => hK.sl.src hm.get) (fun _ _ _ => int_ones K) (by omega)) (.inr fun _ _ => ⟨(by repeat (first | exact SubO.nil | refine SubO.cons rfl ?_)), rfl, Vw.le.refl _⟩) (fun _ _ => ?_)
       refine h_one 13 (by kernel_rfl) ?_
       refine h_to 13 rfl rfl rfl rfl rfl rfl (s_app (e := 3) (sz := 1) (by_ := 8) (m := 0) (k := 0) (olds := []) tok ([] : List Value) rfl (fun E w1 hm => hF.sl.src hm.get) (fun _ _ _ => by simp) (by omega)) (.inr fun _ _ => ⟨(by repeat (first | exact SubO.nil | refine SubO.cons rfl ?_)), rfl, Vw.le.refl _⟩) (fun _ _ => ?_)
       refine h_one 14 (by kernel_rfl) ?_
       refine h_yield 14 rfl rfl rfl rfl (y_val tok rfl) ?_
       refine h_one 16 (by kernel_rfl) ?_
       refine h_store 16 tok rfl rfl rfl rfl (by repeat' first | exact trivial | exact rfl | apply And.intro) (.inr ⟨(by repeat (first | exact SubO.nil | refine SubO.cons rfl ?_)), rfl, Vw.le.refl _⟩) ?_
       refine h_done [1, 2, 3] (by kernel_rfl) rfl ?_
       refine k_swap 3 6 rfl ?_
       refine k_swap 4 6 rfl ?_
       refine k_swap 5 7 rfl ?_
       refine k_swap 6 7 rfl ?_
       refine k_swap 7 8 rfl ?_
       exact x_meet () trivial (by repeat (first | exact SubF.nil | refine SubF.cons rfl ?_)) (by repeat (first | exact SubO.nil | refine SubO.cons rfl ?_)) rfl (Vw.le.refl _)
    ·
     refine h_to 10 rfl rfl rfl rfl rfl rfl (s_bs tok 1 rfl rfl rfl) (.inr fun _ _ => ⟨(by repeat (first | exact SubO.nil | refine SubO.cons rfl ?_)), rfl, Vw.le.refl _⟩) (fun _ _ => ?_)
     refine h_three 3 4 15 (by kernel_rfl) ?_ ?_ ?_
     ·
      refine h_to 3 rfl rfl rfl rfl rfl rfl (s_app (e := 9) (sz := 1) (by_ := 16) (m := 0) (k := S.length) (olds := []) tok (S.flatMap encS) rfl (fun E w1 hm => hS.sl.src hm.get) (fun _ _ _ => str_ones S) (by omega)) (.inr fun _ _ => ⟨(by repeat (first | exact SubO.nil | refine SubO.cons rfl ?_)), rfl, Vw.le.refl _⟩) (fun _ _ => ?_)
      refine h_two 4 15 (by kernel_rfl) ?_ ?_
      ·
       refine h_to 4 rfl rfl rfl rfl rfl rfl (s_bs tok 1 rfl rfl rfl) (.inr fun _ _ => ⟨(by repeat (first | exact SubO.nil | refine SubO.cons rfl ?_)), rfl, Vw.le.refl _⟩) (fun _ _ => ?_)
       refine h_two 7 15 (by kernel_rfl) ?_ ?_
       ·
        refine h_to 7 rfl rfl rfl rfl rfl rfl (s_app (e := 3) (sz := 1) (by_ := 8) (m := 0) (k := K.length) (olds := []) tok (K.flatMap encI64) rfl (fun E w1 hm => hK.sl.src hm.get) (fun _ _ _ => int_ones K) (by omega)) (.inr fun _ _ => ⟨(by repeat (first | exact SubO.nil | refine SubO.cons rfl ?_)), rfl, Vw.le.refl _⟩) (fun _ _ => ?_)
        refine h_two 13 15 (by kernel_rfl) ?_ ?_
        ·
         refine h_to 13 rfl rfl rfl rfl rfl rfl (s_app (e := 3) (sz := 1) (by_ := 8) (m := 0) (k := 0) (olds := []) tok ([] : List Value) rfl (fun E w1 hm => hF.sl.src hm.get) (fun _ _ _ => by simp) (by omega)) (.inr fun _ _ => ⟨(by repeat (first | exact SubO.nil | refine SubO.cons rfl ?_)), rfl, Vw.le.refl _⟩) (fun _ _ => ?_)
         refine h_two 14 15 (by kernel_rfl) ?_ ?_
         ·
          refine h_yield 14 rfl rfl rfl rfl (y_val tok rfl) ?_
          refine h_one 15 (by kernel_rfl) ?_
          refine h_new 15 tok rfl rfl rfl rfl rfl rfl ?_
          refine h_one 16 (by kernel_rfl) ?_
          refine h_store 16 tok rfl rfl rfl rfl (by repeat' first | exact trivial | exact rfl | apply And.intro) (.inr ⟨(by repeat (first | exact SubO.nil | refine SubO.cons rfl ?_)), rfl, Vw.le.refl _⟩) ?_
          refine h_done [1, 2, 3] (by kernel_rfl) rfl ?_
          refine k_swap 3 4 rfl ?_
          refine k_swap 4 5 rfl ?_
          refine k_swap 5 6 rfl ?_
          exact x_meet () trivial (by repeat (first | exact SubF.nil | refine SubF.cons rfl ?_)) (by repeat (first | exact SubO.nil | refine SubO.cons rfl ?_)) rfl (Vw.le.refl _)
         ·
          refine h_new 15 tok rfl rfl rfl rfl rfl rfl ?_
          refine h_one 14 (by kernel_rfl) ?_
          refine h_yield 14 rfl rfl rfl rfl (y_val tok rfl) ?_
          refine h_one 16 (by kernel_rfl) ?_
          refine h_store 16 tok rfl rfl rfl rfl (by repeat' first | exact trivial | exact rfl | apply And.intro) (.inr ⟨(by repeat (first | exact SubO.nil | refine SubO.cons rfl ?_)), rfl, Vw.le.refl _⟩) ?_
          refine h_done [1, 2, 3] (by kernel_rfl) rfl ?_
          refine k_swap 3 4 rfl ?_
          refine k_swap 4 5 rfl ?_
          refine k_swap 5 6 rfl ?_
          exact x_meet () trivial (by repeat (first | exact SubF.nil | refine SubF.cons rfl ?_)) (by repeat (first | exact SubO.nil | refine SubO.cons rfl ?_)) rfl (Vw.le.refl _)
        ·
         refine h_new 15 tok rfl rfl rfl rfl rfl rfl ?_
         refine h_one 13 (by kernel_rfl) ?_
         refine h_to 13 rfl rfl rfl rfl rfl rfl (s_app (e := 3) (sz := 1) (by_ := 8) (m := 0) (k := 0) (olds := []) tok ([] : List Value) rfl (fun E w1 hm => hF.sl.src hm.get) (fun _ _ _ => by simp) (by omega)) (.inr fun _ _ => ⟨(by repeat (first | exact SubO.nil | refine SubO.cons rfl ?_)), rfl, Vw.le.refl _⟩) (fun _ _ => ?_)
         refine h_one 14 (by kernel_rfl) ?_
         refine h_yield 14 rfl rfl rfl rfl (y_val tok rfl) ?_
         refine h_one 16 (by kernel_rfl) ?_
         refine h_store 16 tok rfl rfl rfl rfl (by repeat' first | exact trivial | exact rfl | apply And.intro) (.inr ⟨(by repeat (first | exact SubO.nil | refine SubO.cons rfl ?_)), rfl, Vw.le.refl _⟩) ?_
         refine h_done [1, 2, 3] (by kernel_rfl) rfl ?_
         refine k_swap 3 4 rfl ?_
         refine k_swap 4 5 rfl ?_
         refine k_swap 5 6 rfl ?_
         refine k_swap 7 8 rfl ?_
         exact x_meet () trivial (by repeat (first | exact SubF.nil | refine SubF.cons rfl ?_)) (by repeat (first | exact SubO.nil | refine SubO.cons rfl ?_)) rfl (Vw.le.refl _)
       ·
        refine h_new 15 tok rfl rfl rfl rfl rfl rfl ?_
        refine h_one 7 (by kernel_rfl) ?_
        refine h_to 7 rfl rfl rfl rfl rfl rfl (s_app (e := 3) (sz := 1) (by_ := 8) (m := 0) (k := K.length) (olds := []) tok (K.flatMap encI64) rfl (fun E w1 hm => hK.sl.src hm.get) (fun _ _ _ => int_ones K) (by omega)) (.inr fun _ _ => ⟨(by repeat (first | exact SubO.nil | refine SubO.cons rfl ?_)), rfl, Vw.le.refl _⟩) (fun _ _ => ?_)
        refine h_one 13 (by kernel_rfl) ?_
        refine h_to 13 rfl rfl rfl rfl rfl rfl (s_app (e := 3) (sz := 1) (by_ := 8) (m := 0) (k := 0) (olds := []) tok ([] : List Value) rfl (fun E w1 hm => hF.sl.src hm.get) (fun _ _ _ => by simp) (by omega)) (.inr fun _ _ => ⟨(by repeat (first | exact SubO.nil | refine SubO.cons rfl ?_)), rfl, Vw.le.refl _⟩) (fun _ _ => ?_)
        refine h_one 14 (by kernel_rfl) ?_
        refine h_yield 14 rfl rfl rfl rfl (y_val tok rfl) ?_
        refine h_one 16 (by kernel_rfl) ?_
        refine h_store 16 tok rfl rfl rfl rfl (by repeat' first | exact trivial | exact rfl | apply And.intro) (.inr ⟨(by repeat (first | exact SubO.nil | refine SubO.cons rfl ?_)), rfl, Vw.le.refl _⟩) ?_
        refine h_done [1, 2, 3] (by kernel_rfl) rfl ?_
        refine k_swap 3 4 rfl ?_
        refine k_swap 4 5 rfl ?_
        refine k_swap 5 7 rfl ?_
        refine k_swap 6 7 rfl ?_
        refine k_swap 7 8 rfl ?_
        exact x_meet () trivial (by repeat (first | exact SubF.nil | refine SubF.cons rfl ?_)) (by repeat (first | exact SubO.nil | refine SubO.cons rfl ?_)) rfl (Vw.le.refl _)
      ·
       refine h_new 15 tok rfl rfl rfl rfl rfl rfl ?_
       refine h_one 4 (by kernel_rfl) ?_
       refine h_to 4 rfl rfl rfl rfl rfl rfl (s_bs tok 1 rfl rfl rfl) (.inr fun _ _ => ⟨(by repeat (first | exact SubO.nil | refine SubO.cons rfl ?_)), rfl, Vw.le.refl _⟩) (fun _ _ => ?_)
       refine h_one 7 (by kernel_rfl) ?_
       refine h_to 7 rfl rfl rfl rfl rfl rfl (s_app (e := 3) (sz := 1) (by_ := 8) (m := 0) (k := K.length) (olds := []) tok (K.flatMap encI64) rfl (fun E w1 hm => hK.sl.src hm.get) (fun _ _ _ => int_ones K) (by omega)) (.inr fun _ _ => ⟨(by repeat (first | exact SubO.nil | refine SubO.cons rfl ?_)), rfl, Vw.le.refl _⟩) (fun _ _ => ?_)
       refine h_one 13 (by kernel_rfl) ?_
       refine h_to 13 rfl rfl rfl rfl rfl rfl (s_app (e := 3) (sz := 1) (by_ := 8) (m := 0) (k := 0) (olds := []) tok ([] : List Value) rfl (fun E w1 hm => hF.sl.src hm.get) (fun _ _ _ => by simp) (by omega)) (.inr fun _ _ => ⟨(by repeat (first | exact SubO.nil | refine SubO.cons rfl ?_)), rfl, Vw.le.refl _⟩) (fun _ _ => ?_)
       refine h_one 14 (by kernel_rfl) ?_
       refine h_yield 14 rfl rfl rfl rfl (y_val tok rfl) ?_
       refine h_one 16 (by kernel_rfl) ?_
       refine h_store 16 tok rfl rfl rfl rfl (by repeat' first | exact trivial | exact rfl | apply And.intro) (.inr ⟨(by repeat (first | exact SubO.nil | refine SubO.cons rfl ?_)), rfl, Vw.le.refl _⟩) ?_
       refine h_done [1, 2, 3] (by kernel_rfl) rfl ?_
       refine k_swap 3 4 rfl ?_
       refine k_swap 4 6 rfl ?_
       refine k_swap 5 7 rfl ?_
       refine k_swap 7 8 rfl ?_
       exact x_meet () trivial (by repeat (first | exact SubF.nil | refine SubF.cons rfl ?_)) (by repeat (first | exact SubO.nil | refine SubO.cons rfl ?_)) rfl (Vw.le.refl _)
     ·
      refine h_to 4 rfl rfl rfl rfl rfl rfl (s_bs tok 1 rfl rfl rfl) (.inr fun _ _ => ⟨(by repeat (first | exact SubO.nil | refine SubO.cons rfl ?_)), rfl, Vw.le.refl _⟩) (fun _ _ => ?_)
      refine h_two 3 15 (by kernel_rfl) ?_ ?_
      ·
       refine h_to 3 rfl rfl rfl rfl rfl rfl (s_app (e := 9) (sz := 1) (by_ := 16) (m := 0) (k := S.length) (olds := []) tok (S.flatMap encS) rfl (fun E w1 hm => hS.sl.src hm.get) (fun _ _ _ => str_ones S) (by omega)) (.inr fun _ _ => ⟨(by repeat (first | exact SubO.nil | refine SubO.cons rfl ?_)), rfl, Vw.le.refl _⟩) (fun _ _ => ?_)
       refine h_two 7 15 (by kernel_rfl) ?_ ?_
       ·
        refine h_to 7 rfl rfl rfl rfl rfl rfl (s_app (e := 3) (sz := 1) (by_ := 8) (m := 0) (k := K.length) (olds := []) tok (K.flatMap encI64) rfl (fun E w1 hm => hK.sl.src hm.get) (fun _ _ _ => int_ones K) (by omega)) (.inr fun _ _ => ⟨(by repeat (first | exact SubO.nil | refine SubO.cons rfl ?_)), rfl, Vw.le.refl _⟩) (fun _ _ => ?_)
        refine h_two 13 15 (by kernel_rfl) ?_ ?_
        ·
         refine h_to 13 rfl rfl rfl rfl rfl rfl (s_app (e := 3) (sz := 1) (by_ := 8) (m := 0) (k := 0) (olds := []) tok ([] : List Value) rfl (fun E w1 hm => hF.sl.src hm.get) (fun _ _ _ => by simp) (by omega)) (.inr fun _ _ => ⟨(by repeat (first | exact SubO.nil | refine SubO.cons rfl ?_)), rfl, Vw.le.refl _⟩) (fun _ _ => ?_)
         refine h_two 14 15 (by kernel_rfl) ?_ ?_
         ·
          refine h_yield 14 rfl rfl rfl rfl (y_val tok rfl) ?_
          refine h_one 15 (by kernel_rfl) ?_
          refine h_new 15 tok rfl rfl rfl rfl rfl rfl ?_
          refine h_one 16 (by kernel_rfl) ?_
          refine h_store 16 tok rfl rfl rfl rfl (by repeat' first | exact trivial | exact rfl | apply And.intro) (.inr ⟨(by repeat (first | exact SubO.nil | refine SubO.cons rfl ?_)), rfl, Vw.le.refl _⟩) ?_
          refine h_done [1, 2, 3] (by kernel_rfl) rfl ?_
          refine k_swap 3 5 rfl ?_
          refine k_swap 5 6 rfl ?_
          exact x_meet () trivial (by repeat (first | exact SubF.nil | refine SubF.cons rfl ?_)) (by repeat (first | exact SubO.nil | refine SubO.cons rfl ?_)) rfl (Vw.le.refl _)
         ·
          refine h_new 15 tok rfl rfl rfl rfl rfl rfl ?_
          refine h_one 14 (by kernel_rfl) ?_
          refine h_yield 14 rfl rfl rfl rfl (y_val tok rfl) ?_
          refine h_one 16 (by kernel_rfl) ?_
          refine h_store 16 tok rfl rfl rfl rfl (by repeat' first | exact trivial | exact rfl | apply And.intro) (.inr ⟨(by repeat (first | exact SubO.nil | refine SubO.cons rfl ?_)), rfl, Vw.le.refl _⟩) ?_
          refine h_done [1, 2, 3] (by kernel_rfl) rfl ?_
          refine k_swap 3 5 rfl ?_
          refine k_swap 5 6 rfl ?_
          exact x_meet () trivial (by repeat (first | exact SubF.nil | refine SubF.cons rfl ?_)) (by repeat (first | exact SubO.nil | refine SubO.cons rfl ?_)) rfl (Vw.le.refl _)
        ·
         refine h_new 15 tok rfl rfl rfl rfl rfl rfl ?_
         refine h_one 13 (by kernel_rfl) ?_
         refine h_to 13 rfl rfl rfl rfl rfl rfl (s_app (e := 3) (sz := 1) (by_ := 8) (m := 0) (k := 0) (olds := []) tok ([] : List Value) rfl (fun E w1 hm => hF.sl.src hm.get) (fun _ _ _ => by simp) (by omega)) (.inr fun _ _ => ⟨(by repeat (first | exact SubO.nil | refine SubO.cons rfl ?_)), rfl, Vw.le.refl _⟩) (fun _ _ => ?_)
         refine h_one 14 (by kernel_rfl) ?_
         refine h_yield 14 rfl rfl rfl rfl (y_val tok rfl) ?_
         refine h_one 16 (by kernel_rfl) ?_
         refine h_store 16 tok rfl rfl rfl rfl (by repeat' first | exact trivial | exact rfl | apply And.intro) (.inr ⟨(by repeat (first | exact SubO.nil | refine SubO.cons rfl ?_)), rfl, Vw.le.refl _⟩) ?_
         refine h_done [1, 2, 3] (by kernel_rfl) rfl ?_
         refine k_swap 3 5 rfl ?_
         refine k_swap 5 6 rfl ?_
         refine k_swap 7 8 rfl ?_
         exact x_meet () trivial (by repeat (first | exact SubF.nil | refine SubF.cons rfl ?_)) (by repeat (first | exact SubO.nil | refine SubO.cons rfl ?_)) rfl (Vw.le.refl _)
       ·
        refine h_new 15 tok rfl rfl rfl rfl rfl rfl ?_
        refine h_one 7 (by kernel_rfl) ?_
        refine h_to 7 rfl rfl rfl rfl rfl rfl (s_app (e := 3) (sz := 1) (by_ := 8) (m := 0) (k := K.length) (olds := []) tok (K.flatMap encI64) rfl (fun E w1 hm => hK.sl.src hm.get) (fun _ _ _ => int_ones K) (by omega)) (.inr fun _ _ => ⟨(by repeat (first | exact SubO.nil | refine SubO.cons rfl ?_)), rfl, Vw.le.refl _⟩) (fun _ _ => ?_)
        refine h_one 13 (by kernel_rfl) ?_
        refine h_to 13 rfl rfl rfl rfl rfl rfl (s_app (e := 3) (sz := 1) (by_ := 8) (m := 0) (k := 0) (olds := []) tok ([] : List Value) rfl (fun E w1 hm => hF.sl.src hm.get) (fun _ _ _ => by simp) (by omega)) (.inr fun _ _ => ⟨(by repeat (first | exact SubO.nil | refine SubO.cons rfl ?_)), rfl, Vw.le.refl _⟩) (fun _ _ => ?_)
        refine h_one 14 (by kernel_rfl) ?_
        refine h_yield 14 rfl rfl rfl rfl (y_val tok rfl) ?_
        refine h_one 16 (by kernel_rfl) ?_
        refine h_store 16 tok rfl rfl rfl rfl (by repeat' first | exact trivial | exact rfl | apply And.intro) (.inr ⟨(by repeat (first | exact SubO.nil | refine SubO.cons rfl ?_)), rfl, Vw.le.refl _⟩) ?_
        refine h_done [1, 2, 3] (by kernel_rfl) rfl ?_
        refine k_swap 3 5 rfl ?_
        refine k_swap 5 7 rfl ?_
        refine k_swap 6 7 rfl ?_
        refine k_swap 7 8 rfl ?_
        exact x_meet () trivial (by repeat (first | exact SubF.nil | refine SubF.cons rfl ?_)) (by repeat (first | exact SubO.nil | refine SubO.cons rfl ?_)) rfl (Vw.le.refl _)
      ·
       refine h_new 15 tok rfl rfl rfl rfl rfl rfl ?_
       refine h_one 3 (by kernel_rfl) ?_
       refine h_to 3 rfl rfl rfl rfl rfl rfl (s_app (e := 9) (sz := 1) (by_ := 16) (m := 0) (k := S.length) (olds := []) tok (S.flatMap encS) rfl (fun E w1 hm => hS.sl.src hm.get) (fun _ _ _ => str_ones S) (by omega)) (.inr fun _ _ => ⟨(by repeat (first | exact SubO.nil | refine SubO.cons rfl ?_)), rfl, Vw.le.refl _⟩) (fun _ _ => ?_)
       refine h_one 7 (by kernel_rfl) ?_
       refine h_to 7 rfl rfl rfl rfl rfl rfl (s_app (e := 3) (sz := 1) (by_ := 8) (m := 0) (k := K.length) (olds := []) tok (K.flatMap encI64) rfl (fun E w1 hm => hK.sl.src hm.get) (fun _ _ _ => int_ones K) (by omega)) (.inr fun _ _ => ⟨(by repeat (first | exact SubO.nil | refine SubO.cons rfl ?_)), rfl, Vw.le.refl _⟩) (fun _ _ => ?_)
       refine h_one 13 (by kernel_rfl) ?_
       refine h_to 13 rfl rfl rfl rfl rfl rfl (s_app (e := 3) (sz := 1) (by_ := 8) (m := 0) (k := 0) (olds := []) tok ([] : List Value) rfl (fun E w1 hm => hF.sl.src hm.get) (fun _ _ _ => by simp) (by omega)) (.inr fun _ _ => ⟨(by repeat (first | exact SubO.nil | refine SubO.cons rfl ?_)), rfl, Vw.le.refl _⟩) (fun _ _ => ?_)
       refine h_one 14 (by kernel_rfl) ?_
       refine h_yield 14 rfl rfl rfl rfl (y_val tok rfl) ?_
       refine h_one 16 (by kernel_rfl) ?_
       refine h_store 16 tok rfl rfl rfl rfl (by repeat' first | exact trivial | exact rfl | apply And.intro) (.inr ⟨(by repeat (first | exact SubO.nil | refine SubO.cons rfl ?_)), rfl, Vw.le.refl _⟩) ?_
       refine h_done [1, 2, 3] (by kernel_rfl) rfl ?_
       refine k_swap 3 6 rfl ?_
       refine k_swap 5 7 rfl ?_
       refine k_swap 7 8 rfl ?_
       exact x_meet () trivial (by repeat (first | exact SubF.nil | refine SubF.cons rfl ?_)) (by repeat (first | exact SubO.nil | refine SubO.cons rfl ?_)) rfl (Vw.le.refl _)
     ·
      refine h_new 15 tok rfl rfl rfl rfl rfl rfl ?_
      refine h_two 3 4 (by kernel_rfl) ?_ ?_
      ·
       refine h_to 3 rfl rfl rfl rfl rfl rfl (s_app (e := 9) (sz := 1) (by_ := 16) (m := 0) (k := S.length) (olds := []) tok (S.flatMap encS) rfl (fun E w1 hm => hS.sl.src hm.get) (fun _ _ _ => str_ones S) (by omega)) (.inr fun _ _ => ⟨(by repeat (first | exact SubO.nil | refine SubO.cons rfl ?_)), rfl, Vw.le.refl _⟩) (fun _ _ => ?_)
       refine h_one 4 (by kernel_rfl) ?_
       refine h_to 4 rfl rfl rfl rfl rfl rfl (s_bs tok 1 rfl rfl rfl) (.inr fun _ _ => ⟨(by repeat (first | exact SubO.nil | refine SubO.cons rfl ?_)), rfl, Vw.le.refl _⟩) (fun _ _ => ?_)
       refine h_one 7 (by kernel_rfl) ?_
       refine h_to 7 rfl rfl rfl rfl rfl rfl (s_app (e := 3) (sz := 1) (by_ := 8) (m := 0) (k := K.length) (olds := []) tok (K.flatMap encI64) rfl (fun E w1 hm => hK.sl.src hm.get) (fun _ _ _ => int_ones K) (by omega)) (.inr fun _ _ => ⟨(by repeat (first | exact SubO.nil | refine SubO.cons rfl ?_)), rfl, Vw.le.refl _⟩) (fun _ _ => ?_)
       refine h_one 13 (by kernel_rfl) ?_
       refine h_to 13 rfl rfl rfl rfl rfl rfl (s_app (e := 3) (sz := 1) (by_ := 8) (m := 0) (k := 0) (olds := []) tok ([] : List Value) rfl (fun E w1 hm => hF.sl.src hm.get) (fun _ _ _ => by simp) (by omega)) (.inr fun _ _ => ⟨(by repeat (first | exact SubO.nil | refine SubO.cons rfl ?_)), rfl, Vw.le.refl _⟩) (fun _ _ => ?_)
       refine h_one 14 (by kernel_rfl) ?_
       refine h_yield 14 rfl rfl rfl rfl (y_val tok rfl) ?_
       refine h_one 16 (by kernel_rfl) ?_
       refine h_store 16 tok rfl rfl rfl rfl (by repeat' first | exact trivial | exact rfl | apply And.intro) (.inr ⟨(by repeat (first | exact SubO.nil | refine SubO.cons rfl ?_)), rfl, Vw.le.refl _⟩) ?_
       refine h_done [1, 2, 3] (by kernel_rfl) rfl ?_
       refine k_swap 3 5 rfl ?_
       refine k_swap 4 6 rfl ?_
       refine k_swap 5 7 rfl ?_
       refine k_swap 6 7 rfl ?_
       refine k_swap 7 8 rfl ?_
       exact x_meet () trivial (by repeat (first | exact SubF.nil | refine SubF.cons rfl ?_)) (by repeat (first | exact SubO.nil | refine SubO.cons rfl ?_)) rfl (Vw.le.refl _)
      ·
       refine h_to 4 rfl rfl rfl rfl rfl rfl (s_bs tok 1 rfl rfl rfl) (.inr fun _ _ => ⟨(by repeat (first | exact SubO.nil | refine SubO.cons rfl ?_)), rfl, Vw.le.refl _⟩) (fun _ _ => ?_)
       refine h_one 3 (by kernel_rfl) ?_
       refine h_to 3 rfl rfl rfl rfl rfl rfl (s_app (e := 9) (sz := 1) (by_ := 16) (m := 0) (k := S.length) (olds := []) tok (S.flatMap encS) rfl (fun E w1 hm => hS.sl.src hm.get) (fun _ _ _ => str_ones S) (by omega)) (.inr fun _ _ => ⟨(by repeat (first | exact SubO.nil | refine SubO.cons rfl ?_)), rfl, Vw.le.refl _⟩) (fun _ _ => ?_)
       refine h_one 7 (by kernel_rfl) ?_
       refine h_to 7 rfl rfl rfl rfl rfl rfl (s_app (e := 3) (sz := 1) (by_ := 8) (m := 0) (k := K.length) (olds := []) tok (K.flatMap encI64) rfl (fun E w1 hm => hK.sl.src hm.get) (fun _ _ _ => int_ones K) (by omega)) (.inr fun _ _ => ⟨(by repeat (first | exact SubO.nil | refine SubO.cons rfl ?_)), rfl, Vw.le.refl _⟩) (fun _ _ => ?_)
       refine h_one 13 (by kernel_rfl) ?_
       refine h_to 13 rfl rfl rfl rfl rfl rfl (s_app (e := 3) (sz := 1) (by_ := 8) (m := 0) (k := 0) (olds := []) tok ([] : List Value) rfl (fun E w1 hm => hF.sl.src hm.get) (fun _ _ _ => by simp) (by omega)) (.inr fun _ _ => ⟨(by repeat (first | exact SubO.nil | refine SubO.cons rfl ?_)), rfl, Vw.le.refl _⟩) (fun _ _ => ?_)
       refine h_one 14 (by kernel_rfl) ?_
       refine h_yield 14 rfl rfl rfl rfl (y_val tok rfl) ?_
       refine h_one 16 (by kernel_rfl) ?_
       refine h_store 16 tok rfl rfl rfl rfl (by repeat' first | exact trivial | exact rfl | apply And.intro) (.inr ⟨(by repeat (first | exact SubO.nil | refine SubO.cons rfl ?_)), rfl, Vw.le.refl _⟩) ?_
       refine h_done [1, 2, 3] (by kernel_rfl) rfl ?_
       refine k_swap 3 6 rfl ?_
       refine k_swap 4 5 rfl ?_
       refine k_swap 5 7 rfl ?_
       refine k_swap 7 8 rfl ?_
       exact x_meet () trivial (by repeat (first | exact SubF.nil | refine SubF.cons rfl ?_)) (by repeat (first | exact SubO.nil | refine SubO.cons rfl ?_)) rfl (Vw.le.refl _)
    ·
     refine h_new 15 tok rfl rfl rfl rfl rfl rfl ?_
     refine h_three 3 4 10 (by kernel_rfl) ?_ ?_ ?_
     ·
      refine h_to 3 rfl rfl rfl rfl rfl rfl (s_app (e := 9) (sz := 1) (by_ := 16) (m := 0) (k := S.length) (olds := []) tok (S.flatMap encS) rfl (fun E w1 hm => hS.sl.src hm.get) (fun _ _ _ => str_ones S) (by omega)) (.inr fun _ _ => ⟨(by repeat (first | exact SubO.nil | refine SubO.cons rfl ?_)), rfl, Vw.le.refl _⟩) (fun _ _ => ?_)
      refine h_two 4 10 (by kernel_rfl) ?_ ?_
      ·
       refine h_to 4 rfl rfl rfl rfl rfl rfl (s_bs tok 1 rfl rfl rfl) (.inr fun _ _ => ⟨(by repeat (first | exact SubO.nil | refine SubO.cons rfl ?_)), rfl, Vw.le.refl _⟩) (fun _ _ => ?_)
       refine h_two 7 10 (by kernel_rfl) ?_ ?_
       ·
        refine h_to 7 rfl rfl rfl rfl rfl rfl (s_app (e := 3) (sz := 1) (by_ := 8) (m := 0) (k := K.length) (olds := []) tok (K.flatMap encI64) rfl (fun E w1 hm => hK.sl.src hm.get) (fun _ _ _ => int_ones K) (by omega)) (.inr fun _ _ => ⟨(by repeat (first | exact SubO.nil | refine SubO.cons rfl ?_)), rfl, Vw.le.refl _⟩) (fun _ _ => ?_)
        refine h_one 10 (by kernel_rfl) ?_
        refine h_to 10 rfl rfl rfl rfl rfl rfl (s_bs tok 1 rfl rfl rfl) (.inr fun _ _ => ⟨(by repeat (first | exact SubO.nil | refine SubO.cons rfl ?_)), rfl, Vw.le.refl _⟩) (fun _ _ => ?_)
        refine h_one 13 (by kernel_rfl) ?_
        refine h_to 13 rfl rfl rfl rfl rfl rfl (s_app (e := 3) (sz := 1) (by_ := 8) (m := 0) (k := 0) (olds := []) tok ([] : List Value) rfl (fun E w1 hm => hF.sl.src hm.get) (fun _ _ _ => by simp) (by omega)) (.inr fun _ _ => ⟨(by repeat (first | exact SubO.nil | refine SubO.cons rfl ?_)), rfl, Vw.le.refl _⟩) (fun _ _ => ?_)
        refine h_one 14 (by kernel_rfl) ?_
        refine h_yield 14 rfl rfl rfl rfl (y_val tok rfl) ?_
        refine h_one 16 (by kernel_rfl) ?_
        refine h_store 16 tok rfl rfl rfl rfl (by repeat' first | exact trivial | exact rfl | apply And.intro) (.inr ⟨(by repeat (first | exact SubO.nil | refine SubO.cons rfl ?_)), rfl, Vw.le.refl _⟩) ?_
        refine h_done [1, 2, 3] (by kernel_rfl) rfl ?_
        refine k_swap 3 4 rfl ?_
        refine k_swap 4 5 rfl ?_
        refine k_swap 5 6 rfl ?_
        refine k_swap 6 7 rfl ?_
        refine k_swap 7 8 rfl ?_
        exact x_meet () trivial (by repeat (first | exact SubF.nil | refine SubF.cons rfl ?_)) (by repeat (first | exact SubO.nil | refine SubO.cons rfl ?_)) rfl (Vw.le.refl _)
       ·
        refine h_to 10 rfl rfl rfl rfl rfl rfl (s_bs tok 1 rfl rfl rfl) (.inr fun _ _ => ⟨(by repeat (first | exact SubO.nil | refine SubO.cons rfl ?_)), rfl, Vw.le.refl _⟩) (fun _ _ => ?_)
        refine h_one 7 (by kernel_rfl) ?_
        refine h_to 7 rfl rfl rfl rfl rfl rfl (s_app (e := 3) (sz := 1) (by_ := 8) (m := 0) (k := K.length) (olds := []) tok (K.flatMap encI64) rfl (fun E w1 hm => hK.sl.src hm.get) (fun _ _ _ => int_ones K) (by omega)) (.inr fun _ _ => ⟨(by repeat (first | exact SubO.nil | refine SubO.cons rfl ?_)), rfl, Vw.le.refl _⟩) (fun _ _ => ?_)
        refine h_one 13 (by kernel_rfl) ?_
        refine h_to 13 rfl rfl rfl rfl rfl rfl (s_app (e := 3) (sz := 1) (by_ := 8) (m := 0) (k := 0) (olds := []) tok ([] : List Value) rfl (fun E w1 hm => hF.sl.src hm.get) (fun _ _ _ => by simp) (by omega)) (.inr fun _ _ => ⟨(by repeat (first | exact SubO.nil | refine SubO.cons rfl ?_)), rfl, Vw.le.refl _⟩) (fun _ _ => ?_)
        refine h_one 14 (by kernel_rfl) ?_
        refine h_yield 14 rfl rfl rfl rfl (y_val tok rfl) ?_
        refine h_one 16 (by kernel_rfl) ?_
        refine h_store 16 tok rfl rfl rfl rfl (by repeat' first | exact trivial | exact rfl | apply And.intro) (.inr ⟨(by repeat (first | exact SubO.nil | refine SubO.cons rfl ?_)), rfl, Vw.le.refl _⟩) ?_
        refine h_done [1, 2, 3] (by kernel_rfl) rfl ?_
        refine k_swap 3 4 rfl ?_
        refine k_swap 4 5 rfl ?_
        refine k_swap 5 7 rfl ?_
        refine k_swap 7 8 rfl ?_
        exact x_meet () trivial (by repeat (first | exact SubF.nil | refine SubF.cons rfl ?_)) (by repeat (first | exact SubO.nil | refine SubO.cons rfl ?_)) rfl (Vw.le.refl _)
      ·
       refine h_to 10 rfl rfl rfl rfl rfl rfl (s_bs tok 1 rfl rfl rfl) (.inr fun _ _ => ⟨(by repeat (first | exact SubO.nil | refine SubO.cons rfl ?_)), rfl, Vw.le.refl _⟩) (fun _ _ => ?_)
       refine h_one 4 (by kernel_rfl) ?_
       refine h_to 4 rfl rfl rfl rfl rfl rfl (s_bs tok 1 rfl rfl rfl) (.inr fun _ _ => ⟨(by repeat (first | exact SubO.nil | refine SubO.cons rfl ?_)), rfl, Vw.le.refl _⟩) (fun _ _ => ?_)
       refine h_one 7 (by kernel_rfl) ?_
       refine h_to 7 rfl rfl rfl rfl rfl rfl (s_app (e := 3) (sz := 1) (by_ := 8) (m := 0) (k := K.length) (olds := []) tok (K.flatMap encI64) rfl (fun E w1 hm => hK.sl.src hm.get) (fun _ _ _ => int_ones K) (by omega)) (.inr fun _ _ => ⟨(by repeat (first | exact SubO.nil | refine SubO.cons rfl ?_)), rfl, Vw.le.refl _⟩) (fun _ _ => ?_)
       refine h_one 13 (by kernel_rfl) ?_
       refine h_to 13 rfl rfl rfl rfl rfl rfl (s_app (e := 3) (sz := 1) (by_ := 8) (m := 0) (k := 0) (olds := []) tok ([] : List Value) rfl (fun E w1 hm => hF.sl.src hm.get) (fun _ _ _ => by simp) (by omega)) (.inr fun _ _ => ⟨(by repeat (first | exact SubO.nil | refine SubO.cons rfl ?_)), rfl, Vw.le.refl _⟩) (fun _ _ => ?_)
       refine h_one 14 (by kernel_rfl) ?_
       refine h_yield 14 rfl rfl rfl rfl (y_val tok rfl) ?_
       refine h_one 16 (by kernel_rfl) ?_
       refine h_store 16 tok rfl rfl rfl rfl (by repeat' first | exact trivial | exact rfl | apply And.intro) (.inr ⟨(by repeat (first | exact SubO.nil | refine SubO.cons rfl ?_)), rfl, Vw.le.refl _⟩) ?_
       refine h_done [1, 2, 3] (by kernel_rfl) rfl ?_
       refine k_swap 3 4 rfl ?_
       refine k_swap 4 6 rfl ?_
       refine k_swap 5 7 rfl ?_
       refine k_swap 6 7 rfl ?_
       refine k_swap 7 8 rfl ?_
       exact x_meet () trivial (by repeat (first | exact SubF.nil | refine SubF.cons rfl ?_)) (by repeat (first | exact SubO.nil | refine SubO.cons rfl ?_)) rfl (Vw.le.refl _)
     ·
      refine h_to 4 rfl rfl rfl rfl rfl rfl (s_bs tok 1 rfl rfl rfl) (.inr fun _ _ => ⟨(by repeat (first | exact SubO.nil | refine SubO.cons rfl ?_)), rfl, Vw.le.refl _⟩) (fun _ _ => ?_)
      refine h_two 3 10 (by kernel_rfl) ?_ ?_
      ·
       refine h_to 3 rfl rfl rfl rfl rfl rfl (s_app (e := 9) (sz := 1) (by_ := 16) (m := 0) (k := S.length) (olds := []) tok (S.flatMap encS) rfl (fun E w1 hm => hS.sl.src hm.get) (fun _ _ _ => str_ones S) (by omega)) (.inr fun _ _ => ⟨(by repeat (first | exact SubO.nil | refine SubO.cons rfl ?_)), rfl, Vw.le.refl _⟩) (fun _ _ => ?_)
       refine h_two 7 10 (by kernel_rfl) ?_ ?_
       ·
        refine h_to 7 rfl rfl rfl rfl rfl rfl (s_app (e := 3) (sz := 1) (by_ := 8) (m := 0) (k := K.length) (olds := []) tok (K.flatMap encI64) rfl (fun E w1 hm => hK.sl.src hm.get) (fun _ _ _ => int_ones K) (by omega)) (.inr fun _ _ => ⟨(by repeat (first | exact SubO.nil | refine SubO.cons rfl ?_)), rfl, Vw.le.refl _⟩) (fun _ _ => ?_)
        refine h_one 10 (by kernel_rfl) ?_
        refine h_to 10 rfl rfl rfl rfl rfl rfl (s_bs tok 1 rfl rfl rfl) (.inr fun _ _ => ⟨(by repeat (first | exact SubO.nil | refine SubO.cons rfl ?_)), rfl, Vw.le.refl _⟩) (fun _ _ => ?_)
        refine h_one 13 (by kernel_rfl) ?_
        refine h_to 13 rfl rfl rfl rfl rfl rfl (s_app (e := 3) (sz := 1) (by_ := 8) (m := 0) (k := 0) (olds := []) tok ([] : List Value) rfl (fun E w1 hm => hF.sl.src hm.get) (fun _ _ _ => by simp) (by omega)) (.inr fun _ _ => ⟨(by repeat (first | exact SubO.nil | refine SubO.cons rfl ?_)), rfl, Vw.le.refl _⟩) (fun _ _ => ?_)
        refine h_one 14 (by kernel_rfl) ?_
        refine h_yield 14 rfl rfl rfl rfl (y_val tok rfl) ?_
        refine h_one 16 (by kernel_rfl) ?_
        refine h_store 16 tok rfl rfl rfl rfl (by repeat' first | exact trivial | exact rfl | apply And.intro) (.inr ⟨(by repeat (first | exact SubO.nil | refine SubO.cons rfl ?_)), rfl, Vw.le.refl _⟩) ?_
        refine h_done [1, 2, 3] (by kernel_rfl) rfl ?_
        refine k_swap 3 5 rfl ?_
        refine k_swap 5 6 rfl ?_
        refine k_swap 6 7 rfl ?_
        refine k_swap 7 8 rfl ?_
        exact x_meet () trivial (by repeat (first | exact SubF.nil | refine SubF.cons rfl ?_)) (by repeat (first | exact SubO.nil | refine SubO.cons rfl ?_)) rfl (Vw.le.refl _)
       ·
        refine h_to 10 rfl rfl rfl rfl rfl rfl (s_bs tok 1 rfl rfl rfl) (.inr fun _ _ => ⟨(by repeat (first | exact SubO.nil | refine SubO.cons rfl ?_)), rfl, Vw.le.refl _⟩) (fun _ _ => ?_)
        refine h_one 7 (by kernel_rfl) ?_
        refine h_to 7 rfl rfl rfl rfl rfl rfl (s_app (e := 3) (sz := 1) (by_ := 8) (m := 0) (k := K.length) (olds := []) tok (K.flatMap encI64) rfl (fun E w1 hm => hK.sl.src hm.get) (fun _ _ _ => int_ones K) (by omega)) (.inr fun _ _ => ⟨(by repeat (first | exact SubO.nil | refine SubO.cons rfl ?_)), rfl, Vw.le.refl _⟩) (fun _ _ => ?_)
        refine h_one 13 (by kernel_rfl) ?_
        refine h_to 13 rfl rfl rfl rfl rfl rfl (s_app (e := 3) (sz := 1) (by_ := 8) (m := 0) (k := 0) (olds := []) tok ([] : List Value) rfl (fun E w1 hm => hF.sl.src hm.get) (fun _ _ _ => by simp) (by omega)) (.inr fun _ _ => ⟨(by repeat (first | exact SubO.nil | refine SubO.cons rfl ?_)), rfl, Vw.le.refl _⟩) (fun _ _ => ?_)
        refine h_one 14 (by kernel_rfl) ?_
        refine h_yield 14 rfl rfl rfl rfl (y_val tok rfl) ?_
        refine h_one 16 (by kernel_rfl) ?_
        refine h_store 16 tok rfl rfl rfl rfl (by repeat' first | exact trivial | exact rfl | apply And.intro) (.inr ⟨(by repeat (first | exact SubO.nil | refine SubO.cons rfl ?_)), rfl, Vw.le.refl _⟩) ?_
        refine h_done [1, 2, 3] (by kernel_rfl) rfl ?_
        refine k_swap 3 5 rfl ?_
        refine k_swap 5 7 rfl ?_
        refine k_swap 7 8 rfl ?_
        exact x_meet () trivial (by repeat (first | exact SubF.nil | refine SubF.cons rfl ?_)) (by repeat (first | exact SubO.nil | refine SubO.cons rfl ?_)) rfl (Vw.le.refl _)
      ·
       refine h_to 10 rfl rfl rfl rfl rfl rfl (s_bs tok 1 rfl rfl rfl) (.inr fun _ _ => ⟨(by repeat (first | exact SubO.nil | refine SubO.cons rfl ?_)), rfl, Vw.le.refl _⟩) (fun _ _ => ?_)
       refine h_one 3 (by kernel_rfl) ?_
       refine h_to 3 rfl rfl rfl rfl rfl rfl (s_app (e := 9) (sz := 1) (by_ := 16) (m := 0) (k := S.length) (olds := []) tok (S.flatMap encS) rfl (fun E w1 hm => hS.sl.src hm.get) (fun _ _ _ => str_ones S) (by omega)) (.inr fun _ _ => ⟨(by repeat (first | exact SubO.nil | refine SubO.cons rfl ?_)), rfl, Vw.le.refl _⟩) (fun _ _ => ?_)
       refine h_one 7 (by kernel_rfl) ?_
       refine h_to 7 rfl rfl rfl rfl rfl rfl (s_app (e := 3) (sz := 1) (by_ := 8) (m := 0) (k := K.length) (olds := []) tok (K.flatMap encI64) rfl (fun E w1 hm => hK.sl.src hm.get) (fun _ _ _ => int_ones K) (by omega)) (.inr fun _ _ => ⟨(by repeat (first | exact SubO.nil | refine SubO.cons rfl ?_)), rfl, Vw.le.refl _⟩) (fun _ _ => ?_)
       refine h_one 13 (by kernel_rfl) ?_
       refine h_to 13 rfl rfl rfl rfl rfl rfl (s_app (e := 3) (sz := 1) (by_ := 8) (m := 0) (k := 0) (olds := []) tok ([] : List Value) rfl (fun E w1 hm => hF.sl.src hm.get) (fun _ _ _ => by simp) (by omega)) (.inr fun _ _ => ⟨(by repeat (first | exact SubO.nil | refine SubO.cons rfl ?_)), rfl, Vw.le.refl _⟩) (fun _ _ => ?_)
       refine h_one 14 (by kernel_rfl) ?_
       refine h_yield 14 rfl rfl rfl rfl (y_val tok rfl) ?_
       refine h_one 16 (by kernel_rfl) ?_
       refine h_store 16 tok rfl rfl rfl rfl (by repeat' first | exact trivial | exact rfl | apply And.intro) (.inr ⟨(by repeat (first | exact SubO.nil | refine SubO.cons rfl ?_)), rfl, Vw.le.refl _⟩) ?_
       refine h_done [1, 2, 3] (by kernel_rfl) rfl ?_
       refine k_swap 3 6 rfl ?_
       refine k_swap 5 7 rfl ?_
       refine k_swap 6 7 rfl ?_
       refine k_swap 7 8 rfl ?_
       exact x_meet () trivial (by repeat (first | exact SubF.nil | refine SubF.cons rfl ?_)) (by repeat (first | exact SubO.nil | refine SubO.cons rfl ?_)) rfl (Vw.le.refl _)
     ·
      refine h_to 10 rfl rfl rfl rfl rfl rfl (s_bs tok 1 rfl rfl rfl) (.inr fun _ _ => ⟨(by repeat (first | exact SubO.nil | refine SubO.cons rfl ?_)), rfl, Vw.le.refl _⟩) (fun _ _ => ?_)
      refine h_two 3 4 (by kernel_rfl) ?_ ?_
      ·
       refine h_to 3 rfl rfl rfl rfl rfl rfl (s_app (e := 9) (sz := 1) (by_ := 16) (m := 0) (k := S.length) (olds := []) tok (S.flatMap encS) rfl (fun E w1 hm => hS.sl.src hm.get) (fun _ _ _ => str_ones S) (by omega)) (.inr fun _ _ => ⟨(by repeat (first | exact SubO.nil | refine SubO.cons rfl ?_)), rfl, Vw.le.refl _⟩) (fun _ _ => ?_)
       refine h_one 4 (by kernel_rfl) ?_
       refine h_to 4 rfl rfl rfl rfl rfl rfl (s_bs tok 1 rfl rfl rfl) (.inr fun _ _ => ⟨(by repeat (first | exact SubO.nil | refine SubO.cons rfl ?_)), rfl, Vw.le.refl _⟩) (fun _ _ => ?_)
       refine h_one 7 (by kernel_rfl) ?_
       refine h_to 7 rfl rfl rfl rfl rfl rfl (s_app (e := 3) (sz := 1) (by_ := 8) (m := 0) (k := K.length) (olds := []) tok (K.flatMap encI64) rfl (fun E w1 hm => hK.sl.src hm.get) (fun _ _ _ => int_ones K) (by omega)) (.inr fun _ _ => ⟨(by repeat (first | exact SubO.nil | refine SubO.cons rfl ?_)), rfl, Vw.le.refl _⟩) (fun _ _ => ?_)
       refine h_one 13 (by kernel_rfl) ?_
       refine h_to 13 rfl rfl rfl rfl rfl rfl (s_app (e := 3) (sz := 1) (by_ := 8) (m := 0) (k := 0) (olds := []) tok ([] : List Value) rfl (fun E w1 hm => hF.sl.src hm.get) (fun _ _ _ => by simp) (by omega)) (.inr fun _ _ => ⟨(by repeat (first | exact SubO.nil | refine SubO.cons rfl ?_)), rfl, Vw.le.refl _⟩) (fun _ _ => ?_)
       refine h_one 14 (by kernel_rfl) ?_
       refine h_yield 14 rfl rfl rfl rfl (y_val tok rfl) ?_
       refine h_one 16 (by kernel_rfl) ?_
       refine h_store 16 tok rfl rfl rfl rfl (by repeat' first | exact trivial | exact rfl | apply And.intro) (.inr ⟨(by repeat (first | exact SubO.nil | refine SubO.cons rfl ?_)), rfl, Vw.le.refl _⟩) ?_
       refine h_done [1, 2, 3] (by kernel_rfl) rfl ?_
       refine k_swap 3 5 rfl ?_
       refine k_swap 4 6 rfl ?_
       refine k_swap 5 7 rfl ?_
       refine k_swap 7 8 rfl ?_
       exact x_meet () trivial (by repeat (first | exact SubF.nil | refine SubF.cons rfl ?_)) (by repeat (first | exact SubO.nil | refine SubO.cons rfl ?_)) rfl (Vw.le.refl _)
      ·
       refine h_to 4 rfl rfl rfl rfl rfl rfl (s_bs tok 1 rfl rfl rfl) (.inr fun _ _ => ⟨(by repeat (first | exact SubO.nil | refine SubO.cons rfl ?_)), rfl, Vw.le.refl _⟩) (fun _ _ => ?_)
       refine h_one 3 (by kernel_rfl) ?_
       refine h_to 3 rfl rfl rfl rfl rfl rfl (s_app (e := 9) (sz := 1) (by_ := 16) (m := 0) (k := S.length) (olds := []) tok (S.flatMap encS) rfl (fun E w1 hm => hS.sl.src hm.get) (fun _ _ _ => str_ones S) (by omega)) (.inr fun _ _ => ⟨(by repeat (first | exact SubO.nil | refine SubO.cons rfl ?_)), rfl, Vw.le.refl _⟩) (fun _ _ => ?_)
       refine h_one 7 (by kernel_rfl) ?_
       refine h_to 7 rfl rfl rfl rfl rfl rfl (s_app (e := 3) (sz := 1) (by_ := 8) (m := 0) (k := K.length) (olds := []) tok (K.flatMap encI64) rfl (fun E w1 hm => hK.sl.src hm.get) (fun _ _ _ => int_ones K) (by omega)) (.inr fun _ _ => ⟨(by repeat (first | exact SubO.nil | refine SubO.cons rfl ?_)), rfl, Vw.le.refl _⟩) (fun _ _ => ?_)
       refine h_one 13 (by kernel_rfl) ?_
       refine h_to 13 rfl rfl rfl rfl rfl rfl (s_app (e := 3) (sz := 1) (by_ := 8) (m := 0) (k := 0) (olds := []) tok ([] : List Value) rfl (fun E w1 hm => hF.sl.src hm.get) (fun _ _ _ => by simp) (by omega)) (.inr fun _ _ => ⟨(by repeat (first | exact SubO.nil | refine SubO.cons rfl ?_)), rfl, Vw.le.refl _⟩) (fun _ _ => ?_)
       refine h_one 14 (by kernel_rfl) ?_
       refine h_yield 14 rfl rfl rfl rfl (y_val tok rfl) ?_
       refine h_one 16 (by kernel_rfl) ?_
       refine h_store 16 tok rfl rfl rfl rfl (by repeat' first | exact trivial | exact rfl | apply And.intro) (.inr ⟨(by repeat (first | exact SubO.nil | refine SubO.cons rfl ?_)), rfl, Vw.le.refl _⟩) ?_
       refine h_done [1, 2, 3] (by kernel_rfl) rfl ?_
       refine k_swap 3 6 rfl ?_
       refine k_swap 4 5 rfl ?_
       refine k_swap 5 7 rfl ?_
       refine k_swap 6 7 rfl ?_
       refine k_swap 7 8 rfl ?_
       exact x_meet () trivial (by repeat (first | exact SubF.nil | refine SubF.cons rfl ?_)) (by repeat (first | exact SubO.nil | refine SubO.cons rfl ?_)) rfl (Vw.le.refl _)
   ·
    refine h_to 4 rfl rfl rfl rfl rfl rfl (s_bs tok 1 rfl rfl rfl) (.inr fun _ _ => ⟨(by repeat (first | exact SubO.nil | refine SubO.cons rfl ?_)), rfl, Vw.le.refl _⟩) (fun _ _ => ?_)
    refine h_three 0 10 15 (by kernel_rfl) ?_ ?_ ?_
    ·
     refine h_to 0 rfl rfl rfl rfl rfl rfl (s_bs tok 1 rfl rfl rfl) (.inr fun _ _ => ⟨(by repeat (first | exact SubO.nil | refine SubO.cons rfl ?_)), rfl, Vw.le.refl _⟩) (fun _ _ => ?_)
     refine h_three 3 10 15 (by kernel_rfl) ?_ ?_ ?_
     ·
      refine h_to 3 rfl rfl rfl rfl rfl rfl (s_app (e := 9) (sz := 1) (by_ := 16) (m := 0) (k := S.length) (olds := []) tok (S.flatMap encS) rfl (fun E w1 hm => hS.sl.src hm.get) (fun _ _ _ => str_ones S) (by omega)) (.inr fun _ _ => ⟨(by repeat (first | exact SubO.nil | refine SubO.cons rfl ?_)), rfl, Vw.le.refl _⟩) (fun _ _ => ?_)
      refine h_three 7 10 15 (by kernel_rfl) ?_ ?_ ?_
      ·
       refine h_to 7 rfl rfl rfl rfl rfl rfl (s_app (e := 3) (sz := 1) (by_ := 8) (m := 0) (k := K.length) (olds := []) tok (K.flatMap encI64) rfl (fun E w1 hm => hK.sl.src hm.get) (fun _ _ _ => int_ones K) (by omega)) (.inr fun _ _ => ⟨(by repeat (first | exact SubO.nil | refine SubO.cons rfl ?_)), rfl, Vw.le.refl _⟩) (fun _ _ => ?_)
       refine h_two 10 15 (by kernel_rfl) ?_ ?_
       ·
        refine h_to 10 rfl rfl rfl rfl rfl rfl (s_bs tok 1 rfl rfl rfl) (.inr fun _ _ => ⟨(by repeat (first | exact SubO.nil | refine SubO.cons rfl ?_)), rfl, Vw.le.refl _⟩) (fun _ _ => ?_)
        refine h_two 13 15 (by kernel_rfl) ?_ ?_
        ·
         refine h_to 13 rfl rfl rfl rfl rfl rfl (s_app (e := 3) (sz := 1) (by_ := 8) (m := 0) (k := 0) (olds := []) tok ([] : List Value) rfl (fun E w1 hm => hF.sl.src hm.get) (fun _ _ _ => by simp) (by omega)) (.inr fun _ _ => ⟨(by repeat (first | exact SubO.nil | refine SubO.cons rfl ?_)), rfl, Vw.le.refl _⟩) (fun _ _ => ?_)
         refine h_two 14 15 (by kernel_rfl) ?_ ?_
         ·
          refine h_yield 14 rfl rfl rfl rfl (y_val tok rfl) ?_
          refine h_one 15 (by kernel_rfl) ?_
          refine h_new 15 tok rfl rfl rfl rfl rfl rfl ?_
          refine h_one 16 (by kernel_rfl) ?_
          refine h_store 16 tok rfl rfl rfl rfl (by repeat' first | exact trivial | exact rfl | apply And.intro) (.inr ⟨(by repeat (first | exact SubO.nil | refine SubO.cons rfl ?_)), rfl, Vw.le.refl _⟩) ?_
          refine h_done [1, 2, 3] (by kernel_rfl) rfl ?_
          refine k_swap 2 3 rfl ?_
          refine k_swap 3 4 rfl ?_
          exact x_meet () trivial (by repeat (first | exact SubF.nil | refine SubF.cons rfl ?_)) (by repeat (first | exact SubO.nil | refine SubO.cons rfl ?_)) rfl (Vw.le.refl _)
         ·
          refine h_new 15 tok rfl rfl rfl rfl rfl rfl ?_
          refine h_one 14 (by kernel_rfl) ?_
          refine h_yield 14 rfl rfl rfl rfl (y_val tok rfl) ?_
          refine h_one 16 (by kernel_rfl) ?_
          refine h_store 16 tok rfl rfl rfl rfl (by repeat' first | exact trivial | exact rfl | apply And.intro) (.inr ⟨(by repeat (first | exact SubO.nil | refine SubO.cons rfl ?_)), rfl, Vw.le.refl _⟩) ?_
          refine h_done [1, 2, 3] (by kernel_rfl) rfl ?_
          refine k_swap 2 3 rfl ?_
          refine k_swap 3 4 rfl ?_
          exact x_meet () trivial (by repeat (first | exact SubF.nil | refine SubF.cons rfl ?_)) (by repeat (first | exact SubO.nil | refine SubO.cons rfl ?_)) rfl (Vw.le.refl _)
        ·
         refine h_new 15 tok rfl rfl rfl rfl rfl rfl ?_
         refine h_one 13 (by kernel_rfl) ?_
         refine h_to 13 rfl rfl rfl rfl rfl rfl (s_app (e := 3) (sz := 1) (by_ := 8) (m := 0) (k := 0) (olds := []) tok ([] : List Value) rfl (fun E w1 hm => hF.sl.src hm.get) (fun _ _ _ => by simp) (by omega)) (.inr fun _ _ => ⟨(by repeat (first | exact SubO.nil | refine SubO.cons rfl ?_)), rfl, Vw.le.refl _⟩) (fun _ _ => ?_)
         refine h_one 14 (by kernel_rfl) ?_
         refine h_yield 14 rfl rfl rfl rfl (y_val tok rfl) ?_
         refine h_one 16 (by kernel_rfl) ?_
         refine h_store 16 tok rfl rfl rfl rfl (by repeat' first | exact trivial | exact rfl | apply And.intro) (.inr ⟨(by repeat (first | exact SubO.nil | refine SubO.cons rfl ?_)), rfl, Vw.le.refl _⟩) ?_
         refine h_done [1, 2, 3] (by kernel_rfl) rfl ?_
         refine k_swap 2 3 rfl ?_
         refine k_swap 3 4 rfl ?_
         refine k_swap 7 8 rfl ?_
         exact x_meet () trivial (by repeat (first | exact SubF.nil | refine SubF.cons rfl ?_)) (by repeat (first | exact SubO.nil | refine SubO.cons rfl ?_)) rfl (Vw.le.refl _)
       ·
        refine h_new 15 tok rfl rfl rfl rfl rfl rfl ?_
        refine h_one 10 (by kernel_rfl) ?_
        refine h_to 10 rfl rfl rfl rfl rfl rfl (s_bs tok 1 rfl rfl rfl) (.inr fun _ _ => ⟨(by repeat (first | exact SubO.nil | refine SubO.cons rfl ?_)), rfl, Vw.le.refl _⟩) (fun _ _ => ?_)
        refine h_one 13 (by kernel_rfl) ?_
        refine h_to 13 rfl rfl rfl rfl rfl rfl (s_app (e := 3) (sz := 1) (by_ := 8) (m := 0) (k := 0) (olds := []) tok ([] : List Value) rfl (fun E w1 hm => hF.sl.src hm.get) (fun _ _ _ => by simp) (by omega)) (.inr fun _ _ => ⟨(by repeat (first | exact SubO.nil | refine SubO.cons rfl ?_)), rfl, Vw.le.refl _⟩) (fun _ _ => ?_)
        refine h_one 14 (by kernel_rfl) ?_
        refine h_yield 14 rfl rfl rfl rfl (y_val tok rfl) ?_
        refine h_one 16 (by kernel_rfl) ?_
        refine h_store 16 tok rfl rfl rfl rfl (by repeat' first | exact trivial | exact rfl | apply And.intro) (.inr ⟨(by repeat (first | exact SubO.nil | refine SubO.cons rfl ?_)), rfl, Vw.le.refl _⟩) ?_
        refine h_done [1, 2, 3] (by kernel_rfl) rfl ?_
        refine k_swap 2 3 rfl ?_
        refine k_swap 3 4 rfl ?_
        refine k_swap 6 7 rfl ?_
        refine k_swap 7 8 rfl ?_
        exact x_meet () trivial (by repeat (first | exact SubF.nil | refine SubF.cons rfl ?_)) (by repeat (first | exact SubO.nil | refine SubO.cons rfl ?_)) rfl (Vw.le.refl _)
      ·
       refine h_to 10 rfl rfl rfl rfl rfl rfl (s_bs tok 1 rfl rfl rfl) (.inr fun _ _ => ⟨(by repeat (first | exact SubO.nil | refine SubO.cons rfl ?_)), rfl, Vw.le.refl _⟩) (fun _ _ => ?_)
       refine h_two 7 15 (by kernel_rfl) ?_ ?_
       ·
        refine h_to 7 rfl rfl rfl rfl rfl rfl (s_app (e := 3) (sz := 1) (by_ := 8) (m := 0) (k := K.length) (olds := []) tok (K.flatMap encI64) rfl (fun E w1 hm => hK.sl.src hm.get) (fun _ _ _ => int_ones K) (by omega)) (.inr fun _ _ => ⟨(by repeat (first | exact SubO.nil | refine SubO.cons rfl ?_)), rfl, Vw.le.refl _⟩) (fun _ _ => ?_)
        refine h_two 13 15 (by kernel_rfl) ?_ ?_
        ·
         refine h_to 13 rfl rfl rfl rfl rfl rfl (s_app (e := 3) (sz := 1) (by_ := 8) (m := 0) (k := 0) (olds := []) tok ([] : List Value) rfl (fun E w1 hm => hF.sl.src hm.get) (fun _ _ _ => by simp) (by omega)) (.inr fun _ _ => ⟨(by repeat (first | exact SubO.nil | refine SubO.cons rfl ?_)), rfl, Vw.le.refl _⟩) (fun _ _ => ?_)
         refine h_two 14 15 (by kernel_rfl) ?_ ?_
         ·
          refine h_yield 14 rfl rfl rfl rfl (y_val tok rfl) ?_
          refine h_one 15 (by kernel_rfl) ?_
          refine h_new 15 tok rfl rfl rfl rfl rfl rfl ?_
          refine h_one 16 (by kernel_rfl) ?_
          refine h_store 16 tok rfl rfl rfl rfl (by repeat' first | exact trivial | exact rfl | apply And.intro) (.inr ⟨(by repeat (first | exact SubO.nil | refine SubO.cons rfl ?_)), rfl, Vw.le.refl _⟩) ?_
          refine h_done [1, 2, 3] (by kernel_rfl) rfl ?_
          refine k_swap 2 3 rfl ?_
          refine k_swap 3 4 rfl ?_
          refine k_swap 5 6 rfl ?_
          exact x_meet () trivial (by repeat (first | exact SubF.nil | refine SubF.cons rfl ?_)) (by repeat (first | exact SubO.nil | refine SubO.cons rfl ?_)) rfl (Vw.le.refl _)
         ·
          refine h_new 15 tok rfl rfl rfl rfl rfl rfl ?_
          refine h_one 14 (by kernel_rfl) ?_
          refine h_yield 14 rfl rfl rfl rfl (y_val tok rfl) ?_
          refine h_one 16 (by kernel_rfl) ?_
          refine h_store 16 tok rfl rfl rfl rfl (by repeat' first | exact trivial | exact rfl | apply And.intro) (.inr ⟨(by repeat (first | exact SubO.nil | refine SubO.cons rfl ?_)), rfl, Vw.le.refl _⟩) ?_
          refine h_done [1, 2, 3] (by kernel_rfl) rfl ?_
          refine k_swap 2 3 rfl ?_
          refine k_swap 3 4 rfl ?_
          refine k_swap 5 6 rfl ?_
          exact x_meet () trivial (by repeat (first | exact SubF.nil | refine SubF.cons rfl ?_)) (by repeat (first | exact SubO.nil | refine SubO.cons rfl ?_)) rfl (Vw.le.refl _)
        ·
         refine h_new 15 tok rfl rfl rfl rfl rfl rfl ?_
         refine h_one 13 (by kernel_rfl) ?_
         refine h_to 13 rfl rfl rfl rfl rfl rfl (s_app (e := 3) (sz := 1) (by_ := 8) (m := 0) (k := 0) (olds := []) tok ([] : List Value) rfl (fun E w1 hm => hF.sl.src hm.get) (fun _ _ _ => by simp) (by omega)) (.inr fun _ _ => ⟨(by repeat (first | exact SubO.nil | refine SubO.cons rfl ?_)), rfl, Vw.le.refl _⟩) (fun _ _ => ?_)
         refine h_one 14 (by kernel_rfl) ?_
         refine h_yield 14 rfl rfl rfl rfl (y_val tok rfl) ?_
         refine h_one 16 (by kernel_rfl) ?_
         refine h_store 16 tok rfl rfl rfl rfl (by repeat' first | exact trivial | exact rfl | apply And.intro) (.inr ⟨(by repeat (first | exact SubO.nil | refine SubO.cons rfl ?_)), rfl, Vw.le.refl _⟩) ?_
         refine h_done [1, 2, 3] (by kernel_rfl) rfl ?_
         refine k_swap 2 3 rfl ?_
         refine k_swap 3 4 rfl ?_
         refine k_swap 5 6 rfl ?_
         refine k_swap 7 8 rfl ?_
         exact x_meet () trivial (by repeat (first | exact SubF.nil | refine SubF.cons rfl ?_)) (by repeat (first | exact SubO.nil | refine SubO.cons rfl ?_)) rfl (Vw.le.refl _)
       ·
        refine h_new 15 tok rfl rfl rfl rfl rfl rfl ?_
        refine h_one 7 (by kernel_rfl) ?_
        refine h_to 7 rfl rfl rfl rfl rfl rfl (s_app (e := 3) (sz := 1) (by_ := 8) (m := 0) (k := K.length) (olds := []) tok (K.flatMap encI64) rfl (fun E w1 hm => hK.sl.src hm.get) (fun _ _ _ => int_ones K) (by omega)) (.inr fun _ _ => ⟨(by repeat (first | exact SubO.nil | refine SubO.cons rfl ?_)), rfl, Vw.le.refl _⟩) (fun _ _ => ?_)
        refine h_one 13 (by kernel_rfl) ?_
        refine h_to 13 rfl rfl rfl rfl rfl rfl (s_app (e := 3) (sz := 1) (by_ := 8) (m := 0) (k := 0) (olds := []) tok ([] : List Value) rfl (fun E w1 hm => hF.sl.src hm.get) (fun _ _ _ => by simp) (by omega)) (.inr fun _ _ => ⟨(by repeat (first | exact SubO.nil | refine SubO.cons rfl ?_)), rfl, Vw.le.refl _⟩) (fun _ _ => ?_)
        refine h_one 14 (by kernel_rfl) ?_
        refine h_yield 14 rfl rfl rfl rfl (y_val tok rfl) ?_
        refine h_one 16 (by kernel_rfl) ?_
        refine h_store 16 tok rfl rfl rfl rfl (by repeat' first | exact trivial | exact rfl | apply And.intro) (.inr ⟨(by repeat (first | exact SubO.nil | refine SubO.cons rfl ?_)), rfl, Vw.le.refl _⟩) ?_
        refine h_done [1, 2, 3] (by kernel_rfl) rfl ?_
        refine k_swap 2 3 rfl ?_
        refine k_swap 3 4 rfl ?_
        refine k_swap 5 7 rfl ?_
        refine k_swap 6 7 rfl ?_
        refine k_swap 7 8 rfl ?_
        exact x_meet () trivial (by repeat (first | exact SubF.nil | refine SubF.cons rfl ?_)) (by repeat (first | exact SubO.nil | refine SubO.cons rfl ?_)) rfl (Vw.le.refl _)
      ·
       refine h_new 15 tok rfl rfl rfl rfl rfl rfl ?_
       refine h_two 7 10 (by kernel_rfl) ?_ ?_
       ·
        refine h_to 7 rfl rfl rfl rfl rfl rfl (s_app (e := 3) (sz := 1) (by_ := 8) (m := 0) (k := K.length) (olds := []) tok (K.flatMap encI64) rfl (fun E w1 hm => hK.sl.src hm.get) (fun _ _ _ => int_ones K) (by omega)) (.inr fun _ _ => ⟨(by repeat (first | exact SubO.nil | refine SubO.cons rfl ?_)), rfl, Vw.le.refl _⟩) (fun _ _ => ?_)
        refine h_one 10 (by kernel_rfl) ?_
        refine h_to 10 rfl rfl rfl rfl rfl rfl (s_bs tok 1 rfl rfl rfl) (.inr fun _ _ => ⟨(by repeat (first | exact SubO.nil | refine SubO.cons rfl ?_)), rfl, Vw.le.refl _⟩) (fun _ _ => ?_)
        refine h_one 13 (by kernel_rfl) ?_
        refine h_to 13 rfl rfl rfl rfl rfl rfl (s_app (e := 3) (sz := 1) (by_ := 8) (m := 0) (k := 0) (olds := []) tok ([] : List Value) rfl (fun E w1 hm => hF.sl.src hm.get) (fun _ _ _ => by simp) (by omega)) (.inr fun _ _ => ⟨(by repeat (first | exact SubO.nil | refine SubO.cons rfl ?_)), rfl, Vw.le.refl _⟩) (fun _ _ => ?_)
        refine h_one 14 (by kernel_rfl) ?_
        refine h_yield 14 rfl rfl rfl rfl (y_val tok rfl) ?_
        refine h_one 16 (by kernel_rfl) ?_
        refine h_store 16 tok rfl rfl rfl rfl (by repeat' first | exact trivial | exact rfl | apply And.intro) (.inr ⟨(by repeat (first | exact SubO.nil | refine SubO.cons rfl ?_)), rfl, Vw.le.refl _⟩) ?_
        refine h_done [1, 2, 3] (by kernel_rfl) rfl ?_
        refine k_swap 2 3 rfl ?_
        refine k_swap 3 4 rfl ?_
        refine k_swap 5 6 rfl ?_
        refine k_swap 6 7 rfl ?_
        refine k_swap 7 8 rfl ?_
        exact x_meet () trivial (by repeat (first | exact SubF.nil | refine SubF.cons rfl ?_)) (by repeat (first | exact SubO.nil | refine SubO.cons rfl ?_)) rfl (Vw.le.refl _)
       ·
        refine h_to 10 rfl rfl rfl rfl rfl rfl (s_bs tok 1 rfl rfl rfl) (.inr fun _ _ => ⟨(by repeat (first | exact SubO.nil | refine SubO.cons rfl ?_)), rfl, Vw.le.refl _⟩) (fun _ _ => ?_)
        refine h_one 7 (by kernel_rfl) ?_
        refine h_to 7 rfl rfl rfl rfl rfl rfl (s_app (e := 3) (sz := 1) (by_ := 8) (m := 0) (k := K.length) (olds := []) tok (K.flatMap encI64) rfl (fun E w1 hm => hK.sl.src hm.get) (fun _ _ _ => int_ones K) (by omega)) (.inr fun _ _ => ⟨(by repeat (first | exact SubO.nil | refine SubO.cons rfl ?_)), rfl, Vw.le.refl _⟩) (fun _ _ => ?_)
        refine h_one 13 (by kernel_rfl) ?_
        refine h_to 13 rfl rfl rfl rfl rfl rfl (s_app (e := 3) (sz := 1) (by_ := 8) (m := 0) (k := 0) (olds := []) tok ([] : List Value) rfl (fun E w1 hm => hF.sl.src hm.get) (fun _ _ _ => by simp) (by omega)) (.inr fun _ _ => ⟨(by repeat (first | exact SubO.nil | refine SubO.cons rfl ?_)), rfl, Vw.le.refl _⟩) (fun _ _ => ?_)
        refine h_one 14 (by kernel_rfl) ?_
        refine h_yield 14 rfl rfl rfl rfl (y_val tok rfl) ?_
        refine h_one 16 (by kernel_rfl) ?_
        refine h_store 16 tok rfl rfl rfl rfl (by repeat' first | exact trivial | exact rfl | apply And.intro) (.inr ⟨(by repeat (first | exact SubO.nil | refine SubO.cons rfl ?_)), rfl, Vw.le.refl _⟩) ?_
        refine h_done [1, 2, 3] (by kernel_rfl) rfl ?_
        refine k_swap 2 3 rfl ?_
        refine k_swap 3 4 rfl ?_
        refine k_swap 5 7 rfl ?_
        refine k_swap 7 8 rfl ?_
        exact x_meet () trivial (by repeat (first | exact SubF.nil | refine SubF.cons rfl ?_)) (by repeat (first | exact SubO.nil | refine SubO.cons rfl ?_)) rfl (Vw.le.refl _)
     ·
      refine h_to 10 rfl rfl rfl rfl rfl rfl (s_bs tok 1 rfl rfl rfl) (.inr fun _ _ => ⟨(by repeat (first | exact SubO.nil | refine SubO.cons rfl ?_)), rfl, Vw.le.refl _⟩) (fun _ _ => ?_)
      refine h_two 3 15 (by kernel_rfl) ?_ ?_
      ·
       refine h_to 3 rfl rfl rfl rfl rfl rfl (s_app (e := 9) (sz := 1) (by_ := 16) (m := 0) (k := S.length) (olds := []) tok (S.flatMap encS) rfl (fun E w1 hm => hS.sl.src hm.get) (fun _ _ _ => str_ones S) (by omega)) (.inr fun _ _ => ⟨(by repeat (first | exact SubO.nil | refine SubO.cons rfl ?_)), rfl, Vw.le.refl _⟩) (fun _ _ => ?_)
       refine h_two 7 15 (by kernel_rfl) ?_ ?_
       ·
        refine h_to 7 rfl rfl rfl rfl rfl rfl (s_app (e := 3) (sz := 1) (by_ := 8) (m := 0) (k := K.length) (olds := []) tok (K.flatMap encI64) rfl (fun E w1 hm => hK.sl.src hm.get) (fun _ _ _ => int_ones K) (by omega)) (.inr fun _ _ => ⟨(by repeat (first | exact SubO.nil | refine SubO.cons rfl ?_)), rfl, Vw.le.refl _⟩) (fun _ _ => ?_)
        refine h_two 13 15 (by kernel_rfl) ?_ ?_
        ·
         refine h_to 13 rfl rfl rfl rfl rfl rfl (s_app (e := 3) (sz := 1) (by_ := 8) (m := 0) (k := 0) (olds := []) tok ([] : List Value) rfl (fun E w1 hm => hF.sl.src hm.get) (fun _ _ _ => by simp) (by omega)) (.inr fun _ _ => ⟨(by repeat (first | exact SubO.nil | refine SubO.cons rfl ?_)), rfl, Vw.le.refl _⟩) (fun _ _ => ?_)
         refine h_two 14 15 (by kernel_rfl) ?_ ?_
         ·
          refine h_yield 14 rfl rfl rfl rfl (y_val tok rfl) ?_
          refine h_one 15 (by kernel_rfl) ?_
          refine h_new 15 tok rfl rfl rfl rfl rfl rfl ?_
          refine h_one 16 (by kernel_rfl) ?_
          refine h_store 16 tok rfl rfl rfl rfl (by repeat' first | exact trivial | exact rfl | apply And.intro) (.inr ⟨(by repeat (first | exact SubO.nil | refine SubO.cons rfl ?_)), rfl, Vw.le.refl _⟩) ?_
          refine h_done [1, 2, 3] (by kernel_rfl) rfl ?_
          refine k_swap 2 3 rfl ?_
          refine k_swap 3 5 rfl ?_
          refine k_swap 4 5 rfl ?_
          refine k_swap 5 6 rfl ?_
          exact x_meet () trivial (by repeat (first | exact SubF.nil | refine SubF.cons rfl ?_)) (by repeat (first | exact SubO.nil | refine SubO.cons rfl ?_)) rfl (Vw.le.refl _)
         ·
          refine h_new 15 tok rfl rfl rfl rfl rfl rfl ?_
          refine h_one 14 (by kernel_rfl) ?_
          refine h_yield 14 rfl rfl rfl rfl (y_val tok rfl) ?_
          refine h_one 16 (by kernel_rfl) ?_
          refine h_store 16 tok rfl rfl rfl rfl (by repeat' first | exact trivial | exact rfl | apply And.intro) (.inr ⟨(by repeat (first | exact SubO.nil | refine SubO.cons rfl ?_)), rfl, Vw.le.refl _⟩) ?_
          refine h_done [1, 2, 3] (by kernel_rfl) rfl ?_
          refine k_swap 2 3 rfl ?_
          refine k_swap 3 5 rfl ?_
          refine k_swap 4 5 rfl ?_
          refine k_swap 5 6 rfl ?_
          exact x_meet () trivial (by repeat (first | exact SubF.nil | refine SubF.cons rfl ?_)) (by repeat (first | exact SubO.nil | refine SubO.cons rfl ?_)) rfl (Vw.le.refl _)
        ·
         refine h_new 15 tok rfl rfl rfl rfl rfl rfl ?_
         refine h_one 13 (by kernel_rfl) ?_
         refine h_to 13 rfl rfl rfl rfl rfl rfl (s_app (e := 3) (sz := 1) (by_ := 8) (m := 0) (k := 0) (olds := []) tok ([] : List Value) rfl (fun E w1 hm => hF.sl.src hm.get) (fun _ _ _ => by simp) (by omega)) (.inr fun _ _ => ⟨(by repeat (first | exact SubO.nil | refine SubO.cons rfl ?_)), rfl, Vw.le.refl _⟩) (fun _ _ => ?_)
         refine h_one 14 (by kernel_rfl) ?_
         refine h_yield 14 rfl rfl rfl rfl (y_val tok rfl) ?_
         refine h_one 16 (by kernel_rfl) ?_
         refine h_store 16 tok rfl rfl rfl rfl (by repeat' first | exact trivial | exact rfl | apply And.intro) (.inr ⟨(by repeat (first | exact SubO.nil | refine SubO.cons rfl ?_)), rfl, Vw.le.refl _⟩) ?_
         refine h_done [1, 2, 3] (by kernel_rfl) rfl ?_
         refine k_swap 2 3 rfl ?_
         refine k_swap 3 5 rfl ?_
         refine k_swap 4 5 rfl ?_
         refine k_swap 5 6 rfl ?_
         refine k_swap 7 8 rfl ?_
         exact x_meet () trivial (by repeat (first | exact SubF.nil | refine SubF.cons rfl ?_)) (by repeat (first | exact SubO.nil | refine SubO.cons rfl ?_)) rfl (Vw.le.refl _)
       ·
        refine h_new 15 tok rfl rfl rfl rfl rfl rfl ?_
        refine h_one 7 (by kernel_rfl) ?_
        refine h_to 7 rfl rfl rfl rfl rfl rfl (s_app (e := 3) (sz := 1) (by_ := 8) (m := 0) (k := K.length) (olds := []) tok (K.flatMap encI64) rfl (fun E w1 hm => hK.sl.src hm.get) (fun _ _ _ => int_ones K) (by omega)) (.inr fun _ _ => ⟨(by repeat (first | exact SubO.nil | refine SubO.cons rfl ?_)), rfl, Vw.le.refl _⟩) (fun _ _ => ?_)
        refine h_one 13 (by kernel_rfl) ?_
        refine h_to 13 rfl rfl rfl rfl rfl rfl (s_app (e := 3) (sz := 1) (by_ := 8) (m := 0) (k := 0) (olds := []) tok ([] : List Value) rfl (fun E w1 hm => hF.sl.src hm.get) (fun _ _ _ => by simp) (by omega)) (.inr fun _ _ => ⟨(by repeat (first | exact SubO.nil | refine SubO.cons rfl ?_)), rfl, Vw.le.refl _⟩) (fun _ _ => ?_)
        refine h_one 14 (by kernel_rfl) ?_
        refine h_yield 14 rfl rfl rfl rfl (y_val tok rfl) ?_
        refine h_one 16 (by kernel_rfl) ?_
        refine h_store 16 tok rfl rfl rfl rfl (by repeat' first | exact trivial | exact rfl | apply And.intro) (.inr ⟨(by repeat (first | exact SubO.nil | refine SubO.cons rfl ?_)), rfl, Vw.le.refl _⟩) ?_
        refine h_done [1, 2, 3] (by kernel_rfl) rfl ?_
        refine k_swap 2 3 rfl ?_
        refine k_swap 3 5 rfl ?_
        refine k_swap 4 5 rfl ?_
        refine k_swap 5 7 rfl ?_
        refine k_swap 6 7 rfl ?_
        refine k_swap 7 8 rfl ?_
        exact x_meet () trivial (by repeat (first | exact SubF.nil | refine SubF.cons rfl ?_)) (by repeat (first | exact SubO.nil | refine SubO.cons rfl ?_)) rfl (Vw.le.refl _)
      ·
       refine h_new 15 tok rfl rfl rfl rfl rfl rfl ?_
       refine h_one 3 (by kernel_rfl) ?_
       refine h_to 3 rfl rfl rfl rfl rfl rfl (s_app (e := 9) (sz := 1) (by_ := 16) (m := 0) (k := S.length) (olds := []) tok (S.flatMap encS) rfl (fun E w1 hm => hS.sl.src hm.get) (fun _ _ _ => str_ones S) (by omega)) (.inr fun _ _ => ⟨(by repeat (first | exact SubO.nil | refine SubO.cons rfl ?_)), rfl, Vw.le.refl _⟩) (fun _ _ => ?_)
       refine h_one 7 (by kernel_rfl) ?_
       refine h_to 7 rfl rfl rfl rfl rfl rfl (s_app (e := 3) (sz := 1) (by_ := 8) (m := 0) (k := K.length) (olds := []) tok (K.flatMap encI64) rfl (fun E w1 hm => hK.sl.src hm.get) (fun _ _ _ => int_ones K) (by omega)) (.inr fun _ _ => ⟨(by repeat (first | exact SubO.nil | refine SubO.cons rfl ?_)), rfl, Vw.le.refl _⟩) (fun _ _ => ?_)
       refine h_one 13 (by kernel_rfl) ?_
       refine h_to 13 rfl rfl rfl rfl rfl rfl (s_app (e := 3) (sz := 1) (by_ := 8) (m := 0) (k := 0) (olds := []) tok ([] : List Value) rfl (fun E w1 hm => hF.sl.src hm.get) (fun _ _ _ => by simp) (by omega)) (.inr fun _ _ => ⟨(by repeat (first | exact SubO.nil | refine SubO.cons rfl ?_)), rfl, Vw.le.refl _⟩) (fun _ _ => ?_)
       refine h_one 14 (by kernel_rfl) ?_
       refine h_yield 14 rfl rfl rfl rfl (y_val tok rfl) ?_
       refine h_one 16 (by kernel_rfl) ?_
       refine h_store 16 tok rfl rfl rfl rfl (by repeat' first | exact trivial | exact rfl | apply And.intro) (.inr ⟨(by repeat (first | exact SubO.nil | refine SubO.cons rfl ?_)), rfl, Vw.le.refl _⟩) ?_
       refine h_done [1, 2, 3] (by kernel_rfl) rfl ?_
       refine k_swap 2 3 rfl ?_
       refine k_swap 3 6 rfl ?_
       refine k_swap 4 6 rfl ?_
       refine k_swap 5 7 rfl ?_
       refine k_swap 7 8 rfl ?_
       exact x_meet () trivial (by repeat (first | exact SubF.nil | refine SubF.cons rfl ?_)) (by repeat (first | exact SubO.nil | refine SubO.cons rfl ?_)) rfl (Vw.le.refl _)
     ·
      refine h_new 15 tok rfl rfl rfl rfl rfl rfl ?_
      refine h_two 3 10 (by kernel_rfl) ?_ ?_
      ·
       refine h_to 3 rfl rfl rfl rfl rfl rfl (s_app (e := 9) (sz := 1) (by_ := 16) (m := 0) (k := S.length) (olds := []) tok (S.flatMap encS) rfl (fun E w1 hm => hS.sl.src hm.get) (fun _ _ _ => str_ones S) (by omega)) (.inr fun _ _ => ⟨(by repeat (first | exact SubO.nil | refine SubO.cons rfl ?_)), rfl, Vw.le.refl _⟩) (fun _ _ => ?_)
       refine h_two 7 10 (by kernel_rfl) ?_ ?_
       ·
        refine h_to 7 rfl rfl rfl rfl rfl rfl (s_app (e := 3) (sz := 1) (by_ := 8) (m := 0) (k := K.length) (olds := []) tok (K.flatMap encI64) rfl (fun E w1 hm => hK.sl.src hm.get) (fun _ _ _ => int_ones K) (by omega)) (.inr fun _ _ => ⟨(by repeat (first | exact SubO.nil | refine SubO.cons rfl ?_)), rfl, Vw.le.refl _⟩) (fun _ _ => ?_)
        refine h_one 10 (by kernel_rfl) ?_
        refine h_to 10 rfl rfl rfl rfl rfl rfl (s_bs tok 1 rfl rfl rfl) (.inr fun _ _ => ⟨(by repeat (first | exact SubO.nil | refine SubO.cons rfl ?_)), rfl, Vw.le.refl _⟩) (fun _ _ => ?_)
        refine h_one 13 (by kernel_rfl) ?_
        refine h_to 13 rfl rfl rfl rfl rfl rfl (s_app (e := 3) (sz := 1) (by_ := 8) (m := 0) (k := 0) (olds := []) tok ([] : List Value) rfl (fun E w1 hm => hF.sl.src hm.get) (fun _ _ _ => by simp) (by omega)) (.inr fun _ _ => ⟨(by repeat (first | exact SubO.nil | refine SubO.cons rfl ?_)), rfl, Vw.le.refl _⟩) (fun _ _ => ?_)
        refine h_one 14 (by kernel_rfl) ?_
        refine h_yield 14 rfl rfl rfl rfl (y_val tok rfl) ?_
        refine h_one 16 (by kernel_rfl) ?_
        refine h_store 16 tok rfl rfl rfl rfl (by repeat' first | exact trivial | exact rfl | apply And.intro) (.inr ⟨(by repeat (first | exact SubO.nil | refine SubO.cons rfl ?_)), rfl, Vw.le.refl _⟩) ?_
        refine h_done [1, 2, 3] (by kernel_rfl) rfl ?_
        refine k_swap 2 3 rfl ?_
        refine k_swap 3 5 rfl ?_
        refine k_swap 4 5 rfl ?_
        refine k_swap 5 6 rfl ?_
        refine k_swap 6 7 rfl ?_
        refine k_swap 7 8 rfl ?_
        exact x_meet () trivial (by repeat (first | exact SubF.nil | refine SubF.cons rfl ?_)) (by repeat (first | exact SubO.nil | refine SubO.cons rfl ?_)) rfl (Vw.le.refl _)
       ·
        refine h_to 10 rfl rfl rfl rfl rfl rfl (s_bs tok 1 rfl rfl rfl) (.inr fun _ _ => ⟨(by repeat (first | exact SubO.nil | refine SubO.cons rfl ?_)), rfl, Vw.le.refl _⟩) (fun _ _ => ?_)
        refine h_one 7 (by kernel_rfl) ?_
        refine h_to 7 rfl rfl rfl rfl rfl rfl (s_app (e := 3) (sz := 1) (by_ := 8) (m := 0) (k := K.length) (olds := []) tok (K.flatMap encI64) rfl (fun E w1 hm => hK.sl.src hm.get) (fun _ _ _ => int_ones K) (by omega)) (.inr fun _ _ => ⟨(by repeat (first | exact SubO.nil | refine SubO.cons rfl ?_)), rfl, Vw.le.refl _⟩) (fun _ _ => ?_)
        refine h_one 13 (by kernel_rfl) ?_
        refine h_to 13 rfl rfl rfl rfl rfl rfl (s_app (e := 3) (sz := 1) (by_ := 8) (m := 0) (k := 0) (olds := []) tok ([] : List Value) rfl (fun E w1 hm => hF.sl.src hm.get) (fun _ _ _ => by simp) (by omega)) (.inr fun _ _ => ⟨(by repeat (first | exact SubO.nil | refine SubO.cons rfl ?_)), rfl, Vw.le.refl _⟩) (fun _ _ => ?_)
        refine h_one 14 (by kernel_rfl) ?_
        refine h_yield 14 rfl rfl rfl rfl (y_val tok rfl) ?_
        refine h_one 16 (by kernel_rfl) ?_
        refine h_store 16 tok rfl rfl rfl rfl (by repeat' first | exact trivial | exact rfl | apply And.intro) (.inr ⟨(by repeat (first | exact SubO.nil | refine SubO.cons rfl ?_)), rfl, Vw.le.refl _⟩) ?_
        refine h_done [1, 2, 3] (by kernel_rfl) rfl ?_
        refine k_swap 2 3 rfl ?_
        refine k_swap 3 5 rfl ?_
        refine k_swap 4 5 rfl ?_
        refine k_swap 5 7 rfl ?_
        refine k_swap 7 8 rfl ?_
        exact x_meet () trivial (by repeat (first | exact SubF.nil | refine SubF.cons rfl ?_)) (by repeat (first | exact SubO.nil | refine SubO.cons rfl ?_)) rfl (Vw.le.refl _)
      ·
       refine h_to 10 rfl rfl rfl rfl rfl rfl (s_bs tok 1 rfl rfl rfl) (.inr fun _ _ => ⟨(by repeat (first | exact SubO.nil | refine SubO.cons rfl ?_)), rfl, Vw.le.refl _⟩) (fun _ _ => ?_)
       refine h_one 3 (by kernel_rfl) ?_
       refine h_to 3 rfl rfl rfl rfl rfl rfl (s_app (e := 9) (sz := 1) (by_ := 16) (m := 0) (k := S.length) (olds := []) tok (S.flatMap encS) rfl (fun E w1 hm => hS.sl.src hm.get) (fun _ _ _ => str_ones S) (by omega)) (.inr fun _ _ => ⟨(by repeat (first | exact SubO.nil | refine SubO.cons rfl ?_)), rfl, Vw.le.refl _⟩) (fun _ _ => ?_)
       refine h_one 7 (by kernel_rfl) ?_
       refine h_to 7 rfl rfl rfl rfl rfl rfl (s_app (e := 3) (sz := 1) (by_ := 8) (m := 0) (k := K.length) (olds := []) tok (K.flatMap encI64) rfl (fun E w1 hm => hK.sl.src hm.get) (fun _ _ _ => int_ones K) (by omega)) (.inr fun _ _ => ⟨(by repeat (first | exact SubO.nil | refine SubO.cons rfl ?_)), rfl, Vw.le.refl _⟩) (fun _ _ => ?_)
       refine h_one 13 (by kernel_rfl) ?_
       refine h_to 13 rfl rfl rfl rfl rfl rfl (s_app (e := 3) (sz := 1) (by_ := 8) (m := 0) (k := 0) (olds := []) tok ([] : List Value) rfl (fun E w1 hm => hF.sl.src hm.get) (fun _ _ _ => by simp) (by omega)) (.inr fun _ _ => ⟨(by repeat (first | exact SubO.nil | refine SubO.cons rfl ?_)), rfl, Vw.le.refl _⟩) (fun _ _ => ?_)
       refine h_one 14 (by kernel_rfl) ?_
       refine h_yield 14 rfl rfl rfl rfl (y_val tok rfl) ?_
       refine h_one 16 (by kernel_rfl) ?_
       refine h_store 16 tok rfl rfl rfl rfl (by repeat' first | exact trivial | exact rfl | apply And.intro) (.inr ⟨(by repeat (first | exact SubO.nil | refine SubO.cons rfl ?_)), rfl, Vw.le.refl _⟩) ?_
       refine h_done [1, 2, 3] (by kernel_rfl) rfl ?_
       refine k_swap 2 3 rfl ?_
       refine k_swap 3 6 rfl ?_
       refine k_swap 4 6 rfl ?_
       refine k_swap 5 7 rfl ?_
       refine k_swap 6 7 rfl ?_
       refine k_swap 7 8 rfl ?_
       exact x_meet () trivial (by repeat (first | exact SubF.nil | refine SubF.cons rfl ?_)) (by repeat (first | exact SubO.nil | refine SubO.cons rfl ?_)) rfl (Vw.le.refl _)
    ·
     refine h_to 10 rfl rfl rfl rfl rfl rfl (s_bs tok 1 rfl rfl rfl) (.inr fun _ _ => ⟨(by repeat (first | exact SubO.nil | refine SubO.cons rfl ?_)), rfl, Vw.le.refl _⟩) (fun _ _ => ?_)
     refine h_two 0 15 (by kernel_rfl) ?_ ?_
     ·
      refine h_to 0 rfl rfl rfl rfl rfl rfl (s_bs tok 1 rfl rfl rfl) (.inr fun _ _ => ⟨(by repeat (first | exact SubO.nil | refine SubO.cons rfl ?_)), rfl, Vw.le.refl _⟩) (fun _ _ => ?_)
      refine h_two 3 15 (by kernel_rfl) ?_ ?_
      ·
       refine h_to 3 rfl rfl rfl rfl rfl rfl (s_app (e := 9) (sz := 1) (by_ := 16) (m := 0) (k := S.length) (olds := []) tok (S.flatMap encS) rfl (fun E w1 hm => hS.sl.src hm.get) (fun _ _ _ => str_ones S) (by omega)) (.inr fun _ _ => ⟨(by repeat (first | exact SubO.nil | refine SubO.cons rfl ?_)), rfl, Vw.le.refl _⟩) (fun _ _ => ?_)
       refine h_two 7 15 (by kernel_rfl) ?_ ?_
       ·
        refine h_to 7 rfl rfl rfl rfl rfl rfl (s_app (e := 3) (sz := 1) (by_ := 8) (m := 0) (k := K.length) (olds := []) tok (K.flatMap encI64) rfl (fun E w1 hm => hK.sl.src hm.get) (fun _ _ _ => int_ones K) (by omega)) (.inr fun _ _ => ⟨(by repeat (first | exact SubO.nil | refine SubO.cons rfl ?_)), rfl, Vw.le.refl _⟩) (fun _ _ => ?_)
        refine h_two 13 15 (by kernel_rfl) ?_ ?_
        ·
         refine h_to 13 rfl rfl rfl rfl rfl rfl (s_app (e := 3) (sz := 1) (by_ := 8) (m := 0) (k := 0) (olds := []) tok ([] : List Value) rfl (fun E w1 hm => hF.sl.src hm.get) (fun _ _ _ => by simp) (by omega)) (.inr fun _ _ => ⟨(by repeat (first | exact SubO.nil | refine SubO.cons rfl ?_)), rfl, Vw.le.refl _⟩) (fun _ _ => ?_)
         refine h_two 14 15 (by kernel_rfl) ?_ ?_
         ·
          refine h_yield 14 rfl rfl rfl rfl (y_val tok rfl) ?_
          refine h_one 15 (by kernel_rfl) ?_
          refine h_new 15 tok rfl rfl rfl rfl rfl rfl ?_
          refine h_one 16 (by kernel_rfl) ?_
          refine h_store 16 tok rfl rfl rfl rfl (by repeat' first | exact trivial | exact rfl | apply And.intro) (.inr ⟨(by repeat (first | exact SubO.nil | refine SubO.cons rfl ?_)), rfl, Vw.le.refl _⟩) ?_
          refine h_done [1, 2, 3] (by kernel_rfl) rfl ?_
          refine k_swap 2 4 rfl ?_
          refine k_swap 3 5 rfl ?_
          refine k_swap 5 6 rfl ?_
          exact x_meet () trivial (by repeat (first | exact SubF.nil | refine SubF.cons rfl ?_)) (by repeat (first | exact SubO.nil | refine SubO.cons rfl ?_)) rfl (Vw.le.refl _)
         ·
          refine h_new 15 tok rfl rfl rfl rfl rfl rfl ?_
          refine h_one 14 (by kernel_rfl) ?_
          refine h_yield 14 rfl rfl rfl rfl (y_val tok rfl) ?_
          refine h_one 16 (by kernel_rfl) ?_
          refine h_store 16 tok rfl rfl rfl rfl (by repeat' first | exact trivial | exact rfl | apply And.intro) (.inr ⟨(by repeat (first | exact SubO.nil | refine SubO.cons rfl ?_)), rfl, Vw.le.refl _⟩) ?_
          refine h_done [1, 2, 3] (by kernel_rfl) rfl ?_
          refine k_swap 2 4 rfl ?_
          refine k_swap 3 5 rfl ?_
          refine k_swap 5 6 rfl ?_
          exact x_meet () trivial (by repeat (first | exact SubF.nil | refine SubF.cons rfl ?_)) (by repeat (first | exact SubO.nil | refine SubO.cons rfl ?_)) rfl (Vw.le.refl _)
        ·
         refine h_new 15 tok rfl rfl rfl rfl rfl rfl ?_
         refine h_one 13 (by kernel_rfl) ?_
         refine h_to 13 rfl rfl rfl rfl rfl rfl (s_app (e := 3) (sz := 1) (by_ := 8) (m := 0) (k := 0) (olds := []) tok ([] : List Value) rfl (fun E w1 hm => hF.sl.src hm.get) (fun _ _ _ => by simp) (by omega)) (.inr fun _ _ => ⟨(by repeat (first | exact SubO.nil | refine SubO.cons rfl ?_)), rfl, Vw.le.refl _⟩) (fun _ _ => ?_)
         refine h_one 14 (by kernel_rfl) ?_
         refine h_yield 14 rfl rfl rfl rfl (y_val tok rfl) ?_
         refine h_one 16 (by kernel_rfl) ?_
         refine h_store 16 tok rfl rfl rfl rfl (by repeat' first | exact trivial | exact rfl | apply And.intro) (.inr ⟨(by repeat (first | exact SubO.nil | refine SubO.cons rfl ?_)), rfl, Vw.le.refl _⟩) ?_
         refine h_done [1, 2, 3] (by kernel_rfl) rfl ?_
         refine k_swap 2 4 rfl ?_
         refine k_swap 3 5 rfl ?_
         refine k_swap 5 6 rfl ?_
         refine k_swap 7 8 rfl ?_
         exact x_meet () trivial (by repeat (first | exact SubF.nil | refine SubF.cons rfl ?_)) (by repeat (first | exact SubO.nil | refine SubO.cons rfl ?_)) rfl (Vw.le.refl _)
       ·
        refine h_new 15 tok rfl rfl rfl rfl rfl rfl ?_
        refine h_one 7 (by kernel_rfl) ?_
        refine h_to 7 rfl rfl rfl rfl rfl rfl (s_app (e := 3) (sz := 1) (by_ := 8) (m := 0) (k := K.length) (olds := []) tok (K.flatMap encI64) rfl (fun E w1 hm => hK.sl.src hm.get) (fun _ _ _ => int_ones K) (by omega)) (.inr fun _ _ => ⟨(by repeat (first | exact SubO.nil | refine SubO.cons rfl ?_)), rfl, Vw.le.refl _⟩) (fun _ _ => ?_)
        refine h_one 13 (by kernel_rfl) ?_
        refine h_to 13 rfl rfl rfl rfl rfl rfl (s_app (e := 3) (sz := 1) (by_ := 8) (m := 0) (k := 0) (olds := []) tok ([] : List Value) rfl (fun E w1 hm => hF.sl.src hm.get) (fun _ _ _ => by simp) (by omega)) (.inr fun _ _ => ⟨(by repeat (first | exact SubO.nil | refine SubO.cons rfl ?_)), rfl, Vw.le.refl _⟩) (fun _ _ => ?_)
        refine h_one 14 (by kernel_rfl) ?_
        refine h_yield 14 rfl rfl rfl rfl (y_val tok rfl) ?_
        refine h_one 16 (by kernel_rfl) ?_
        refine h_store 16 tok rfl rfl rfl rfl (by repeat' first | exact trivial | exact rfl | apply And.intro) (.inr ⟨(by repeat (first | exact SubO.nil | refine SubO.cons rfl ?_)), rfl, Vw.le.refl _⟩) ?_
        refine h_done [1, 2, 3] (by kernel_rfl) rfl ?_
        refine k_swap 2 4 rfl ?_
        refine k_swap 3 5 rfl ?_
        refine k_swap 5 7 rfl ?_
        refine k_swap 6 7 rfl ?_
        refine k_swap 7 8 rfl ?_
        exact x_meet () trivial (by repeat (first | exact SubF.nil | refine SubF.cons rfl ?_)) (by repeat (first | exact SubO.nil | refine SubO.cons rfl ?_)) rfl (Vw.le.refl _)
      ·
       refine h_new 15 tok rfl rfl rfl rfl rfl rfl ?_
       refine h_one 3 (by kernel_rfl) ?_
       refine h_to 3 rfl rfl rfl rfl rfl rfl (s_app (e := 9) (sz := 1) (by_ := 16) (m := 0) (k := S.length) (olds := []) tok (S.flatMap encS) rfl (fun E w1 hm => hS.sl.src hm.get) (fun _ _ _ => str_ones S) (by omega)) (.inr fun _ _ => ⟨(by repeat (first | exact SubO.nil | refine SubO.cons rfl ?_)), rfl, Vw.le.refl _⟩) (fun _ _ => ?_)
       refine h_one 7 (by kernel_rfl) ?_
       refine h_to 7 rfl rfl rfl rfl rfl rfl (s_app (e := 3) (sz := 1) (by_ := 8) (m := 0) (k := K.length) (olds := []) tok (K.flatMap encI64) rfl (fun E w1 hm => hK.sl.src hm.get) (fun _ _ _ => int_ones K) (by omega)) (.inr fun _ _ => ⟨(by repeat (first | exact SubO.nil | refine SubO.cons rfl ?_)), rfl, Vw.le.refl _⟩) (fun _ _ => ?_)
       refine h_one 13 (by kernel_rfl) ?_
       refine h_to 13 rfl rfl rfl rfl rfl rfl (s_app (e := 3) (sz := 1) (by_ := 8) (m := 0) (k := 0) (olds := []) tok ([] : List Value) rfl (fun E w1 hm => hF.sl.src hm.get) (fun _ _ _ => by simp) (by omega)) (.inr fun _ _ => ⟨(by repeat (first | exact SubO.nil | refine SubO.cons rfl ?_)), rfl, Vw.le.refl _⟩) (fun _ _ => ?_)
       refine h_one 14 (by kernel_rfl) ?_
       refine h_yield 14 rfl rfl rfl rfl (y_val tok rfl) ?_
       refine h_one 16 (by kernel_rfl) ?_
       refine h_store 16 tok rfl rfl rfl rfl (by repeat' first | exact trivial | exact rfl | apply And.intro) (.inr ⟨(by repeat (first | exact SubO.nil | refine SubO.cons rfl ?_)), rfl, Vw.le.refl _⟩) ?_
       refine h_done [1, 2, 3] (by kernel_rfl) rfl ?_
       refine k_swap 2 4 rfl ?_
       refine k_swap 3 6 rfl ?_
       refine k_swap 5 7 rfl ?_
       refine k_swap 7 8 rfl ?_
       exact x_meet () trivial (by repeat (first | exact SubF.nil | refine SubF.cons rfl ?_)) (by repeat (first | exact SubO.nil | refine SubO.cons rfl ?_)) rfl (Vw.le.refl _)
     ·
      refine h_new 15 tok rfl rfl rfl rfl rfl rfl ?_
      refine h_one 0 (by kernel_rfl) ?_
      refine h_to 0 rfl rfl rfl rfl rfl rfl (s_bs tok 1 rfl rfl rfl) (.inr fun _ _ => ⟨(by repeat (first | exact SubO.nil | refine SubO.cons rfl ?_)), rfl, Vw.le.refl _⟩) (fun _ _ => ?_)
      refine h_one 3 (by kernel_rfl) ?_
      refine h_to 3 rfl rfl rfl rfl rfl rfl (s_app (e := 9) (sz := 1) (by_ := 16) (m := 0) (k := S.length) (olds := []) tok (S.flatMap encS) rfl (fun E w1 hm => hS.sl.src hm.get) (fun _ _ _ => str_ones S) (by omega)) (.inr fun _ _ => ⟨(by repeat (first | exact SubO.nil | refine SubO.cons rfl ?_)), rfl, Vw.le.refl _⟩) (fun _ _ => ?_)
      refine h_one 7 (by kernel_rfl) ?_
      refine h_to 7 rfl rfl rfl rfl rfl rfl (s_app (e := 3) (sz := 1) (by_ := 8) (m := 0) (k := K.length) (olds := []) tok (K.flatMap encI64) rfl (fun E w1 hm => hK.sl.src hm.get) (fun _ _ _ => int_ones K) (by omega)) (.inr fun _ _ => ⟨(by repeat (first | exact SubO.nil | refine SubO.cons rfl ?_)), rfl, Vw.le.refl _⟩) (fun _ _ => ?_)
      refine h_one 13 (by kernel_rfl) ?_
      refine h_to 13 rfl rfl rfl rfl rfl rfl (s_app (e := 3) (sz := 1) (by_ := 8) (m := 0) (k := 0) (olds := []) tok ([] : List Value) rfl (fun E w1 hm => hF.sl.src hm.get) (fun _ _ _ => by simp) (by omega)) (.inr fun _ _ => ⟨(by repeat (first | exact SubO.nil | refine SubO.cons rfl ?_)), rfl, Vw.le.refl _⟩) (fun _ _ => ?_)
      refine h_one 14 (by kernel_rfl) ?_
      refine h_yield 14 rfl rfl rfl rfl (y_val tok rfl) ?_
      refine h_one 16 (by kernel_rfl) ?_
      refine h_store 16 tok rfl rfl rfl rfl (by repeat' first | exact trivial | exact rfl | apply And.intro) (.inr ⟨(by repeat (first | exact SubO.nil | refine SubO.cons rfl ?_)), rfl, Vw.le.refl _⟩) ?_
      refine h_done [1, 2, 3] (by kernel_rfl) rfl ?_
      refine k_swap 2 5 rfl ?_
      refine k_swap 3 6 rfl ?_
      refine k_swap 4 5 rfl ?_
      refine k_swap 5 7 rfl ?_
      refine k_swap 7 8 rfl ?_
      exact x_meet () trivial (by repeat (first | exact SubF.nil | refine SubF.cons rfl ?_)) (by repeat (first | exact SubO.nil | refine SubO.cons rfl ?_)) rfl (Vw.le.refl _)
    ·
     refine h_new 15 tok rfl rfl rfl rfl rfl rfl ?_
     refine h_two 0 10 (by kernel_rfl) ?_ ?_
     ·
      refine h_to 0 rfl rfl rfl rfl rfl rfl (s_bs tok 1 rfl rfl rfl) (.inr fun _ _ => ⟨(by repeat (first | exact SubO.nil | refine SubO.cons rfl ?_)), rfl, Vw.le.refl _⟩) (fun _ _ => ?_)
      refine h_two 3 10 (by kernel_rfl) ?_ ?_
      ·
       refine h_to 3 rfl rfl rfl rfl rfl rfl (s_app (e := 9) (sz := 1) (by_ := 16) (m := 0) (k := S.length) (olds := []) tok (S.flatMap encS) rfl (fun E w1 hm => hS.sl.src hm.get) (fun _ _ _ => str_ones S) (by omega)) (.inr fun _ _ => ⟨(by repeat (first | exact SubO.nil | refine SubO.cons rfl ?_)), rfl, Vw.le.refl _⟩) (fun _ _ => ?_)
       refine h_two 7 10 (by kernel_rfl) ?_ ?_
       ·
        refine h_to 7 rfl rfl rfl rfl rfl rfl (s_app (e := 3) (sz := 1) (by_ := 8) (m := 0) (k := K.length) (olds := []) tok (K.flatMap encI64) rfl (fun E w1 hm => hK.sl.src hm.get) (fun _ _ _ => int_ones K) (by omega)) (.inr fun _ _ => ⟨(by repeat (first | exact SubO.nil | refine SubO.cons rfl ?_)), rfl, Vw.le.refl _⟩) (fun _ _ => ?_)
        refine h_one 10 (by kernel_rfl) ?_
        refine h_to 10 rfl rfl rfl rfl rfl rfl (s_bs tok 1 rfl rfl rfl) (.inr fun _ _ => ⟨(by repeat (first | exact SubO.nil | refine SubO.cons rfl ?_)), rfl, Vw.le.refl _⟩) (fun _ _ => ?_)
        refine h_one 13 (by kernel_rfl) ?_
        refine h_to 13 rfl rfl rfl rfl rfl rfl (s_app (e := 3) (sz := 1) (by_ := 8) (m := 0) (k := 0) (olds := []) tok ([] : List Value) rfl (fun E w1 hm => hF.sl.src hm.get) (fun _ _ _ => by simp) (by omega)) (.inr fun _ _ => ⟨(by repeat (first | exact SubO.nil | refine SubO.cons rfl ?_)), rfl, Vw.le.refl _⟩) (fun _ _ => ?_)
        refine h_one 14 (by kernel_rfl) ?_
        refine h_yield 14 rfl rfl rfl rfl (y_val tok rfl) ?_
        refine h_one 16 (by kernel_rfl) ?_
        refine h_store 16 tok rfl rfl rfl rfl (by repeat' first | exact trivial | exact rfl | apply And.intro) (.inr ⟨(by repeat (first | exact SubO.nil | refine SubO.cons rfl ?_)), rfl, Vw.le.refl _⟩) ?_
        refine h_done [1, 2, 3] (by kernel_rfl) rfl ?_
        refine k_swap 2 4 rfl ?_
        refine k_swap 3 5 rfl ?_
        refine k_swap 5 6 rfl ?_
        refine k_swap 6 7 rfl ?_
        refine k_swap 7 8 rfl ?_
        exact x_meet () trivial (by repeat (first | exact SubF.nil | refine SubF.cons rfl ?_)) (by repeat (first | exact SubO.nil | refine SubO.cons rfl ?_)) rfl (Vw.le.refl _)
       ·
        refine h_to 10 rfl rfl rfl rfl rfl rfl (s_bs tok 1 rfl rfl rfl) (.inr fun _ _ => ⟨(by repeat (first | exact SubO.nil | refine SubO.cons rfl ?_)), rfl, Vw.le.refl _⟩) (fun _ _ => ?_)
        refine h_one 7 (by kernel_rfl) ?_
        refine h_to 7 rfl rfl rfl rfl rfl rfl (s_app (e := 3) (sz := 1) (by_ := 8) (m := 0) (k := K.length) (olds := []) tok (K.flatMap encI64) rfl (fun E w1 hm => hK.sl.src hm.get) (fun _ _ _ => int_ones K) (by omega)) (.inr fun _ _ => ⟨(by repeat (first | exact SubO.nil | refine SubO.cons rfl ?_)), rfl, Vw.le.refl _⟩) (fun _ _ => ?_)
        refine h_one 13 (by kernel_rfl) ?_
        refine h_to 13 rfl rfl rfl rfl rfl rfl (s_app (e := 3) (sz := 1) (by_ := 8) (m := 0) (k := 0) (olds := []) tok ([] : List Value) rfl (fun E w1 hm => hF.sl.src hm.get) (fun _ _ _ => by simp) (by omega)) (.inr fun _ _ => ⟨(by repeat (first | exact SubO.nil | refine SubO.cons rfl ?_)), rfl, Vw.le.refl _⟩) (fun _ _ => ?_)
        refine h_one 14 (by kernel_rfl) ?_
        refine h_yield 14 rfl rfl rfl rfl (y_val tok rfl) ?_
        refine h_one 16 (by kernel_rfl) ?_
        refine h_store 16 tok rfl rfl rfl rfl (by repeat' first | exact trivial | exact rfl | apply And.intro) (.inr ⟨(by repeat (first | exact SubO.nil | refine SubO.cons rfl ?_)), rfl, Vw.le.refl _⟩) ?_
        refine h_done [1, 2, 3] (by kernel_rfl) rfl ?_
        refine k_swap 2 4 rfl ?_
        refine k_swap 3 5 rfl ?_
        refine k_swap 5 7 rfl ?_
        refine k_swap 7 8 rfl ?_
        exact x_meet () trivial (by repeat (first | exact SubF.nil | refine SubF.cons rfl ?_)) (by repeat (first | exact SubO.nil | refine SubO.cons rfl ?_)) rfl (Vw.le.refl _)
      ·
       refine h_to 10 rfl rfl rfl rfl rfl rfl (s_bs tok 1 rfl rfl rfl) (.inr fun _ _ => ⟨(by repeat (first | exact SubO.nil | refine SubO.cons rfl ?_)), rfl, Vw.le.refl _⟩) (fun _ _ => ?_)
       refine h_one 3 (by kernel_rfl) ?_
       refine h_to 3 rfl rfl rfl rfl rfl rfl (s_app (e := 9) (sz := 1) (by_ := 16) (m := 0) (k := S.length) (olds := []) tok (S.flatMap encS) rfl (fun E w1 hm => hS.sl.src hm.get) (fun _ _ _ => str_ones S) (by omega)) (.inr fun _ _ => ⟨(by repeat (first | exact SubO.nil | refine SubO.cons rfl ?_)), rfl, Vw.le.refl _⟩) (fun _ _ => ?_)
       refine h_one 7 (by kernel_rfl) ?_
       refine h_to 7 rfl rfl rfl rfl rfl rfl (s_app (e := 3) (sz := 1) (by_ := 8) (m := 0) (k := K.length) (olds := []) tok (K.flatMap encI64) rfl (fun E w1 hm => hK.sl.src hm.get) (fun _ _ _ => int_ones K) (by omega)) (.inr fun _ _ => ⟨(by repeat (first | exact SubO.nil | refine SubO.cons rfl ?_)), rfl, Vw.le.refl _⟩) (fun _ _ => ?_)
       refine h_one 13 (by kernel_rfl) ?_
       refine h_to 13 rfl rfl rfl rfl rfl rfl (s_app (e := 3) (sz := 1) (by_ := 8) (m := 0) (k := 0) (olds := []) tok ([] : List Value) rfl (fun E w1 hm => hF.sl.src hm.get) (fun _ _ _ => by simp) (by omega)) (.inr fun _ _ => ⟨(by repeat (first | exact SubO.nil | refine SubO.cons rfl ?_)), rfl, Vw.le.refl _⟩) (fun _ _ => ?_)
       refine h_one 14 (by kernel_rfl) ?_
       refine h_yield 14 rfl rfl rfl rfl (y_val tok rfl) ?_
       refine h_one 16 (by kernel_rfl) ?_
       refine h_store 16 tok rfl rfl rfl rfl (by repeat' first | exact trivial | exact rfl | apply And.intro) (.inr ⟨(by repeat (first | exact SubO.nil | refine SubO.cons rfl ?_)), rfl, Vw.le.refl _⟩) ?_
       refine h_done [1, 2, 3] (by kernel_rfl) rfl ?_
       refine k_swap 2 4 rfl ?_
       refine k_swap 3 6 rfl ?_
       refine k_swap 5 7 rfl ?_
       refine k_swap 6 7 rfl ?_
       refine k_swap 7 8 rfl ?_
       exact x_meet () trivial (by repeat (first | exact SubF.nil | refine SubF.cons rfl ?_)) (by repeat (first | exact SubO.nil | refine SubO.cons rfl ?_)) rfl (Vw.le.refl _)
     ·
      refine h_to 10 rfl rfl rfl rfl rfl rfl (s_bs tok 1 rfl rfl rfl) (.inr fun _ _ => ⟨(by repeat (first | exact SubO.nil | refine SubO.cons rfl ?_)), rfl, Vw.le.refl _⟩) (fun _ _ => ?_)
      refine h_one 0 (by kernel_rfl) ?_
      refine h_to 0 rfl rfl rfl rfl rfl rfl (s_bs tok 1 rfl rfl rfl) (.inr fun _ _ => ⟨(by repeat (first | exact SubO.nil | refine SubO.cons rfl ?_)), rfl, Vw.le.refl _⟩) (fun _ _ => ?_)
      refine h_one 3 (by kernel_rfl) ?_
      refine h_to 3 rfl rfl rfl rfl rfl rfl (s_app (e := 9) (sz := 1) (by_ := 16) (m := 0) (k := S.length) (olds := []) tok (S.flatMap encS) rfl (fun E w1 hm => hS.sl.src hm.get) (fun _ _ _ => str_ones S) (by omega)) (.inr fun _ _ => ⟨(by repeat (first | exact SubO.nil | refine SubO.cons rfl ?_)), rfl, Vw.le.refl _⟩) (fun _ _ => ?_)
      refine h_one 7 (by kernel_rfl) ?_
      refine h_to 7 rfl rfl rfl rfl rfl rfl (s_app (e := 3) (sz := 1) (by_ := 8) (m := 0) (k := K.length) (olds := []) tok (K.flatMap encI64) rfl (fun E w1 hm => hK.sl.src hm.get) (fun _ _ _ => int_ones K) (by omega)) (.inr fun _ _ => ⟨(by repeat (first | exact SubO.nil | refine SubO.cons rfl ?_)), rfl, Vw.le.refl _⟩) (fun _ _ => ?_)
      refine h_one 13 (by kernel_rfl) ?_
      refine h_to 13 rfl rfl rfl rfl rfl rfl (s_app (e := 3) (sz := 1) (by_ := 8) (m := 0) (k := 0) (olds := []) tok ([] : List Value) rfl (fun E w1 hm => hF.sl.src hm.get) (fun _ _ _ => by simp) (by omega)) (.inr fun _ _ => ⟨(by repeat (first | exact SubO.nil | refine SubO.cons rfl ?_)), rfl, Vw.le.refl _⟩) (fun _ _ => ?_)
      refine h_one 14 (by kernel_rfl) ?_
      refine h_yield 14 rfl rfl rfl rfl (y_val tok rfl) ?_
      refine h_one 16 (by kernel_rfl) ?_
      refine h_store 16 tok rfl rfl rfl rfl (by repeat' first | exact trivial | exact rfl | apply And.intro) (.inr ⟨(by repeat (first | exact SubO.nil | refine SubO.cons rfl ?_)), rfl, Vw.le.refl _⟩) ?_
      refine h_done [1, 2, 3] (by kernel_rfl) rfl ?_
      refine k_swap 2 5 rfl ?_
      refine k_swap 3 6 rfl ?_
      refine k_swap 4 5 rfl ?_
      refine k_swap 5 7 rfl ?_
      refine k_swap 6 7 rfl ?_
      refine k_swap 7 8 rfl ?_
      exact x_meet () trivial (by repeat (first | exact SubF.nil | refine SubF.cons rfl ?_)) (by repeat (first | exact SubO.nil | refine SubO.cons rfl ?_)) rfl (Vw.le.refl _)
   ·
    refine h_to 10 rfl rfl rfl rfl rfl rfl (s_bs tok 1 rfl rfl rfl) (.inr fun _ _ => ⟨(by repeat (first | exact SubO.nil | refine SubO.cons rfl ?_)), rfl, Vw.le.refl _⟩) (fun _ _ => ?_)
    refine h_three 0 4 15 (by kernel_rfl) ?_ ?_ ?_
    ·
     refine h_to 0 rfl rfl rfl rfl rfl rfl (s_bs tok 1 rfl rfl rfl) (.inr fun _ _ => ⟨(by repeat (first | exact SubO.nil | refine SubO.cons rfl ?_)), rfl, Vw.le.refl _⟩) (fun _ _ => ?_)
     refine h_three 3 4 15 (by kernel_rfl) ?_ ?_ ?_
     ·
      refine h_to 3 rfl rfl rfl rfl rfl rfl (s_app (e := 9) (sz := 1) (by_ := 16) (m := 0) (k := S.length) (olds := []) tok (S.flatMap encS) rfl (fun E w1 hm => hS.sl.src hm.get) (fun _ _ _ => str_ones S) (by omega)) (.inr fun _ _ => ⟨(by repeat (first | exact SubO.nil | refine SubO.cons rfl ?_)), rfl, Vw.le.refl _⟩) (fun _ _ => ?_)
      refine h_two 4 15 (by kernel_rfl) ?_ ?_
      ·
       refine h_to 4 rfl rfl rfl rfl rfl rfl (s_bs tok 1 rfl rfl rfl) (.inr fun _ _ => ⟨(by repeat (first | exact SubO.nil | refine SubO.cons rfl ?_)), rfl, Vw.le.refl _⟩) (fun _ _ => ?_)
       refine h_two 7 15 (by kernel_rfl) ?_ ?_
       ·
        refine h_to 7 rfl rfl rfl rfl rfl rfl (s_app (e := 3) (sz := 1) (by_ := 8) (m := 0) (k := K.length) (olds := []) tok (K.flatMap encI64) rfl (fun E w1 hm => hK.sl.src hm.get) (fun _ _ _ => int_ones K) (by omega)) (.inr fun _ _ => ⟨(by repeat (first | exact SubO.nil | refine SubO.cons rfl ?_)), rfl, Vw.le.refl _⟩) (fun _ _ => ?_)
        refine h_two 13 15 (by kernel_rfl) ?_ ?_
        ·
         refine h_to 13 rfl rfl rfl rfl rfl rfl (s_app (e := 3) (sz := 1) (by_ := 8) (m := 0) (k := 0) (olds := []) tok ([] : List Value) rfl (fun E w1 hm => hF.sl.src hm.get) (fun _ _ _ => by simp) (by omega)) (.inr fun _ _ => ⟨(by repeat (first | exact SubO.nil | refine SubO.cons rfl ?_)), rfl, Vw.le.refl _⟩) (fun _ _ => ?_)
         refine h_two 14 15 (by kernel_rfl) ?_ ?_
         ·
          refine h_yield 14 rfl rfl rfl rfl (y_val tok rfl) ?_
          refine h_one 15 (by kernel_rfl) ?_
          refine h_new 15 tok rfl rfl rfl rfl rfl rfl ?_
          refine h_one 16 (by kernel_rfl) ?_
          refine h_store 16 tok rfl rfl rfl rfl (by repeat' first | exact trivial | exact rfl | apply And.intro) (.inr ⟨(by repeat (first | exact SubO.nil | refine SubO.cons rfl ?_)), rfl, Vw.le.refl _⟩) ?_
          refine h_done [1, 2, 3] (by kernel_rfl) rfl ?_
          refine k_swap 2 3 rfl ?_
          refine k_swap 3 4 rfl ?_
          refine k_swap 4 5 rfl ?_
          refine k_swap 5 6 rfl ?_
          exact x_meet () trivial (by repeat (first | exact SubF.nil | refine SubF.cons rfl ?_)) (by repeat (first | exact SubO.nil | refine SubO.cons rfl ?_)) rfl (Vw.le.refl _)
         ·
          refine h_new 15 tok rfl rfl rfl rfl rfl rfl ?_
          refine h_one 14 (by kernel_rfl) ?_
          refine h_yield 14 rfl rfl rfl rfl (y_val tok rfl) ?_
          refine h_one 16 (by kernel_rfl) ?_
          refine h_store 16 tok rfl rfl rfl rfl (by repeat' first | exact trivial | exact rfl | apply And.intro) (.inr ⟨(by repeat (first | exact SubO.nil | refine SubO.cons rfl ?_)), rfl, Vw.le.refl _⟩) ?_
          refine h_done [1, 2, 3] (by kernel_rfl) rfl ?_
          refine k_swap 2 3 rfl ?_
          refine k_swap 3 4 rfl ?_
          refine k_swap 4 5 rfl ?_
          refine k_swap 5 6 rfl ?_
          exact x_meet () trivial (by repeat (first | exact SubF.nil | refine SubF.cons rfl ?_)) (by repeat (first | exact SubO.nil | refine SubO.cons rfl ?_)) rfl (Vw.le.refl _)
        ·
         refine h_new 15 tok rfl rfl rfl rfl rfl rfl ?_
         refine h_one 13 (by kernel_rfl) ?_
         refine h_to 13 rfl rfl rfl rfl rfl rfl (s_app (e := 3) (sz := 1) (by_ := 8) (m := 0) (k := 0) (olds := []) tok ([] : List Value) rfl (fun E w1 hm => hF.sl.src hm.get) (fun _ _ _ => by simp) (by omega)) (.inr fun _ _ => ⟨(by repeat (first | exact SubO.nil | refine SubO.cons rfl ?_)), rfl, Vw.le.refl _⟩) (fun _ _ => ?_)
         refine h_one 14 (by kernel_rfl) ?_
         refine h_yield 14 rfl rfl rfl rfl (y_val tok rfl) ?_
         refine h_one 16 (by kernel_rfl) ?_
         refine h_store 16 tok rfl rfl rfl rfl (by repeat' first | exact trivial | exact rfl | apply And.intro) (.inr ⟨(by repeat (first | exact SubO.nil | refine SubO.cons rfl ?_)), rfl, Vw.le.refl _⟩) ?_
         refine h_done [1, 2, 3] (by kernel_rfl) rfl ?_
         refine k_swap 2 3 rfl ?_
         refine k_swap 3 4 rfl ?_
         refine k_swap 4 5 rfl ?_
         refine k_swap 5 6 rfl ?_
         refine k_swap 7 8 rfl ?_
         exact x_meet () trivial (by repeat (first | exact SubF.nil | refine SubF.cons rfl ?_)) (by repeat (first | exact SubO.nil | refine SubO.cons rfl ?_)) rfl (Vw.le.refl _)
       ·
        refine h_new 15 tok rfl rfl rfl rfl rfl rfl ?_
        refine h_one 7 (by kernel_rfl) ?_
        refine h_to 7 rfl rfl rfl rfl rfl rfl (s_app (e := 3) (sz := 1) (by_ := 8) (m := 0) (k := K.length) (olds := []) tok (K.flatMap encI64) rfl (fun E w1 hm => hK.sl.src hm.get) (fun _ _ _ => int_ones K) (by omega)) (.inr fun _ _ => ⟨(by repeat (first | exact SubO.nil | refine SubO.cons rfl ?_)), rfl, Vw.le.refl _⟩) (fun _ _ => ?_)
        refine h_one 13 (by kernel_rfl) ?_
        refine h_to 13 rfl rfl rfl rfl rfl rfl (s_app (e := 3) (sz := 1) (by_ := 8) (m := 0) (k := 0) (olds := []) tok ([] : List Value) rfl (fun E w1 hm => hF.sl.src hm.get) (fun _ _ _ => by simp) (by omega)) (.inr fun _ _ => ⟨(by repeat (first | exact SubO.nil | refine SubO.cons rfl ?_)), rfl, Vw.le.refl _⟩) (fun _ _ => ?_)
        refine h_one 14 (by kernel_rfl) ?_
        refine h_yield 14 rfl rfl rfl rfl (y_val tok rfl) ?_
        refine h_one 16 (by kernel_rfl) ?_
        refine h_store 16 tok rfl rfl rfl rfl (by repeat' first | exact trivial | exact rfl | apply And.intro) (.inr ⟨(by repeat (first | exact SubO.nil | refine SubO.cons rfl ?_)), rfl, Vw.le.refl _⟩) ?_
        refine h_done [1, 2, 3] (by kernel_rfl) rfl ?_
        refine k_swap 2 3 rfl ?_
        refine k_swap 3 4 rfl ?_
        refine k_swap 4 5 rfl ?_
        refine k_swap 5 7 rfl ?_
        refine k_swap 6 7 rfl ?_
        refine k_swap 7 8 rfl ?_
        exact x_meet () trivial (by repeat (first | exact SubF.nil | refine SubF.cons rfl ?_)) (by repeat (first | exact SubO.nil | refine SubO.cons rfl ?_)) rfl (Vw.le.refl _)
      ·
       refine h_new 15 tok rfl rfl rfl rfl rfl rfl ?_
       refine h_one 4 (by kernel_rfl) ?_
       refine h_to 4 rfl rfl rfl rfl rfl rfl (s_bs tok 1 rfl rfl rfl) (.inr fun _ _ => ⟨(by repeat (first | exact SubO.nil | refine SubO.cons rfl ?_)), rfl, Vw.le.refl _⟩) (fun _ _ => ?_)
       refine h_one 7 (by kernel_rfl) ?_
       refine h_to 7 rfl rfl rfl rfl rfl rfl (s_app (e := 3) (sz := 1) (by_ := 8) (m := 0) (k := K.length) (olds := []) tok (K.flatMap encI64) rfl (fun E w1 hm => hK.sl.src hm.get) (fun _ _ _ => int_ones K) (by omega)) (.inr fun _ _ => ⟨(by repeat (first | exact SubO.nil | refine SubO.cons rfl ?_)), rfl, Vw.le.refl _⟩) (fun _ _ => ?_)
       refine h_one 13 (by kernel_rfl) ?_
       refine h_to 13 rfl rfl rfl rfl rfl rfl (s_app (e := 3) (sz := 1) (by_ := 8) (m := 0) (k := 0) (olds := []) tok ([] : List Value) rfl (fun E w1 hm => hF.sl.src hm.get) (fun _ _ _ => by simp) (by omega)) (.inr fun _ _ => ⟨(by repeat (first | exact SubO.nil | refine SubO.cons rfl ?_)), rfl, Vw.le.refl _⟩) (fun _ _ => ?_)
       refine h_one 14 (by kernel_rfl) ?_
       refine h_yield 14 rfl rfl rfl rfl (y_val tok rfl) ?_
       refine h_one 16 (by kernel_rfl) ?_
       refine h_store 16 tok rfl rfl rfl rfl (by repeat' first | exact trivial | exact rfl | apply And.intro) (.inr ⟨(by repeat (first | exact SubO.nil | refine SubO.cons rfl ?_)), rfl, Vw.le.refl _⟩) ?_
       refine h_done [1, 2, 3] (by kernel_rfl) rfl ?_
       refine k_swap 2 3 rfl ?_
       refine k_swap 3 4 rfl ?_
       refine k_swap 4 6 rfl ?_
       refine k_swap 5 7 rfl ?_
       refine k_swap 7 8 rfl ?_
       exact x_meet () trivial (by repeat (first | exact SubF.nil | refine SubF.cons rfl ?_)) (by repeat (first | exact SubO.nil | refine SubO.cons rfl ?_)) rfl (Vw.le.refl _)
     ·
      refine h_to 4 rfl rfl rfl rfl rfl rfl (s_bs tok 1 rfl rfl rfl) (.inr fun _ _ => ⟨(by repeat (first | exact SubO.nil | refine SubO.cons rfl ?_)), rfl, Vw.le.refl _⟩) (fun _ _ => ?_)
      refine h_two 3 15 (by kernel_rfl) ?_ ?_
      ·
       refine h_to 3 rfl rfl rfl rfl rfl rfl (s_app (e := 9) (sz := 1) (by_ := 16) (m := 0) (k := S.length) (olds := []) tok (S.flatMap encS) rfl (fun E w1 hm => hS.sl.src hm.get) (fun _ _ _ => str_ones S) (by omega)) (.inr fun _ _ => ⟨(by repeat (first | exact SubO.nil | refine SubO.cons rfl ?_)), rfl, Vw.le.refl _⟩) (fun _ _ => ?_)
       refine h_two 7 15 (by kernel_rfl) ?_ ?_
       ·
        refine h_to 7 rfl rfl rfl rfl rfl rfl (s_app (e := 3) (sz := 1) (by_ := 8) (m := 0) (k := K.length) (olds := []) tok (K.flatMap encI64) rfl (fun E w1 hm => hK.sl.src hm.get) (fun _ _ _ => int_ones K) (by omega)) (.inr fun _ _ => ⟨(by repeat (first | exact SubO.nil | refine SubO.cons rfl ?_)), rfl, Vw.le.refl _⟩) (fun _ _ => ?_)
        refine h_two 13 15 (by kernel_rfl) ?_ ?_
        ·
         refine h_to 13 rfl rfl rfl rfl rfl rfl (s_app (e := 3) (sz := 1) (by_ := 8) (m := 0) (k := 0) (olds := []) tok ([] : List Value) rfl (fun E w1 hm => hF.sl.src hm.get) (fun _ _ _ => by simp) (by omega)) (.inr fun _ _ => ⟨(by repeat (first | exact SubO.nil | refine SubO.cons rfl ?_)), rfl, Vw.le.refl _⟩) (fun _ _ => ?_)
         refine h_two 14 15 (by kernel_rfl) ?_ ?_
         ·
          refine h_yield 14 rfl rfl rfl rfl (y_val tok rfl) ?_
          refine h_one 15 (by kernel_rfl) ?_
          refine h_new 15 tok rfl rfl rfl rfl rfl rfl ?_
          refine h_one 16 (by kernel_rfl) ?_
          refine h_store 16 tok rfl rfl rfl rfl (by repeat' first | exact trivial | exact rfl | apply And.intro) (.inr ⟨(by repeat (first | exact SubO.nil | refine SubO.cons rfl ?_)), rfl, Vw.le.refl _⟩) ?_
          refine h_done [1, 2, 3] (by kernel_rfl) rfl ?_
          refine k_swap 2 3 rfl ?_
          refine k_swap 3 5 rfl ?_
          refine k_swap 5 6 rfl ?_
          exact x_meet () trivial (by repeat (first | exact SubF.nil | refine SubF.cons rfl ?_)) (by repeat (first | exact SubO.nil | refine SubO.cons rfl ?_)) rfl (Vw.le.refl _)
         ·
          refine h_new 15 tok rfl rfl rfl rfl rfl rfl ?_
          refine h_one 14 (by kernel_rfl) ?_
          refine h_yield 14 rfl rfl rfl rfl (y_val tok rfl) ?_
          refine h_one 16 (by kernel_rfl) ?_
          refine h_store 16 tok rfl rfl rfl rfl (by repeat' first | exact trivial | exact rfl | apply And.intro) (.inr ⟨(by repeat (first | exact SubO.nil | refine SubO.cons rfl ?_)), rfl, Vw.le.refl _⟩) ?_
          refine h_done [1, 2, 3] (by kernel_rfl) rfl ?_
          refine k_swap 2 3 rfl ?_
          refine k_swap 3 5 rfl ?_
          refine k_swap 5 6 rfl ?_
          exact x_meet () trivial (by repeat (first | exact SubF.nil | refine SubF.cons rfl ?_)) (by repeat (first | exact SubO.nil | refine SubO.cons rfl ?_)) rfl (Vw.le.refl _)
        ·
         refine h_new 15 tok rfl rfl rfl rfl rfl rfl ?_
         refine h_one 13 (by kernel_rfl) ?_
         refine h_to 13 rfl rfl rfl rfl rfl rfl (s_app (e := 3) (sz := 1) (by_ := 8) (m := 0) (k := 0) (olds := []) tok ([] : List Value) rfl (fun E w1 hm => hF.sl.src hm.get) (fun _ _ _ => by simp) (by omega)) (.inr fun _ _ => ⟨(by repeat (first | exact SubO.nil | refine SubO.cons rfl ?_)), rfl, Vw.le.refl _⟩) (fun _ _ => ?_)
         refine h_one 14 (by kernel_rfl) ?_
         refine h_yield 14 rfl rfl rfl rfl (y_val tok rfl) ?_
         refine h_one 16 (by kernel_rfl) ?_
         refine h_store 16 tok rfl rfl rfl rfl (by repeat' first | exact trivial | exact rfl | apply And.intro) (.inr ⟨(by repeat (first | exact SubO.nil | refine SubO.cons rfl ?_)), rfl, Vw.le.refl _⟩) ?_
         refine h_done [1, 2, 3] (by kernel_rfl) rfl ?_
         refine k_swap 2 3 rfl ?_
         refine k_swap 3 5 rfl ?_
         refine k_swap 5 6 rfl ?_
         refine k_swap 7 8 rfl ?_
         exact x_meet () trivial (by repeat (first | exact SubF.nil | refine SubF.cons rfl ?_)) (by repeat (first | exact SubO.nil | refine SubO.cons rfl ?_)) rfl (Vw.le.refl _)
       ·
        refine h_new 15 tok rfl rfl rfl rfl rfl rfl ?_
        refine h_one 7 (by kernel_rfl) ?_
        refine h_to 7 rfl rfl rfl rfl rfl rfl (s_app (e := 3) (sz := 1) (by_ := 8) (m := 0) (k := K.length) (olds := []) tok (K.flatMap encI64) rfl (fun E w1 hm => hK.sl.src hm.get) (fun _ _ _ => int_ones K) (by omega)) (.inr fun _ _ => ⟨(by repeat (first | exact SubO.nil | refine SubO.cons rfl ?_)), rfl, Vw.le.refl _⟩) (fun _ _ => ?_)
        refine h_one 13 (by kernel_rfl) ?_
        refine h_to 13 rfl rfl rfl rfl rfl rfl (s_app (e := 3) (sz := 1) (by_ := 8) (m := 0) (k := 0) (olds := []) tok ([] : List Value) rfl (fun E w1 hm => hF.sl.src hm.get) (fun _ _ _ => by simp) (by omega)) (.inr fun _ _ => ⟨(by repeat (first | exact SubO.nil | refine SubO.cons rfl ?_)), rfl, Vw.le.refl _⟩) (fun _ _ => ?_)
        refine h_one 14 (by kernel_rfl) ?_
        refine h_yield 14 rfl rfl rfl rfl (y_val tok rfl) ?_
        refine h_one 16 (by kernel_rfl) ?_
        refine h_store 16 tok rfl rfl rfl rfl (by repeat' first | exact trivial | exact rfl | apply And.intro) (.inr ⟨(by repeat (first | exact SubO.nil | refine SubO.cons rfl ?_)), rfl, Vw.le.refl _⟩) ?_
        refine h_done [1, 2, 3] (by kernel_rfl) rfl ?_
        refine k_swap 2 3 rfl ?_
        refine k_swap 3 5 rfl ?_
        refine k_swap 5 7 rfl ?_
        refine k_swap 6 7 rfl ?_
        refine k_swap 7 8 rfl ?_
        exact x_meet () trivial (by repeat (first | exact SubF.nil | refine SubF.cons rfl ?_)) (by repeat (first | exact SubO.nil | refine SubO.cons rfl ?_)) rfl (Vw.le.refl _)
      ·
       refine h_new 15 tok rfl rfl rfl rfl rfl rfl ?_
       refine h_one 3 (by kernel_rfl) ?_
       refine h_to 3 rfl rfl rfl rfl rfl rfl (s_app (e := 9) (sz := 1) (by_ := 16) (m := 0) (k := S.length) (olds := []) tok (S.flatMap encS) rfl (fun E w1 hm => hS.sl.src hm.get) (fun _ _ _ => str_ones S) (by omega)) (.inr fun _ _ => ⟨(by repeat (first | exact SubO.nil | refine SubO.cons rfl ?_)), rfl, Vw.le.refl _⟩) (fun _ _ => ?_)
       refine h_one 7 (by kernel_rfl) ?_
       refine h_to 7 rfl rfl rfl rfl rfl rfl (s_app (e := 3) (sz := 1) (by_ := 8) (m := 0) (k := K.length) (olds := []) tok (K.flatMap encI64) rfl (fun E w1 hm => hK.sl.src hm.get) (fun _ _ _ => int_ones K) (by omega)) (.inr fun _ _ => ⟨(by repeat (first | exact SubO.nil | refine SubO.cons rfl ?_)), rfl, Vw.le.refl _⟩) (fun _ _ => ?_)
       refine h_one 13 (by kernel_rfl) ?_
       refine h_to 13 rfl rfl rfl rfl rfl rfl (s_app (e := 3) (sz := 1) (by_ := 8) (m := 0) (k := 0) (olds := []) tok ([] : List Value) rfl (fun E w1 hm => hF.sl.src hm.get) (fun _ _ _ => by simp) (by omega)) (.inr fun _ _ => ⟨(by repeat (first | exact SubO.nil | refine SubO.cons rfl ?_)), rfl, Vw.le.refl _⟩) (fun _ _ => ?_)
       refine h_one 14 (by kernel_rfl) ?_
       refine h_yield 14 rfl rfl rfl rfl (y_val tok rfl) ?_
       refine h_one 16 (by kernel_rfl) ?_
       refine h_store 16 tok rfl rfl rfl rfl (by repeat' first | exact trivial | exact rfl | apply And.intro) (.inr ⟨(by repeat (first | exact SubO.nil | refine SubO.cons rfl ?_)), rfl, Vw.le.refl _⟩) ?_
       refine h_done [1, 2, 3] (by kernel_rfl) rfl ?_
       refine k_swap 2 3 rfl ?_
       refine k_swap 3 6 rfl ?_
       refine k_swap 5 7 rfl ?_
       refine k_swap 7 8 rfl ?_
       exact x_meet () trivial (by repeat (first | exact SubF.nil | refine SubF.cons rfl ?_)) (by repeat (first | exact SubO.nil | refine SubO.cons rfl ?_)) rfl (Vw.le.refl _)
     ·
      refine h_new 15 tok rfl rfl rfl rfl rfl rfl ?_
      refine h_two 3 4 (by kernel_rfl) ?_ ?_
      ·
       refine h_to 3 rfl rfl rfl rfl rfl rfl (s_app (e := 9) (sz := 1) (by_ := 16) (m := 0) (k := S.length) (olds := []) tok (S.flatMap encS) rfl (fun E w1 hm => hS.sl.src hm.get) (fun _ _ _ => str_ones S) (by omega)) (.inr fun _ _ => ⟨(by repeat (first | exact SubO.nil | refine SubO.cons rfl ?_)), rfl, Vw.le.refl _⟩) (fun _ _ => ?_)
       refine h_one 4 (by kernel_rfl) ?_
       refine h_to 4 rfl rfl rfl rfl rfl rfl (s_bs tok 1 rfl rfl rfl) (.inr fun _ _ => ⟨(by repeat (first | exact SubO.nil | refine SubO.cons rfl ?_)), rfl, Vw.le.refl _⟩) (fun _ _ => ?_)
       refine h_one 7 (by kernel_rfl) ?_
       refine h_to 7 rfl rfl rfl rfl rfl rfl (s_app (e := 3) (sz := 1) (by_ := 8) (m := 0) (k := K.length) (olds := []) tok (K.flatMap encI64) rfl (fun E w1 hm => hK.sl.src hm.get) (fun _ _ _ => int_ones K) (by omega)) (.inr fun _ _ => ⟨(by repeat (first | exact SubO.nil | refine SubO.cons rfl ?_)), rfl, Vw.le.refl _⟩) (fun _ _ => ?_)
       refine h_one 13 (by kernel_rfl) ?_
       refine h_to 13 rfl rfl rfl rfl rfl rfl (s_app (e := 3) (sz := 1) (by_ := 8) (m := 0) (k := 0) (olds := []) tok ([] : List Value) rfl (fun E w1 hm => hF.sl.src hm.get) (fun _ _ _ => by simp) (by omega)) (.inr fun _ _ => ⟨(by repeat (first | exact SubO.nil | refine SubO.cons rfl ?_)), rfl, Vw.le.refl _⟩) (fun _ _ => ?_)
       refine h_one 14 (by kernel_rfl) ?_
       refine h_yield 14 rfl rfl rfl rfl (y_val tok rfl) ?_
       refine h_one 16 (by kernel_rfl) ?_
       refine h_store 16 tok rfl rfl rfl rfl (by repeat' first | exact trivial | exact rfl | apply And.intro) (.inr ⟨(by repeat (first | exact SubO.nil | refine SubO.cons rfl ?_)), rfl, Vw.le.refl _⟩) ?_
       refine h_done [1, 2, 3] (by kernel_rfl) rfl ?_
       refine k_swap 2 3 rfl ?_
       refine k_swap 3 5 rfl ?_
       refine k_swap 4 6 rfl ?_
       refine k_swap 5 7 rfl ?_
       refine k_swap 6 7 rfl ?_
       refine k_swap 7 8 rfl ?_
       exact x_meet () trivial (by repeat (first | exact SubF.nil | refine SubF.cons rfl ?_)) (by repeat (first | exact SubO.nil | refine SubO.cons rfl ?_)) rfl (Vw.le.refl _)
      ·
       refine h_to 4 rfl rfl rfl rfl rfl rfl (s_bs tok 1 rfl rfl rfl) (.inr fun _ _ => ⟨(by repeat (first | exact SubO.nil | refine SubO.cons rfl ?_)), rfl, Vw.le.refl _⟩) (fun _ _ => ?_)
       refine h_one 3 (by kernel_rfl) ?_
       refine h_to 3 rfl rfl rfl rfl rfl rfl (s_app (e := 9) (sz := 1) (by_ := 16) (m := 0) (k := S.length) (olds := []) tok (S.flatMap encS) rfl (fun E w1 hm => hS.sl.src hm.get) (fun _ _ _ => str_ones S) (by omega)) (.inr fun _ _ => ⟨(by repeat (first | exact SubO.nil | refine SubO.cons rfl ?_)), rfl, Vw.le.refl _⟩) (fun _ _ => ?_)
       refine h_one 7 (by kernel_rfl) ?_
       refine h_to 7 rfl rfl rfl rfl rfl rfl (s_app (e := 3) (sz := 1) (by_ := 8) (m := 0) (k := K.length) (olds := []) tok (K.flatMap encI64) rfl (fun E w1 hm => hK.sl.src hm.get) (fun _ _ _ => int_ones K) (by omega)) (.inr fun _ _ => ⟨(by repeat (first | exact SubO.nil | refine SubO.cons rfl ?_)), rfl, Vw.le.refl _⟩) (fun _ _ => ?_)
       refine h_one 13 (by kernel_rfl) ?_
       refine h_to 13 rfl rfl rfl rfl rfl rfl (s_app (e := 3) (sz := 1) (by_ := 8) (m := 0) (k := 0) (olds := []) tok ([] : List Value) rfl (fun E w1 hm => hF.sl.src hm.get) (fun _ _ _ => by simp) (by omega)) (.inr fun _ _ => ⟨(by repeat (first | exact SubO.nil | refine SubO.cons rfl ?_)), rfl, Vw.le.refl _⟩) (fun _ _ => ?_)
       refine h_one 14 (by kernel_rfl) ?_
       refine h_yield 14 rfl rfl rfl rfl (y_val tok rfl) ?_
       refine h_one 16 (by kernel_rfl) ?_
       refine h_store 16 tok rfl rfl rfl rfl (by repeat' first | exact trivial | exact rfl | apply And.intro) (.inr ⟨(by repeat (first | exact SubO.nil | refine SubO.cons rfl ?_)), rfl, Vw.le.refl _⟩) ?_
       refine h_done [1, 2, 3] (by kernel_rfl) rfl ?_
       refine k_swap 2 3 rfl ?_
       refine k_swap 3 6 rfl ?_
       refine k_swap 4 5 rfl ?_
       refine k_swap 5 7 rfl ?_
       refine k_swap 7 8 rfl ?_
       exact x_meet () trivial (by repeat (first | exact SubF.nil | refine SubF.cons rfl ?_)) (by repeat (first | exact SubO.nil | refine SubO.cons rfl ?_)) rfl (Vw.le.refl _)
    ·
     refine h_to 4 rfl rfl rfl rfl rfl rfl (s_bs tok 1 rfl rfl rfl) (.inr fun _ _ => ⟨(by repeat (first | exact SubO.nil | refine SubO.cons rfl ?_)), rfl, Vw.le.refl _⟩) (fun _ _ => ?_)
     refine h_two 0 15 (by kernel_rfl) ?_ ?_
     ·
      refine h_to 0 rfl rfl rfl rfl rfl rfl (s_bs tok 1 rfl rfl rfl) (.inr fun _ _ => ⟨(by repeat (first | exact SubO.nil | refine SubO.cons rfl ?_)), rfl, Vw.le.refl _⟩) (fun _ _ => ?_)
      refine h_two 3 15 (by kernel_rfl) ?_ ?_
      ·
       refine h_to 3 rfl rfl rfl rfl rfl rfl (s_app (e := 9) (sz := 1) (by_ := 16) (m := 0) (k := S.length) (olds := []) tok (S.flatMap encS) rfl (fun E w1 hm => hS.sl.src hm.get) (fun _ _ _ => str_ones S) (by omega)) (.inr fun _ _ => ⟨(by repeat (first | exact SubO.nil | refine SubO.cons rfl ?_)), rfl, Vw.le.refl _⟩) (fun _ _ => ?_)
       refine h_two 7 15 (by kernel_rfl) ?_ ?_
       ·
        refine h_to 7 rfl rfl rfl rfl rfl rfl (s_app (e := 3) (sz := 1) (by_ := 8) (m := 0) (k := K.length) (olds := []) tok (K.flatMap encI64) rfl (fun E w1 hm => hK.sl.src hm.get) (fun _ _ _ => int_ones K) (by omega)) (.inr fun _ _ => ⟨(by repeat (first | exact SubO.nil | refine SubO.cons rfl ?_)), rfl, Vw.le.refl _⟩) (fun _ _ => ?_)
        refine h_two 13 15 (by kernel_rfl) ?_ ?_
        ·
         refine h_to 13 rfl rfl rfl rfl rfl rfl (s_app (e := 3) (sz := 1) (by_ := 8) (m := 0) (k := 0) (olds := []) tok ([] : List Value) rfl (fun E w1 hm => hF.sl.src hm.get) (fun _ _ _ => by simp) (by omega)) (.inr fun _ _ => ⟨(by repeat (first | exact SubO.nil | refine SubO.cons rfl ?_)), rfl, Vw.le.refl _⟩) (fun _ _ => ?_)
         refine h_two 14 15 (by kernel_rfl) ?_ ?_
         ·
          refine h_yield 14 rfl rfl rfl rfl (y_val tok rfl) ?_
          refine h_one 15 (by kernel_rfl) ?_
          refine h_new 15 tok rfl rfl rfl rfl rfl rfl ?_
          refine h_one 16 (by kernel_rfl) ?_
          refine h_store 16 tok rfl rfl rfl rfl (by repeat' first | exact trivial | exact rfl | apply And.intro) (.inr ⟨(by repeat (first | exact SubO.nil | refine SubO.cons rfl ?_)), rfl, Vw.le.refl _⟩) ?_
          refine h_done [1, 2, 3] (by kernel_rfl) rfl ?_
          refine k_swap 2 4 rfl ?_
          refine k_swap 3 5 rfl ?_
          refine k_swap 4 5 rfl ?_
          refine k_swap 5 6 rfl ?_
          exact x_meet () trivial (by repeat (first | exact SubF.nil | refine SubF.cons rfl ?_)) (by repeat (first | exact SubO.nil | refine SubO.cons rfl ?_)) rfl (Vw.le.refl _)
         ·
          refine h_new 15 tok rfl rfl rfl rfl rfl rfl ?_
          refine h_one 14 (by kernel_rfl) ?_
          refine h_yield 14 rfl rfl rfl rfl (y_val tok rfl) ?_
          refine h_one 16 (by kernel_rfl) ?_
          refine h_store 16 tok rfl rfl rfl rfl (by repeat' first | exact trivial | exact rfl | apply And.intro) (.inr ⟨(by repeat (first | exact SubO.nil | refine SubO.cons rfl ?_)), rfl, Vw.le.refl _⟩) ?_
          refine h_done [1, 2, 3] (by kernel_rfl) rfl ?_
          refine k_swap 2 4 rfl ?_
          refine k_swap 3 5 rfl ?_
          refine k_swap 4 5 rfl ?_
          refine k_swap 5 6 rfl ?_
          exact x_meet () trivial (by repeat (first | exact SubF.nil | refine SubF.cons rfl ?_)) (by repeat (first | exact SubO.nil | refine SubO.cons rfl ?_)) rfl (Vw.le.refl _)
        ·
         refine h_new 15 tok rfl rfl rfl rfl rfl rfl ?_
         refine h_one 13 (by kernel_rfl) ?_
         refine h_to 13 rfl rfl rfl rfl rfl rfl (s_app (e := 3) (sz := 1) (by_ := 8) (m := 0) (k := 0) (olds := []) tok ([] : List Value) rfl (fun E w1 hm => hF.sl.src hm.get) (fun _ _ _ => by simp) (by omega)) (.inr fun _ _ => ⟨(by repeat (first | exact SubO.nil | refine SubO.cons rfl ?_)), rfl, Vw.le.refl _⟩) (fun _ _ => ?_)
         refine h_one 14 (by kernel_rfl) ?_
         refine h_yield 14 rfl rfl rfl rfl (y_val tok rfl) ?_
         refine h_one 16 (by kernel_rfl) ?_
         refine h_store 16 tok rfl rfl rfl rfl (by repeat' first | exact trivial | exact rfl | apply And.intro) (.inr ⟨(by repeat (first | exact SubO.nil | refine SubO.cons rfl ?_)), rfl, Vw.le.refl _⟩) ?_
         refine h_done [1, 2, 3] (by kernel_rfl) rfl ?_
         refine k_swap 2 4 rfl ?_
         refine k_swap 3 5 rfl ?_
         refine k_swap 4 5 rfl ?_
         refine k_swap 5 6 rfl ?_
         refine k_swap 7 8 rfl ?_
         exact x_meet () trivial (by repeat (first | exact SubF.nil | refine SubF.cons rfl ?_)) (by repeat (first | exact SubO.nil | refine SubO.cons rfl ?_)) rfl (Vw.le.refl _)
       ·
        refine h_new 15 tok rfl rfl rfl rfl rfl rfl ?_
        refine h_one 7 (by kernel_rfl) ?_
        refine h_to 7 rfl rfl rfl rfl rfl rfl (s_app (e := 3) (sz := 1) (by_ := 8) (m := 0) (k := K.length) (olds := []) tok (K.flatMap encI64) rfl (fun E w1 hm => hK.sl.src hm.get) (fun _ _ _ => int_ones K) (by omega)) (.inr fun _ _ => ⟨(by repeat (first | exact SubO.nil | refine SubO.cons rfl ?_)), rfl, Vw.le.refl _⟩) (fun _ _ => ?_)
        refine h_one 13 (by kernel_rfl) ?_
        refine h_to 13 rfl rfl rfl rfl rfl rfl (s_app (e := 3) (sz := 1) (by_ := 8) (m := 0) (k := 0) (olds := []) tok ([] : List Value) rfl (fun E w1 hm => hF.sl.src hm.get) (fun _ _ _ => by simp) (by omega)) (.inr fun _ _ => ⟨(by repeat (first | exact SubO.nil | refine SubO.cons rfl ?_)), rfl, Vw.le.refl _⟩) (fun _ _ => ?_)
        refine h_one 14 (by kernel_rfl) ?_
        refine h_yield 14 rfl rfl rfl rfl (y_val tok rfl) ?_
        refine h_one 16 (by kernel_rfl) ?_
        refine h_store 16 tok rfl rfl rfl rfl (by repeat' first | exact trivial | exact rfl | apply And.intro) (.inr ⟨(by repeat (first | exact SubO.nil | refine SubO.cons rfl ?_)), rfl, Vw.le.refl _⟩) ?_
        refine h_done [1, 2, 3] (by kernel_rfl) rfl ?_
        refine k_swap 2 4 rfl ?_
        refine k_swap 3 5 rfl ?_
        refine k_swap 4 5 rfl ?_
        refine k_swap 5 7 rfl ?_
        refine k_swap 6 7 rfl ?_
        refine k_swap 7 8 rfl ?_
        exact x_meet () trivial (by repeat (first | exact SubF.nil | refine SubF.cons rfl ?_)) (by repeat (first | exact SubO.nil | refine SubO.cons rfl ?_)) rfl (Vw.le.refl _)
      ·
       refine h_new 15 tok rfl rfl rfl rfl rfl rfl ?_
       refine h_one 3 (by kernel_rfl) ?_
       refine h_to 3 rfl rfl rfl rfl rfl rfl (s_app (e := 9) (sz := 1) (by_ := 16) (m := 0) (k := S.length) (olds := []) tok (S.flatMap encS) rfl (fun E w1 hm => hS.sl.src hm.get) (fun _ _ _ => str_ones S) (by omega)) (.inr fun _ _ => ⟨(by repeat (first | exact SubO.nil | refine SubO.cons rfl ?_)), rfl, Vw.le.refl _⟩) (fun _ _ => ?_)
       refine h_one 7 (by kernel_rfl) ?_
       refine h_to 7 rfl rfl rfl rfl rfl rfl (s_app (e := 3) (sz := 1) (by_ := 8) (m := 0) (k := K.length) (olds := []) tok (K.flatMap encI64) rfl (fun E w1 hm => hK.sl.src hm.get) (fun _ _ _ => int_ones K) (by omega)) (.inr fun _ _ => ⟨(by repeat (first | exact SubO.nil | refine SubO.cons rfl ?_)), rfl, Vw.le.refl _⟩) (fun _ _ => ?_)
       refine h_one 13 (by kernel_rfl) ?_
       refine h_to 13 rfl rfl rfl rfl rfl rfl (s_app (e := 3) (sz := 1) (by_ := 8) (m := 0) (k := 0) (olds := []) tok ([] : List Value) rfl (fun E w1 hm => hF.sl.src hm.get) (fun _ _ _ => by simp) (by omega)) (.inr fun _ _ => ⟨(by repeat (first | exact SubO.nil | refine SubO.cons rfl ?_)), rfl, Vw.le.refl _⟩) (fun _ _ => ?_)
       refine h_one 14 (by kernel_rfl) ?_
       refine h_yield 14 rfl rfl rfl rfl (y_val tok rfl) ?_
       refine h_one 16 (by kernel_rfl) ?_
       refine h_store 16 tok rfl rfl rfl rfl (by repeat' first | exact trivial | exact rfl | apply And.intro) (.inr ⟨(by repeat (first | exact SubO.nil | refine SubO.cons rfl ?_)), rfl, Vw.le.refl _⟩) ?_
       refine h_done [1, 2, 3] (by kernel_rfl) rfl ?_
       refine k_swap 2 4 rfl ?_
       refine k_swap 3 6 rfl ?_
       refine k_swap 4 6 rfl ?_
       refine k_swap 5 7 rfl ?_
       refine k_swap 7 8 rfl ?_
       exact x_meet () trivial (by repeat (first | exact SubF.nil | refine SubF.cons rfl ?_)) (by repeat (first | exact SubO.nil | refine SubO.cons rfl ?_)) rfl (Vw.le.refl _)
     ·
      refine h_new 15 tok rfl rfl rfl rfl rfl rfl ?_
      refine h_one 0 (by kernel_rfl) ?_
      refine h_to 0 rfl rfl rfl rfl rfl rfl (s_bs tok 1 rfl rfl rfl) (.inr fun _ _ => ⟨(by repeat (first | exact SubO.nil | refine SubO.cons rfl ?_)), rfl, Vw.le.refl _⟩) (fun _ _ => ?_)
      refine h_one 3 (by kernel_rfl) ?_
      refine h_to 3 rfl rfl rfl rfl rfl rfl (s_app (e := 9) (sz := 1) (by_ := 16) (m := 0) (k := S.length) (olds := []) tok (S.flatMap encS) rfl (fun E w1 hm => hS.sl.src hm.get) (fun _ _ _ => str_ones S) (by omega)) (.inr fun _ _ => ⟨(by repeat (first | exact SubO.nil | refine SubO.cons rfl ?_)), rfl, Vw.le.refl _⟩) (fun _ _ => ?_)
      refine h_one 7 (by kernel_rfl) ?_
      refine h_to 7 rfl rfl rfl rfl rfl rfl (s_app (e := 3) (sz := 1) (by_ := 8) (m := 0) (k := K.length) (olds := []) tok (K.flatMap encI64) rfl (fun E w1 hm => hK.sl.src hm.get) (fun _ _ _ => int_ones K) (by omega)) (.inr fun _ _ => ⟨(by repeat (first | exact SubO.nil | refine SubO.cons rfl ?_)), rfl, Vw.le.refl _⟩) (fun _ _ => ?_)
      refine h_one 13 (by kernel_rfl) ?_
      refine h_to 13 rfl rfl rfl rfl rfl rfl (s_app (e := 3) (sz := 1) (by_ := 8) (m := 0) (k := 0) (olds := []) tok ([] : List Value) rfl (fun E w1 hm => hF.sl.src hm.get) (fun _ _ _ => by simp) (by omega)) (.inr fun _ _ => ⟨(by repeat (first | exact SubO.nil | refine SubO.cons rfl ?_)), rfl, Vw.le.refl _⟩) (fun _ _ => ?_)
      refine h_one 14 (by kernel_rfl) ?_
      refine h_yield 14 rfl rfl rfl rfl (y_val tok rfl) ?_
      refine h_one 16 (by kernel_rfl) ?_
      refine h_store 16 tok rfl rfl rfl rfl (by repeat' first | exact trivial | exact rfl | apply And.intro) (.inr ⟨(by repeat (first | exact SubO.nil | refine SubO.cons rfl ?_)), rfl, Vw.le.refl _⟩) ?_
      refine h_done [1, 2, 3] (by kernel_rfl) rfl ?_
      refine k_swap 2 5 rfl ?_
      refine k_swap 3 6 rfl ?_
      refine k_swap 4 6 rfl ?_
      refine k_swap 5 7 rfl ?_
      refine k_swap 6 7 rfl ?_
      refine k_swap 7 8 rfl ?_
      exact x_meet () trivial (by repeat (first | exact SubF.nil | refine SubF.cons rfl ?_)) (by repeat (first | exact SubO.nil | refine SubO.cons rfl ?_)) rfl (Vw.le.refl _)
    ·
     refine h_new 15 tok rfl rfl rfl rfl rfl rfl ?_
     refine h_two 0 4 (by kernel_rfl) ?_ ?_
     ·
      refine h_to 0 rfl rfl rfl rfl rfl rfl (s_bs tok 1 rfl rfl rfl) (.inr fun _ _ => ⟨(by repeat (first | exact SubO.nil | refine SubO.cons rfl ?_)), rfl, Vw.le.refl _⟩) (fun _ _ => ?_)
      refine h_two 3 4 (by kernel_rfl) ?_ ?_
      ·
       refine h_to 3 rfl rfl rfl rfl rfl rfl (s_app (e := 9) (sz := 1) (by_ := 16) (m := 0) (k := S.length) (olds := []) tok (S.flatMap encS) rfl (fun E w1 hm => hS.sl.src hm.get) (fun _ _ _ => str_ones S) (by omega)) (.inr fun _ _ => ⟨(by repeat (first | exact SubO.nil | refine SubO.cons rfl ?_)), rfl, Vw.le.refl _⟩) (fun _ _ => ?_)
       refine h_one 4 (by kernel_rfl) ?_
       refine h_to 4 rfl rfl rfl rfl rfl rfl (s_bs tok 1 rfl rfl rfl) (.inr fun _ _ => ⟨(by repeat (first | exact SubO.nil | refine SubO.cons rfl ?_)), rfl, Vw.le.refl _⟩) (fun _ _ => ?_)
       refine h_one 7 (by kernel_rfl) ?_
       refine h_to 7 rfl rfl rfl rfl rfl rfl (s_app (e := 3) (sz := 1) (by_ := 8) (m := 0) (k := K.length) (olds := []) tok (K.flatMap encI64) rfl (fun E w1 hm => hK.sl.src hm.get) (fun _ _ _ => int_ones K) (by omega)) (.inr fun _ _ => ⟨(by repeat (first | exact SubO.nil | refine SubO.cons rfl ?_)), rfl, Vw.le.refl _⟩) (fun _ _ => ?_)
       refine h_one 13 (by kernel_rfl) ?_
       refine h_to 13 rfl rfl rfl rfl rfl rfl (s_app (e := 3) (sz := 1) (by_ := 8) (m := 0) (k := 0) (olds := []) tok ([] : List Value) rfl (fun E w1 hm => hF.sl.src hm.get) (fun _ _ _ => by simp) (by omega)) (.inr fun _ _ => ⟨(by repeat (first | exact SubO.nil | refine SubO.cons rfl ?_)), rfl, Vw.le.refl _⟩) (fun _ _ => ?_)
       refine h_one 14 (by kernel_rfl) ?_
       refine h_yield 14 rfl rfl rfl rfl (y_val tok rfl) ?_
       refine h_one 16 (by kernel_rfl) ?_
       refine h_store 16 tok rfl rfl rfl rfl (by repeat' first | exact trivial | exact rfl | apply And.intro) (.inr ⟨(by repeat (first | exact SubO.nil | refine SubO.cons rfl ?_)), rfl, Vw.le.refl _⟩) ?_
       refine h_done [1, 2, 3] (by kernel_rfl) rfl ?_
       refine k_swap 2 4 rfl ?_
       refine k_swap 3 5 rfl ?_
       refine k_swap 4 6 rfl ?_
       refine k_swap 5 7 rfl ?_
       refine k_swap 7 8 rfl ?_
       exact x_meet () trivial (by repeat (first | exact SubF.nil | refine SubF.cons rfl ?_)) (by repeat (first | exact SubO.nil | refine SubO.cons rfl ?_)) rfl (Vw.le.refl _)
      ·
       refine h_to 4 rfl rfl rfl rfl rfl rfl (s_bs tok 1 rfl rfl rfl) (.inr fun _ _ => ⟨(by repeat (first | exact SubO.nil | refine SubO.cons rfl ?_)), rfl, Vw.le.refl _⟩) (fun _ _ => ?_)
       refine h_one 3 (by kernel_rfl) ?_
       refine h_to 3 rfl rfl rfl rfl rfl rfl (s_app (e := 9) (sz := 1) (by_ := 16) (m := 0) (k := S.length) (olds := []) tok (S.flatMap encS) rfl (fun E w1 hm => hS.sl.src hm.get) (fun _ _ _ => str_ones S) (by omega)) (.inr fun _ _ => ⟨(by repeat (first | exact SubO.nil | refine SubO.cons rfl ?_)), rfl, Vw.le.refl _⟩) (fun _ _ => ?_)
       refine h_one 7 (by kernel_rfl) ?_
       refine h_to 7 rfl rfl rfl rfl rfl rfl (s_app (e := 3) (sz := 1) (by_ := 8) (m := 0) (k := K.length) (olds := []) tok (K.flatMap encI64) rfl (fun E w1 hm => hK.sl.src hm.get) (fun _ _ _ => int_ones K) (by omega)) (.inr fun _ _ => ⟨(by repeat (first | exact SubO.nil | refine SubO.cons rfl ?_)), rfl, Vw.le.refl _⟩) (fun _ _ => ?_)
       refine h_one 13 (by kernel_rfl) ?_
       refine h_to 13 rfl rfl rfl rfl rfl rfl (s_app (e := 3) (sz := 1) (by_ := 8) (m := 0) (k := 0) (olds := []) tok ([] : List Value) rfl (fun E w1 hm => hF.sl.src hm.get) (fun _ _ _ => by simp) (by omega)) (.inr fun _ _ => ⟨(by repeat (first | exact SubO.nil | refine SubO.cons rfl ?_)), rfl, Vw.le.refl _⟩) (fun _ _ => ?_)
       refine h_one 14 (by kernel_rfl) ?_
       refine h_yield 14 rfl rfl rfl rfl (y_val tok rfl) ?_
       refine h_one 16 (by kernel_rfl) ?_
       refine h_store 16 tok rfl rfl rfl rfl (by repeat' first | exact trivial | exact rfl | apply And.intro) (.inr ⟨(by repeat (first | exact SubO.nil | refine SubO.cons rfl ?_)), rfl, Vw.le.refl _⟩) ?_
       refine h_done [1, 2, 3] (by kernel_rfl) rfl ?_
       refine k_swap 2 4 rfl ?_
       refine k_swap 3 6 rfl ?_
       refine k_swap 4 5 rfl ?_
       refine k_swap 5 7 rfl ?_
       refine k_swap 6 7 rfl ?_
       refine k_swap 7 8 rfl ?_
       exact x_meet () trivial (by repeat (first | exact SubF.nil | refine SubF.cons rfl ?_)) (by repeat (first | exact SubO.nil | refine SubO.cons rfl ?_)) rfl (Vw.le.refl _)
     ·
      refine h_to 4 rfl rfl rfl rfl rfl rfl (s_bs tok 1 rfl rfl rfl) (.inr fun _ _ => ⟨(by repeat (first | exact SubO.nil | refine SubO.cons rfl ?_)), rfl, Vw.le.refl _⟩) (fun _ _ => ?_)
      refine h_one 0 (by kernel_rfl) ?_
      refine h_to 0 rfl rfl rfl rfl rfl rfl (s_bs tok 1 rfl rfl rfl) (.inr fun _ _ => ⟨(by repeat (first | exact SubO.nil | refine SubO.cons rfl ?_)), rfl, Vw.le.refl _⟩) (fun _ _ => ?_)
      refine h_one 3 (by kernel_rfl) ?_
      refine h_to 3 rfl rfl rfl rfl rfl rfl (s_app (e := 9) (sz := 1) (by_ := 16) (m := 0) (k := S.length) (olds := []) tok (S.flatMap encS) rfl (fun E w1 hm => hS.sl.src hm.get) (fun _ _ _ => str_ones S) (by omega)) (.inr fun _ _ => ⟨(by repeat (first | exact SubO.nil | refine SubO.cons rfl ?_)), rfl, Vw.le.refl _⟩) (fun _ _ => ?_)
      refine h_one 7 (by kernel_rfl) ?_
      refine h_to 7 rfl rfl rfl rfl rfl rfl (s_app (e := 3) (sz := 1) (by_ := 8) (m := 0) (k := K.length) (olds := []) tok (K.flatMap encI64) rfl (fun E w1 hm => hK.sl.src hm.get) (fun _ _ _ => int_ones K) (by omega)) (.inr fun _ _ => ⟨(by repeat (first | exact SubO.nil | refine SubO.cons rfl ?_)), rfl, Vw.le.refl _⟩) (fun _ _ => ?_)
      refine h_one 13 (by kernel_rfl) ?_
      refine h_to 13 rfl rfl rfl rfl rfl rfl (s_app (e := 3) (sz := 1) (by_ := 8) (m := 0) (k := 0) (olds := []) tok ([] : List Value) rfl (fun E w1 hm => hF.sl.src hm.get) (fun _ _ _ => by simp) (by omega)) (.inr fun _ _ => ⟨(by repeat (first | exact SubO.nil | refine SubO.cons rfl ?_)), rfl, Vw.le.refl _⟩) (fun _ _ => ?_)
      refine h_one 14 (by kernel_rfl) ?_
      refine h_yield 14 rfl rfl rfl rfl (y_val tok rfl) ?_
      refine h_one 16 (by kernel_rfl) ?_
      refine h_store 16 tok rfl rfl rfl rfl (by repeat' first | exact trivial | exact rfl | apply And.intro) (.inr ⟨(by repeat (first | exact SubO.nil | refine SubO.cons rfl ?_)), rfl, Vw.le.refl _⟩) ?_
      refine h_done [1, 2, 3] (by kernel_rfl) rfl ?_
      refine k_swap 2 5 rfl ?_
      refine k_swap 3 6 rfl ?_
      refine k_swap 5 7 rfl ?_
      refine k_swap 6 7 rfl ?_
      refine k_swap 7 8 rfl ?_
      exact x_meet () trivial (by repeat (first | exact SubF.nil | refine SubF.cons rfl ?_)) (by repeat (first | exact SubO.nil | refine SubO.cons rfl ?_)) rfl (Vw.le.refl _)
   ·
    refine h_new 15 tok rfl rfl rfl rfl rfl rfl ?_
    refine h_three 0 4 10 (by kernel_rfl) ?_ ?_ ?_
    ·
     refine h_to 0 rfl rfl rfl rfl rfl rfl (s_bs tok 1 rfl rfl rfl) (.inr fun _ _ => ⟨(by repeat (first | exact SubO.nil | refine SubO.cons rfl ?_)), rfl, Vw.le.refl _⟩) (fun _ _ => ?_)
     refine h_three 3 4 10 (by kernel_rfl) ?_ ?_ ?_
     ·
      refine h_to 3 rfl rfl rfl rfl rfl rfl (s_app (e := 9) (sz := 1) (by_ := 16) (m := 0) (k := S.length) (olds := []) tok (S.flatMap encS) rfl (fun E w1 hm => hS.sl.src hm.get) (fun _ _ _ => str_ones S) (by omega)) (.inr fun _ _ => ⟨(by repeat (first | exact SubO.nil | refine SubO.cons rfl ?_)), rfl, Vw.le.refl _⟩) (fun _ _ => ?_)
      refine h_two 4 10 (by kernel_rfl) ?_ ?_
      ·
       refine h_to 4 rfl rfl rfl rfl rfl rfl (s_bs tok 1 rfl rfl rfl) (.inr fun _ _ => ⟨(by repeat (first | exact SubO.nil | refine SubO.cons rfl ?_)), rfl, Vw.le.refl _⟩) (fun _ _ => ?_)
       refine h_two 7 10 (by kernel_rfl) ?_ ?_
       ·
        refine h_to 7 rfl rfl rfl rfl rfl rfl (s_app (e := 3) (sz := 1) (by_ := 8) (m := 0) (k := K.length) (olds := []) tok (K.flatMap encI64) rfl (fun E w1 hm => hK.sl.src hm.get) (fun _ _ _ => int_ones K) (by omega)) (.inr fun _ _ => ⟨(by repeat (first | exact SubO.nil | refine SubO.cons rfl ?_)), rfl, Vw.le.refl _⟩) (fun _ _ => ?_)
        refine h_one 10 (by kernel_rfl) ?_
        refine h_to 10 rfl rfl rfl rfl rfl rfl (s_bs tok 1 rfl rfl rfl) (.inr fun _ _ => ⟨(by repeat (first | exact SubO.nil | refine SubO.cons rfl ?_)), rfl, Vw.le.refl _⟩) (fun _ _ => ?_)
        refine h_one 13 (by kernel_rfl) ?_
        refine h_to 13 rfl rfl rfl rfl rfl rfl (s_app (e := 3) (sz := 1) (by_ := 8) (m := 0) (k := 0) (olds := []) tok ([] : List Value) rfl (fun E w1 hm => hF.sl.src hm.get) (fun _ _ _ => by simp) (by omega)) (.inr fun _ _ => ⟨(by repeat (first | exact SubO.nil | refine SubO.cons rfl ?_)), rfl, Vw.le.refl _⟩) (fun _ _ => ?_)
        refine h_one 14 (by kernel_rfl) ?_
        refine h_yield 14 rfl rfl rfl rfl (y_val tok rfl) ?_
        refine h_one 16 (by kernel_rfl) ?_
        refine h_store 16 tok rfl rfl rfl rfl (by repeat' first | exact trivial | exact rfl | apply And.intro) (.inr ⟨(by repeat (first | exact SubO.nil | refine SubO.cons rfl ?_)), rfl, Vw.le.refl _⟩) ?_
        refine h_done [1, 2, 3] (by kernel_rfl) rfl ?_
        refine k_swap 2 3 rfl ?_
        refine k_swap 3 4 rfl ?_
        refine k_swap 4 5 rfl ?_
        refine k_swap 5 6 rfl ?_
        refine k_swap 6 7 rfl ?_
        refine k_swap 7 8 rfl ?_
        exact x_meet () trivial (by repeat (first | exact SubF.nil | refine SubF.cons rfl ?_)) (by repeat (first | exact SubO.nil | refine SubO.cons rfl ?_)) rfl (Vw.le.refl _)
       ·
        refine h_to 10 rfl rfl rfl rfl rfl rfl (s_bs tok 1 rfl rfl rfl) (.inr fun _ _ => ⟨(by repeat (first | exact SubO.nil | refine SubO.cons rfl ?_)), rfl, Vw.le.refl _⟩) (fun _ _ => ?_)
        refine h_one 7 (by kernel_rfl) ?_
        refine h_to 7 rfl rfl rfl rfl rfl rfl (s_app (e := 3) (sz := 1) (by_ := 8) (m := 0) (k := K.length) (olds := []) tok (K.flatMap encI64) rfl (fun E w1 hm => hK.sl.src hm.get) (fun _ _ _ => int_ones K) (by omega)) (.inr fun _ _ => ⟨(by repeat (first | exact SubO.nil | refine SubO.cons rfl ?_)), rfl, Vw.le.refl _⟩) (fun _ _ => ?_)
        refine h_one 13 (by kernel_rfl) ?_
        refine h_to 13 rfl rfl rfl rfl rfl rfl (s_app (e := 3) (sz := 1) (by_ := 8) (m := 0) (k := 0) (olds := []) tok ([] : List Value) rfl (fun E w1 hm => hF.sl.src hm.get) (fun _ _ _ => by simp) (by omega)) (.inr fun _ _ => ⟨(by repeat (first | exact SubO.nil | refine SubO.cons rfl ?_)), rfl, Vw.le.refl _⟩) (fun _ _ => ?_)
        refine h_one 14 (by kernel_rfl) ?_
        refine h_yield 14 rfl rfl rfl rfl (y_val tok rfl) ?_
        refine h_one 16 (by kernel_rfl) ?_
        refine h_store 16 tok rfl rfl rfl rfl (by repeat' first | exact trivial | exact rfl | apply And.intro) (.inr ⟨(by repeat (first | exact SubO.nil | refine SubO.cons rfl ?_)), rfl, Vw.le.refl _⟩) ?_
        refine h_done [1, 2, 3] (by kernel_rfl) rfl ?_
        refine k_swap 2 3 rfl ?_
        refine k_swap 3 4 rfl ?_
        refine k_swap 4 5 rfl ?_
        refine k_swap 5 7 rfl ?_
        refine k_swap 7 8 rfl ?_
        exact x_meet () trivial (by repeat (first | exact SubF.nil | refine SubF.cons rfl ?_)) (by repeat (first | exact SubO.nil | refine SubO.cons rfl ?_)) rfl (Vw.le.refl _)
      ·
       refine h_to 10 rfl rfl rfl rfl rfl rfl (s_bs tok 1 rfl rfl rfl) (.inr fun _ _ => ⟨(by repeat (first | exact SubO.nil | refine SubO.cons rfl ?_)), rfl, Vw.le.refl _⟩) (fun _ _ => ?_)
       refine h_one 4 (by kernel_rfl) ?_
       refine h_to 4 rfl rfl rfl rfl rfl rfl (s_bs tok 1 rfl rfl rfl) (.inr fun _ _ => ⟨(by repeat (first | exact SubO.nil | refine SubO.cons rfl ?_)), rfl, Vw.le.refl _⟩) (fun _ _ => ?_)
       refine h_one 7 (by kernel_rfl) ?_
       refine h_to 7 rfl rfl rfl rfl rfl rfl (s_app (e := 3) (sz := 1) (by_ := 8) (m := 0) (k := K.length) (olds := []) tok (K.flatMap encI64) rfl (fun E w1 hm => hK.sl.src hm.get) (fun _ _ _ => int_ones K) (by omega)) (.inr fun _ _ => ⟨(by repeat (first | exact SubO.nil | refine SubO.cons rfl ?_)), rfl, Vw.le.refl _⟩) (fun _ _ => ?_)
       refine h_one 13 (by kernel_rfl) ?_
       refine h_to 13 rfl rfl rfl rfl rfl rfl (s_app (e := 3) (sz := 1) (by_ := 8) (m := 0) (k := 0) (olds := []) tok ([] : List Value) rfl (fun E w1 hm => hF.sl.src hm.get) (fun _ _ _ => by simp) (by omega)) (.inr fun _ _ => ⟨(by repeat (first | exact SubO.nil | refine SubO.cons rfl ?_)), rfl, Vw.le.refl _⟩) (fun _ _ => ?_)
       refine h_one 14 (by kernel_rfl) ?_
       refine h_yield 14 rfl rfl rfl rfl (y_val tok rfl) ?_
       refine h_one 16 (by kernel_rfl) ?_
       refine h_store 16 tok rfl rfl rfl rfl (by repeat' first | exact trivial | exact rfl | apply And.intro) (.inr ⟨(by repeat (first | exact SubO.nil | refine SubO.cons rfl ?_)), rfl, Vw.le.refl _⟩) ?_
       refine h_done [1, 2, 3] (by kernel_rfl) rfl ?_
       refine k_swap 2 3 rfl ?_
       refine k_swap 3 4 rfl ?_
       refine k_swap 4 6 rfl ?_
       refine k_swap 5 7 rfl ?_
       refine k_swap 6 7 rfl ?_
       refine k_swap 7 8 rfl ?_
       exact x_meet () trivial (by repeat (first | exact SubF.nil | refine SubF.cons rfl ?_)) (by repeat (first | exact SubO.nil | refine SubO.cons rfl ?_)) rfl (Vw.le.refl _)
     ·
      refine h_to 4 rfl rfl rfl rfl rfl rfl (s_bs tok 1 rfl rfl rfl) (.inr fun _ _ => ⟨(by repeat (first | exact SubO.nil | refine SubO.cons rfl ?_)), rfl, Vw.le.refl _⟩) (fun _ _ => ?_)
      refine h_two 3 10 (by kernel_rfl) ?_ ?_
      ·
       refine h_to 3 rfl rfl rfl rfl rfl rfl (s_app (e := 9) (sz := 1) (by_ := 16) (m := 0) (k := S.length) (olds := []) tok (S.flatMap encS) rfl (fun E w1 hm => hS.sl.src hm.get) (fun _ _ _ => str_ones S) (by omega)) (.inr fun _ _ => ⟨(by repeat (first | exact SubO.nil | refine SubO.cons rfl ?_)), rfl, Vw.le.refl _⟩) (fun _ _ => ?_)
       refine h_two 7 10 (by kernel_rfl) ?_ ?_
       ·
        refine h_to 7 rfl rfl rfl rfl rfl rfl (s_app (e := 3) (sz := 1) (by_ := 8) (m := 0) (k := K.length) (olds := []) tok (K.flatMap encI64) rfl (fun E w1 hm => hK.sl.src hm.get) (fun _ _ _ => int_ones K) (by omega)) (.inr fun _ _ => ⟨(by repeat (first | exact SubO.nil | refine SubO.cons rfl ?_)), rfl, Vw.le.refl _⟩) (fun _ _ => ?_)
        refine h_one 10 (by kernel_rfl) ?_
        refine h_to 10 rfl rfl rfl rfl rfl rfl (s_bs tok 1 rfl rfl rfl) (.inr fun _ _ => ⟨(by repeat (first | exact SubO.nil | refine SubO.cons rfl ?_)), rfl, Vw.le.refl _⟩) (fun _ _ => ?_)
        refine h_one 13 (by kernel_rfl) ?_
        refine h_to 13 rfl rfl rfl rfl rfl rfl (s_app (e := 3) (sz := 1) (by_ := 8) (m := 0) (k := 0) (olds := []) tok ([] : List Value) rfl (fun E w1 hm => hF.sl.src hm.get) (fun _ _ _ => by simp) (by omega)) (.inr fun _ _ => ⟨(by repeat (first | exact SubO.nil | refine SubO.cons rfl ?_)), rfl, Vw.le.refl _⟩) (fun _ _ => ?_)
        refine h_one 14 (by kernel_rfl) ?_
        refine h_yield 14 rfl rfl rfl rfl (y_val tok rfl) ?_
        refine h_one 16 (by kernel_rfl) ?_
        refine h_store 16 tok rfl rfl rfl rfl (by repeat' first | exact trivial | exact rfl | apply And.intro) (.inr ⟨(by repeat (first | exact SubO.nil | refine SubO.cons rfl ?_)), rfl, Vw.le.refl _⟩) ?_
        refine h_done [1, 2, 3] (by kernel_rfl) rfl ?_
        refine k_swap 2 3 rfl ?_
        refine k_swap 3 5 rfl ?_
        refine k_swap 5 6 rfl ?_
        refine k_swap 6 7 rfl ?_
        refine k_swap 7 8 rfl ?_
        exact x_meet () trivial (by repeat (first | exact SubF.nil | refine SubF.cons rfl ?_)) (by repeat (first | exact SubO.nil | refine SubO.cons rfl ?_)) rfl (Vw.le.refl _)
       ·
        refine h_to 10 rfl rfl rfl rfl rfl rfl (s_bs tok 1 rfl rfl rfl) (.inr fun _ _ => ⟨(by repeat (first | exact SubO.nil | refine SubO.cons rfl ?_)), rfl, Vw.le.refl _⟩) (fun _ _ => ?_)
        refine h_one 7 (by kernel_rfl) ?_
        refine h_to 7 rfl rfl rfl rfl rfl rfl (s_app (e := 3) (sz := 1) (by_ := 8) (m := 0) (k := K.length) (olds := []) tok (K.flatMap encI64) rfl (fun E w1 hm => hK.sl.src hm.get) (fun _ _ _ => int_ones K) (by omega)) (.inr fun _ _ => ⟨(by repeat (first | exact SubO.nil | refine SubO.cons rfl ?_)), rfl, Vw.le.refl _⟩) (fun _ _ => ?_)
        refine h_one 13 (by kernel_rfl) ?_
        refine h_to 13 rfl rfl rfl rfl rfl rfl (s_app (e := 3) (sz := 1) (by_ := 8) (m := 0) (k := 0) (olds := []) tok ([] : List Value) rfl (fun E w1 hm => hF.sl.src hm.get) (fun _ _ _ => by simp) (by omega)) (.inr fun _ _ => ⟨(by repeat (first | exact SubO.nil | refine SubO.cons rfl ?_)), rfl, Vw.le.refl _⟩) (fun _ _ => ?_)
        refine h_one 14 (by kernel_rfl) ?_
        refine h_yield 14 rfl rfl rfl rfl (y_val tok rfl) ?_
        refine h_one 16 (by kernel_rfl) ?_
        refine h_store 16 tok rfl rfl rfl rfl (by repeat' first | exact trivial | exact rfl | apply And.intro) (.inr ⟨(by repeat (first | exact SubO.nil | refine SubO.cons rfl ?_)), rfl, Vw.le.refl _⟩) ?_
        refine h_done [1, 2, 3] (by kernel_rfl) rfl ?_
        refine k_swap 2 3 rfl ?_
        refine k_swap 3 5 rfl ?_
        refine k_swap 5 7 rfl ?_
        refine k_swap 7 8 rfl ?_
        exact x_meet () trivial (by repeat (first | exact SubF.nil | refine SubF.cons rfl ?_)) (by repeat (first | exact SubO.nil | refine SubO.cons rfl ?_)) rfl (Vw.le.refl _)
      ·
       refine h_to 10 rfl rfl rfl rfl rfl rfl (s_bs tok 1 rfl rfl rfl) (.inr fun _ _ => ⟨(by repeat (first | exact SubO.nil | refine SubO.cons rfl ?_)), rfl, Vw.le.refl _⟩) (fun _ _ => ?_)
       refine h_one 3 (by kernel_rfl) ?_
       refine h_to 3 rfl rfl rfl rfl rfl rfl (s_app (e := 9) (sz := 1) (by_ := 16) (m := 0) (k := S.length) (olds := []) tok (S.flatMap encS) rfl (fun E w1 hm => hS.sl.src hm.get) (fun _ _ _ => str_ones S) (by omega)) (.inr fun _ _ => ⟨(by repeat (first | exact SubO.nil | refine SubO.cons rfl ?_)), rfl, Vw.le.refl _⟩) (fun _ _ => ?_)
       refine h_one 7 (by kernel_rfl) ?_
       refine h_to 7 rfl rfl rfl rfl rfl rfl (s_app (e := 3) (sz := 1) (by_ := 8) (m := 0) (k := K.length) (olds := []) tok (K.flatMap encI64) rfl (fun E w1 hm => hK.sl.src hm.get) (fun _ _ _ => int_ones K) (by omega)) (.inr fun _ _ => ⟨(by repeat (first | exact SubO.nil | refine SubO.cons rfl ?_)), rfl, Vw.le.refl _⟩) (fun _ _ => ?_)
       refine h_one 13 (by kernel_rfl) ?_
       refine h_to 13 rfl rfl rfl rfl rfl rfl (s_app (e := 3) (sz := 1) (by_ := 8) (m := 0) (k := 0) (olds := []) tok ([] : List Value) rfl (fun E w1 hm => hF.sl.src hm.get) (fun _ _ _ => by simp) (by omega)) (.inr fun _ _ => ⟨(by repeat (first | exact SubO.nil | refine SubO.cons rfl ?_)), rfl, Vw.le.refl _⟩) (fun _ _ => ?_)
       refine h_one 14 (by kernel_rfl) ?_
       refine h_yield 14 rfl rfl rfl rfl (y_val tok rfl) ?_
       refine h_one 16 (by kernel_rfl) ?_
       refine h_store 16 tok rfl rfl rfl rfl (by repeat' first | exact trivial | exact rfl | apply And.intro) (.inr ⟨(by repeat (first | exact SubO.nil | refine SubO.cons rfl ?_)), rfl, Vw.le.refl _⟩) ?_
       refine h_done [1, 2, 3] (by kernel_rfl) rfl ?_
       refine k_swap 2 3 rfl ?_
       refine k_swap 3 6 rfl ?_
       refine k_swap 5 7 rfl ?_
       refine k_swap 6 7 rfl ?_
       refine k_swap 7 8 rfl ?_
       exact x_meet () trivial (by repeat (first | exact SubF.nil | refine SubF.cons rfl ?_)) (by repeat (first | exact SubO.nil | refine SubO.cons rfl ?_)) rfl (Vw.le.refl _)
     ·
      refine h_to 10 rfl rfl rfl rfl rfl rfl (s_bs tok 1 rfl rfl rfl) (.inr fun _ _ => ⟨(by repeat (first | exact SubO.nil | refine SubO.cons rfl ?_)), rfl, Vw.le.refl _⟩) (fun _ _ => ?_)
      refine h_two 3 4 (by kernel_rfl) ?_ ?_
      ·
       refine h_to 3 rfl rfl rfl rfl rfl rfl (s_app (e := 9) (sz := 1) (by_ := 16) (m := 0) (k := S.length) (olds := []) tok (S.flatMap encS) rfl (fun E w1 hm => hS.sl.src hm.get) (fun _ _ _ => str_ones S) (by omega)) (.inr fun _ _ => ⟨(by repeat (first | exact SubO.nil | refine SubO.cons rfl ?_)), rfl, Vw.le.refl _⟩) (fun _ _ => ?_)
       refine h_one 4 (by kernel_rfl) ?_
       refine h_to 4 rfl rfl rfl rfl rfl rfl (s_bs tok 1 rfl rfl rfl) (.inr fun _ _ => ⟨(by repeat (first | exact SubO.nil | refine SubO.cons rfl ?_)), rfl, Vw.le.refl _⟩) (fun _ _ => ?_)
       refine h_one 7 (by kernel_rfl) ?_
       refine h_to 7 rfl rfl rfl rfl rfl rfl (s_app (e := 3) (sz := 1) (by_ := 8) (m := 0) (k := K.length) (olds := []) tok (K.flatMap encI64) rfl (fun E w1 hm => hK.sl.src hm.get) (fun _ _ _ => int_ones K) (by omega)) (.inr fun _ _ => ⟨(by repeat (first | exact SubO.nil | refine SubO.cons rfl ?_)), rfl, Vw.le.refl _⟩) (fun _ _ => ?_)
       refine h_one 13 (by kernel_rfl) ?_
       refine h_to 13 rfl rfl rfl rfl rfl rfl (s_app (e := 3) (sz := 1) (by_ := 8) (m := 0) (k := 0) (olds := []) tok ([] : List Value) rfl (fun E w1 hm => hF.sl.src hm.get) (fun _ _ _ => by simp) (by omega)) (.inr fun _ _ => ⟨(by repeat (first | exact SubO.nil | refine SubO.cons rfl ?_)), rfl, Vw.le.refl _⟩) (fun _ _ => ?_)
       refine h_one 14 (by kernel_rfl) ?_
       refine h_yield 14 rfl rfl rfl rfl (y_val tok rfl) ?_
       refine h_one 16 (by kernel_rfl) ?_
       refine h_store 16 tok rfl rfl rfl rfl (by repeat' first | exact trivial | exact rfl | apply And.intro) (.inr ⟨(by repeat (first | exact SubO.nil | refine SubO.cons rfl ?_)), rfl, Vw.le.refl _⟩) ?_
       refine h_done [1, 2, 3] (by kernel_rfl) rfl ?_
       refine k_swap 2 3 rfl ?_
       refine k_swap 3 5 rfl ?_
       refine k_swap 4 6 rfl ?_
       refine k_swap 5 7 rfl ?_
       refine k_swap 7 8 rfl ?_
       exact x_meet () trivial (by repeat (first | exact SubF.nil | refine SubF.cons rfl ?_)) (by repeat (first | exact SubO.nil | refine SubO.cons rfl ?_)) rfl (Vw.le.refl _)
      ·
       refine h_to 4 rfl rfl rfl rfl rfl rfl (s_bs tok 1 rfl rfl rfl) (.inr fun _ _ => ⟨(by repeat (first | exact SubO.nil | refine SubO.cons rfl ?_)), rfl, Vw.le.refl _⟩) (fun _ _ => ?_)
       refine h_one 3 (by kernel_rfl) ?_
       refine h_to 3 rfl rfl rfl rfl rfl rfl (s_app (e := 9) (sz := 1) (by_ := 16) (m := 0) (k := S.length) (olds := []) tok (S.flatMap encS) rfl (fun E w1 hm => hS.sl.src hm.get) (fun _ _ _ => str_ones S) (by omega)) (.inr fun _ _ => ⟨(by repeat (first | exact SubO.nil | refine SubO.cons rfl ?_)), rfl, Vw.le.refl _⟩) (fun _ _ => ?_)
       refine h_one 7 (by kernel_rfl) ?_
       refine h_to 7 rfl rfl rfl rfl rfl rfl (s_app (e := 3) (sz := 1) (by_ := 8) (m := 0) (k := K.length) (olds := []) tok (K.flatMap encI64) rfl (fun E w1 hm => hK.sl.src hm.get) (fun _ _ _ => int_ones K) (by omega)) (.inr fun _ _ => ⟨(by repeat (first | exact SubO.nil | refine SubO.cons rfl ?_)), rfl, Vw.le.refl _⟩) (fun _ _ => ?_)
       refine h_one 13 (by kernel_rfl) ?_
       refine h_to 13 rfl rfl rfl rfl rfl rfl (s_app (e := 3) (sz := 1) (by_ := 8) (m := 0) (k := 0) (olds := []) tok ([] : List Value) rfl (fun E w1 hm => hF.sl.src hm.get) (fun _ _ _ => by simp) (by omega)) (.inr fun _ _ => ⟨(by repeat (first | exact SubO.nil | refine SubO.cons rfl ?_)), rfl, Vw.le.refl _⟩) (fun _ _ => ?_)
       refine h_one 14 (by kernel_rfl) ?_
       refine h_yield 14 rfl rfl rfl rfl (y_val tok rfl) ?_
       refine h_one 16 (by kernel_rfl) ?_
       refine h_store 16 tok rfl rfl rfl rfl (by repeat' first | exact trivial | exact rfl | apply And.intro) (.inr ⟨(by repeat (first | exact SubO.nil | refine SubO.cons rfl ?_)), rfl, Vw.le.refl _⟩) ?_
       refine h_done [1, 2, 3] (by kernel_rfl) rfl ?_
       refine k_swap 2 3 rfl ?_
       refine k_swap 3 6 rfl ?_
       refine k_swap 4 5 rfl ?_
       refine k_swap 5 7 rfl ?_
       refine k_swap 6 7 rfl ?_
       refine k_swap 7 8 rfl ?_
       exact x_meet () trivial (by repeat (first | exact SubF.nil | refine SubF.cons rfl ?_)) (by repeat (first | exact SubO.nil | refine SubO.cons rfl ?_)) rfl (Vw.le.refl _)
    ·
     refine h_to 4 rfl rfl rfl rfl rfl rfl (s_bs tok 1 rfl rfl rfl) (.inr fun _ _ => ⟨(by repeat (first | exact SubO.nil | refine SubO.cons rfl ?_)), rfl, Vw.le.refl _⟩) (fun _ _ => ?_)
     refine h_two 0 10 (by kernel_rfl) ?_ ?_
     ·
      refine h_to 0 rfl rfl rfl rfl rfl rfl (s_bs tok 1 rfl rfl rfl) (.inr fun _ _ => ⟨(by repeat (first | exact SubO.nil | refine SubO.cons rfl ?_)), rfl, Vw.le.refl _⟩) (fun _ _ => ?_)
      refine h_two 3 10 (by kernel_rfl) ?_ ?_
      ·
       refine h_to 3 rfl rfl rfl rfl rfl rfl (s_app (e := 9) (sz := 1) (by_ := 16) (m := 0) (k := S.length) (olds := []) tok (S.flatMap encS) rfl (fun E w1 hm => hS.sl.src hm.get) (fun _ _ _ => str_ones S) (by omega)) (.inr fun _ _ => ⟨(by repeat (first | exact SubO.nil | refine SubO.cons rfl ?_)), rfl, Vw.le.refl _⟩) (fun _ _ => ?_)
       refine h_two 7 10 (by kernel_rfl) ?_ ?_
       ·
        refine h_to 7 rfl rfl rfl rfl rfl rfl (s_app (e := 3) (sz := 1) (by_ := 8) (m := 0) (k := K.length) (olds := []) tok (K.flatMap encI64) rfl (fun E w1 hm => hK.sl.src hm.get) (fun _ _ _ => int_ones K) (by omega)) (.inr fun _ _ => ⟨(by repeat (first | exact SubO.nil | refine SubO.cons rfl ?_)), rfl, Vw.le.refl _⟩) (fun _ _ => ?_)
        refine h_one 10 (by kernel_rfl) ?_
        refine h_to 10 rfl rfl rfl rfl rfl rfl (s_bs tok 1 rfl rfl rfl) (.inr fun _ _ => ⟨(by repeat (first | exact SubO.nil | refine SubO.cons rfl ?_)), rfl, Vw.le.refl _⟩) (fun _ _ => ?_)
        refine h_one 13 (by kernel_rfl) ?_
        refine h_to 13 rfl rfl rfl rfl rfl rfl (s_app (e := 3) (sz := 1) (by_ := 8) (m := 0) (k := 0) (olds := []) tok ([] : List Value) rfl (fun E w1 hm => hF.sl.src hm.get) (fun _ _ _ => by simp) (by omega)) (.inr fun _ _ => ⟨(by repeat (first | exact SubO.nil | refine SubO.cons rfl ?_)), rfl, Vw.le.refl _⟩) (fun _ _ => ?_)
        refine h_one 14 (by kernel_rfl) ?_
        refine h_yield 14 rfl rfl rfl rfl (y_val tok rfl) ?_
        refine h_one 16 (by kernel_rfl) ?_
        refine h_store 16 tok rfl rfl rfl rfl (by repeat' first | exact trivial | exact rfl | apply And.intro) (.inr ⟨(by repeat (first | exact SubO.nil | refine SubO.cons rfl ?_)), rfl, Vw.le.refl _⟩) ?_
        refine h_done [1, 2, 3] (by kernel_rfl) rfl ?_
        refine k_swap 2 4 rfl ?_
        refine k_swap 3 5 rfl ?_
        refine k_swap 4 5 rfl ?_
        refine k_swap 5 6 rfl ?_
        refine k_swap 6 7 rfl ?_
        refine k_swap 7 8 rfl ?_
        exact x_meet () trivial (by repeat (first | exact SubF.nil | refine SubF.cons rfl ?_)) (by repeat (first | exact SubO.nil | refine SubO.cons rfl ?_)) rfl (Vw.le.refl _)
       ·
        refine h_to 10 rfl rfl rfl rfl rfl rfl (s_bs tok 1 rfl rfl rfl) (.inr fun _ _ => ⟨(by repeat (first | exact SubO.nil | refine SubO.cons rfl ?_)), rfl, Vw.le.refl _⟩) (fun _ _ => ?_)
        refine h_one 7 (by kernel_rfl) ?_
        refine h_to 7 rfl rfl rfl rfl rfl rfl (s_app (e := 3) (sz := 1) (by_ := 8) (m := 0) (k := K.length) (olds := []) tok (K.flatMap encI64) rfl (fun E w1 hm => hK.sl.src hm.get) (fun _ _ _ => int_ones K) (by omega)) (.inr fun _ _ => ⟨(by repeat (first | exact SubO.nil | refine SubO.cons rfl ?_)), rfl, Vw.le.refl _⟩) (fun _ _ => ?_)
        refine h_one 13 (by kernel_rfl) ?_
        refine h_to 13 rfl rfl rfl rfl rfl rfl (s_app (e := 3) (sz := 1) (by_ := 8) (m := 0) (k := 0) (olds := []) tok ([] : List Value) rfl (fun E w1 hm => hF.sl.src hm.get) (fun _ _ _ => by simp) (by omega)) (.inr fun _ _ => ⟨(by repeat (first | exact SubO.nil | refine SubO.cons rfl ?_)), rfl, Vw.le.refl _⟩) (fun _ _ => ?_)
        refine h_one 14 (by kernel_rfl) ?_
        refine h_yield 14 rfl rfl rfl rfl (y_val tok rfl) ?_
        refine h_one 16 (by kernel_rfl) ?_
        refine h_store 16 tok rfl rfl rfl rfl (by repeat' first | exact trivial | exact rfl | apply And.intro) (.inr ⟨(by repeat (first | exact SubO.nil | refine SubO.cons rfl ?_)), rfl, Vw.le.refl _⟩) ?_
        refine h_done [1, 2, 3] (by kernel_rfl) rfl ?_
        refine k_swap 2 4 rfl ?_
        refine k_swap 3 5 rfl ?_
        refine k_swap 4 5 rfl ?_
        refine k_swap 5 7 rfl ?_
        refine k_swap 7 8 rfl ?_
        exact x_meet () trivial (by repeat (first | exact SubF.nil | refine SubF.cons rfl ?_)) (by repeat (first | exact SubO.nil | refine SubO.cons rfl ?_)) rfl (Vw.le.refl _)
      ·
       refine h_to 10 rfl rfl rfl rfl rfl rfl (s_bs tok 1 rfl rfl rfl) (.inr fun _ _ => ⟨(by repeat (first | exact SubO.nil | refine SubO.cons rfl ?_)), rfl, Vw.le.refl _⟩) (fun _ _ => ?_)
       refine h_one 3 (by kernel_rfl) ?_
       refine h_to 3 rfl rfl rfl rfl rfl rfl (s_app (e := 9) (sz := 1) (by_ := 16) (m := 0) (k := S.length) (olds := []) tok (S.flatMap encS) rfl (fun E w1 hm => hS.sl.src hm.get) (fun _ _ _ => str_ones S) (by omega)) (.inr fun _ _ => ⟨(by repeat (first | exact SubO.nil | refine SubO.cons rfl ?_)), rfl, Vw.le.refl _⟩) (fun _ _ => ?_)
       refine h_one 7 (by kernel_rfl) ?_
       refine h_to 7 rfl rfl rfl rfl rfl rfl (s_app (e := 3) (sz := 1) (by_ := 8) (m := 0) (k := K.length) (olds := []) tok (K.flatMap encI64) rfl (fun E w1 hm => hK.sl.src hm.get) (fun _ _ _ => int_ones K) (by omega)) (.inr fun _ _ => ⟨(by repeat (first | exact SubO.nil | refine SubO.cons rfl ?_)), rfl, Vw.le.refl _⟩) (fun _ _ => ?_)
       refine h_one 13 (by kernel_rfl) ?_
       refine h_to 13 rfl rfl rfl rfl rfl rfl (s_app (e := 3) (sz := 1) (by_ := 8) (m := 0) (k := 0) (olds := []) tok ([] : List Value) rfl (fun E w1 hm => hF.sl.src hm.get) (fun _ _ _ => by simp) (by omega)) (.inr fun _ _ => ⟨(by repeat (first | exact SubO.nil | refine SubO.cons rfl ?_)), rfl, Vw.le.refl _⟩) (fun _ _ => ?_)
       refine h_one 14 (by kernel_rfl) ?_
       refine h_yield 14 rfl rfl rfl rfl (y_val tok rfl) ?_
       refine h_one 16 (by kernel_rfl) ?_
       refine h_store 16 tok rfl rfl rfl rfl (by repeat' first | exact trivial | exact rfl | apply And.intro) (.inr ⟨(by repeat (first | exact SubO.nil | refine SubO.cons rfl ?_)), rfl, Vw.le.refl _⟩) ?_
       refine h_done [1, 2, 3] (by kernel_rfl) rfl ?_
       refine k_swap 2 4 rfl ?_
       refine k_swap 3 6 rfl ?_
       refine k_swap 4 6 rfl ?_
       refine k_swap 5 7 rfl ?_
       refine k_swap 6 7 rfl ?_
       refine k_swap 7 8 rfl ?_
       exact x_meet () trivial (by repeat (first | exact SubF.nil | refine SubF.cons rfl ?_)) (by repeat (first | exact SubO.nil | refine SubO.cons rfl ?_)) rfl (Vw.le.refl _)
     ·
      refine h_to 10 rfl rfl rfl rfl rfl rfl (s_bs tok 1 rfl rfl rfl) (.inr fun _ _ => ⟨(by repeat (first | exact SubO.nil | refine SubO.cons rfl ?_)), rfl, Vw.le.refl _⟩) (fun _ _ => ?_)
      refine h_one 0 (by kernel_rfl) ?_
      refine h_to 0 rfl rfl rfl rfl rfl rfl (s_bs tok 1 rfl rfl rfl) (.inr fun _ _ => ⟨(by repeat (first | exact SubO.nil | refine SubO.cons rfl ?_)), rfl, Vw.le.refl _⟩) (fun _ _ => ?_)
      refine h_one 3 (by kernel_rfl) ?_
      refine h_to 3 rfl rfl rfl rfl rfl rfl (s_app (e := 9) (sz := 1) (by_ := 16) (m := 0) (k := S.length) (olds := []) tok (S.flatMap encS) rfl (fun E w1 hm => hS.sl.src hm.get) (fun _ _ _ => str_ones S) (by omega)) (.inr fun _ _ => ⟨(by repeat (first | exact SubO.nil | refine SubO.cons rfl ?_)), rfl, Vw.le.refl _⟩) (fun _ _ => ?_)
      refine h_one 7 (by kernel_rfl) ?_
      refine h_to 7 rfl rfl rfl rfl rfl rfl (s_app (e := 3) (sz := 1) (by_ := 8) (m := 0) (k := K.length) (olds := []) tok (K.flatMap encI64) rfl (fun E w1 hm => hK.sl.src hm.get) (fun _ _ _ => int_ones K) (by omega)) (.inr fun _ _ => ⟨(by repeat (first | exact SubO.nil | refine SubO.cons rfl ?_)), rfl, Vw.le.refl _⟩) (fun _ _ => ?_)
      refine h_one 13 (by kernel_rfl) ?_
      refine h_to 13 rfl rfl rfl rfl rfl rfl (s_app (e := 3) (sz := 1) (by_ := 8) (m := 0) (k := 0) (olds := []) tok ([] : List Value) rfl (fun E w1 hm => hF.sl.src hm.get) (fun _ _ _ => by simp) (by omega)) (.inr fun _ _ => ⟨(by repeat (first | exact SubO.nil | refine SubO.cons rfl ?_)), rfl, Vw.le.refl _⟩) (fun _ _ => ?_)
      refine h_one 14 (by kernel_rfl) ?_
      refine h_yield 14 rfl rfl rfl rfl (y_val tok rfl) ?_
      refine h_one 16 (by kernel_rfl) ?_
      refine h_store 16 tok rfl rfl rfl rfl (by repeat' first | exact trivial | exact rfl | apply And.intro) (.inr ⟨(by repeat (first | exact SubO.nil | refine SubO.cons rfl ?_)), rfl, Vw.le.refl _⟩) ?_
      refine h_done [1, 2, 3] (by kernel_rfl) rfl ?_
      refine k_swap 2 5 rfl ?_
      refine k_swap 3 6 rfl ?_
      refine k_swap 4 6 rfl ?_
      refine k_swap 5 7 rfl ?_
      refine k_swap 7 8 rfl ?_
      exact x_meet () trivial (by repeat (first | exact SubF.nil | refine SubF.cons rfl ?_)) (by repeat (first | exact SubO.nil | refine SubO.cons rfl ?_)) rfl (Vw.le.refl _)
    ·
     refine h_to 10 rfl rfl rfl rfl rfl rfl (s_bs tok 1 rfl rfl rfl) (.inr fun _ _ => ⟨(by repeat (first | exact SubO.nil | refine SubO.cons rfl ?_)), rfl, Vw.le.refl _⟩) (fun _ _ => ?_)
     refine h_two 0 4 (by kernel_rfl) ?_ ?_
     ·
      refine h_to 0 rfl rfl rfl rfl rfl rfl (s_bs tok 1 rfl rfl rfl) (.inr fun _ _ => ⟨(by repeat (first | exact SubO.nil | refine SubO.cons rfl ?_)), rfl, Vw.le.refl _⟩) (fun _ _ => ?_)
      refine h_two 3 4 (by kernel_rfl) ?_ ?_
      ·
       refine h_to 3 rfl rfl rfl rfl rfl rfl (s_app (e := 9) (sz := 1) (by_ := 16) (m := 0) (k := S.length) (olds := []) tok (S.flatMap encS) rfl (fun E w1 hm => hS.sl.src hm.get) (fun _ _ _ => str_ones S) (by omega)) (.inr fun _ _ => ⟨(by repeat (first | exact SubO.nil | refine SubO.cons rfl ?_)), rfl, Vw.le.refl _⟩) (fun _ _ => ?_)
       refine h_one 4 (by kernel_rfl) ?_
       refine h_to 4 rfl rfl rfl rfl rfl rfl (s_bs tok 1 rfl rfl rfl) (.inr fun _ _ => ⟨(by repeat (first | exact SubO.nil | refine SubO.cons rfl ?_)), rfl, Vw.le.refl _⟩) (fun _ _ => ?_)
       refine h_one 7 (by kernel_rfl) ?_
       refine h_to 7 rfl rfl rfl rfl rfl rfl (s_app (e := 3) (sz := 1) (by_ := 8) (m := 0) (k := K.length) (olds := []) tok (K.flatMap encI64) rfl (fun E w1 hm => hK.sl.src hm.get) (fun _ _ _ => int_ones K) (by omega)) (.inr fun _ _ => ⟨(by repeat (first | exact SubO.nil | refine SubO.cons rfl ?_)), rfl, Vw.le.refl _⟩) (fun _ _ => ?_)
       refine h_one 13 (by kernel_rfl) ?_
       refine h_to 13 rfl rfl rfl rfl rfl rfl (s_app (e := 3) (sz := 1) (by_ := 8) (m := 0) (k := 0) (olds := []) tok ([] : List Value) rfl (fun E w1 hm => hF.sl.src hm.get) (fun _ _ _ => by simp) (by omega)) (.inr fun _ _ => ⟨(by repeat (first | exact SubO.nil | refine SubO.cons rfl ?_)), rfl, Vw.le.refl _⟩) (fun _ _ => ?_)
       refine h_one 14 (by kernel_rfl) ?_
       refine h_yield 14 rfl rfl rfl rfl (y_val tok rfl) ?_
       refine h_one 16 (by kernel_rfl) ?_
       refine h_store 16 tok rfl rfl rfl rfl (by repeat' first | exact trivial | exact rfl | apply And.intro) (.inr ⟨(by repeat (first | exact SubO.nil | refine SubO.cons rfl ?_)), rfl, Vw.le.refl _⟩) ?_
       refine h_done [1, 2, 3] (by kernel_rfl) rfl ?_
       refine k_swap 2 4 rfl ?_
       refine k_swap 3 5 rfl ?_
       refine k_swap 4 6 rfl ?_
       refine k_swap 5 7 rfl ?_
       refine k_swap 6 7 rfl ?_
       refine k_swap 7 8 rfl ?_
       exact x_meet () trivial (by repeat (first | exact SubF.nil | refine SubF.cons rfl ?_)) (by repeat (first | exact SubO.nil | refine SubO.cons rfl ?_)) rfl (Vw.le.refl _)
      ·
       refine h_to 4 rfl rfl rfl rfl rfl rfl (s_bs tok 1 rfl rfl rfl) (.inr fun _ _ => ⟨(by repeat (first | exact SubO.nil | refine SubO.cons rfl ?_)), rfl, Vw.le.refl _⟩) (fun _ _ => ?_)
       refine h_one 3 (by kernel_rfl) ?_
       refine h_to 3 rfl rfl rfl rfl rfl rfl (s_app (e := 9) (sz := 1) (by_ := 16) (m := 0) (k := S.length) (olds := []) tok (S.flatMap encS) rfl (fun E w1 hm => hS.sl.src hm.get) (fun _ _ _ => str_ones S) (by omega)) (.inr fun _ _ => ⟨(by repeat (first | exact SubO.nil | refine SubO.cons rfl ?_)), rfl, Vw.le.refl _⟩) (fun _ _ => ?_)
       refine h_one 7 (by kernel_rfl) ?_
       refine h_to 7 rfl rfl rfl rfl rfl rfl (s_app (e := 3) (sz := 1) (by_ := 8) (m := 0) (k := K.length) (olds := []) tok (K.flatMap encI64) rfl (fun E w1 hm => hK.sl.src hm.get) (fun _ _ _ => int_ones K) (by omega)) (.inr fun _ _ => ⟨(by repeat (first | exact SubO.nil | refine SubO.cons rfl ?_)), rfl, Vw.le.refl _⟩) (fun _ _ => ?_)
       refine h_one 13 (by kernel_rfl) ?_
       refine h_to 13 rfl rfl rfl rfl rfl rfl (s_app (e := 3) (sz := 1) (by_ := 8) (m := 0) (k := 0) (olds := []) tok ([] : List Value) rfl (fun E w1 hm => hF.sl.src hm.get) (fun _ _ _ => by simp) (by omega)) (.inr fun _ _ => ⟨(by repeat (first | exact SubO.nil | refine SubO.cons rfl ?_)), rfl, Vw.le.refl _⟩) (fun _ _ => ?_)
       refine h_one 14 (by kernel_rfl) ?_
       refine h_yield 14 rfl rfl rfl rfl (y_val tok rfl) ?_
       refine h_one 16 (by kernel_rfl) ?_
       refine h_store 16 tok rfl rfl rfl rfl (by repeat' first | exact trivial | exact rfl | apply And.intro) (.inr ⟨(by repeat (first | exact SubO.nil | refine SubO.cons rfl ?_)), rfl, Vw.le.refl _⟩) ?_
       refine h_done [1, 2, 3] (by kernel_rfl) rfl ?_
       refine k_swap 2 4 rfl ?_
       refine k_swap 3 6 rfl ?_
       refine k_swap 4 5 rfl ?_
       refine k_swap 5 7 rfl ?_
       refine k_swap 7 8 rfl ?_
       exact x_meet () trivial (by repeat (first | exact SubF.nil | refine SubF.cons rfl ?_)) (by repeat (first | exact SubO.nil | refine SubO.cons rfl ?_)) rfl (Vw.le.refl _)
     ·
      refine h_to 4 rfl rfl rfl rfl rfl rfl (s_bs tok 1 rfl rfl rfl) (.inr fun _ _ => ⟨(by repeat (first | exact SubO.nil | refine SubO.cons rfl ?_)), rfl, Vw.le.refl _⟩) (fun _ _ => ?_)
      refine h_one 0 (by kernel_rfl) ?_
      refine h_to 0 rfl rfl rfl rfl rfl rfl (s_bs tok 1 rfl rfl rfl) (.inr fun _ _ => ⟨(by repeat (first | exact SubO.nil | refine SubO.cons rfl ?_)), rfl, Vw.le.refl _⟩) (fun _ _ => ?_)
      refine h_one 3 (by kernel_rfl) ?_
      refine h_to 3 rfl rfl rfl rfl rfl rfl (s_app (e := 9) (sz := 1) (by_ := 16) (m := 0) (k := S.length) (olds := []) tok (S.flatMap encS) rfl (fun E w1 hm => hS.sl.src hm.get) (fun _ _ _ => str_ones S) (by omega)) (.inr fun _ _ => ⟨(by repeat (first | exact SubO.nil | refine SubO.cons rfl ?_)), rfl, Vw.le.refl _⟩) (fun _ _ => ?_)
      refine h_one 7 (by kernel_rfl) ?_
      refine h_to 7 rfl rfl rfl rfl rfl rfl (s_app (e := 3) (sz := 1) (by_ := 8) (m := 0) (k := K.length) (olds := []) tok (K.flatMap encI64) rfl (fun E w1 hm => hK.sl.src hm.get) (fun _ _ _ => int_ones K) (by omega)) (.inr fun _ _ => ⟨(by repeat (first | exact SubO.nil | refine SubO.cons rfl ?_)), rfl, Vw.le.refl _⟩) (fun _ _ => ?_)
      refine h_one 13 (by kernel_rfl) ?_
      refine h_to 13 rfl rfl rfl rfl rfl rfl (s_app (e := 3) (sz := 1) (by_ := 8) (m := 0) (k := 0) (olds := []) tok ([] : List Value) rfl (fun E w1 hm => hF.sl.src hm.get) (fun _ _ _ => by simp) (by omega)) (.inr fun _ _ => ⟨(by repeat (first | exact SubO.nil | refine SubO.cons rfl ?_)), rfl, Vw.le.refl _⟩) (fun _ _ => ?_)
      refine h_one 14 (by kernel_rfl) ?_
      refine h_yield 14 rfl rfl rfl rfl (y_val tok rfl) ?_
      refine h_one 16 (by kernel_rfl) ?_
      refine h_store 16 tok rfl rfl rfl rfl (by repeat' first | exact trivial | exact rfl | apply And.intro) (.inr ⟨(by repeat (first | exact SubO.nil | refine SubO.cons rfl ?_)), rfl, Vw.le.refl _⟩) ?_
      refine h_done [1, 2, 3] (by kernel_rfl) rfl ?_
      refine k_swap 2 5 rfl ?_
      refine k_swap 3 6 rfl ?_
      refine k_swap 5 7 rfl ?_
      refine k_swap 7 8 rfl ?_
      exact x_meet () trivial (by repeat (first | exact SubF.nil | refine SubF.cons rfl ?_)) (by repeat (first | exact SubO.nil | refine SubO.cons rfl ?_)) rfl (Vw.le.refl _)
  rintro ⟨⟩ -
  refine x_then ?_
  refine c_seq ?_
  refine c_seq ?_
  refine c_region ?_
  refine o_yield rfl rfl rfl (y_val tok rfl) ?_
  refine o_end [1, 2, 3, 4] rfl ?_
  refine x_then ?_
  refine c_block ?_
  rw [Nat.zero_add S.length, Nat.zero_add K.length, Nat.zero_add 0, List.nil_append, List.nil_append, List.nil_append]
  refine k_nilO 8 1 70 1 rfl rfl ?_
  refine c_loopV [1, 2, 3] [0, 1, 3, 5, 7, 8, 9] rfl rfl (σ := Nat × List (Sl Cell) × Vw) (fun (i, C, W) => [(4, .a (.v (I i)))]) (fun (i, C, W) => [(0, .lit [.v (.slice a1 n1 c1), .v (.slice a2 n2 c2), .v (.slice a3 n3 c3), .v (I nx), .v (.slice a4 n4 c4)] 35), (1, .lit [.v (.slice none 0 0), .v (.slice none 0 0), .v (.slice none 0 0), .v (I 0), .v (.slice none 0 0)] 35), (3, .row 9 1 S.length (S.flatMap encS)), (5, .row 3 1 K.length (K.flatMap encI64)), (7, .row 3 1 0 []), (8, .lit [.row 3, .row 9, .row 5, .v (I nx), .row 7] 35), (9, .row 70 1 C.length (C.flatMap Sl.enc))]) (fun (i, C, W) => W) (fun (i, C, W) => (i ≤ D.length ∧ C.length = i) ∧ (vw w).le W ∧ Copies w.heap.size W (D.take i) C) (fun (i, C, W) => D.length - i) ((0, [], vw w)) (⟨⟨by omega, rfl⟩, Vw.le.refl _, Copies.nil _ _⟩) (by repeat (first | exact SubF.nil | refine SubF.cons rfl ?_)) (by repeat (first | exact SubO.nil | refine SubO.cons rfl ?_)) rfl (Vw.le.refl _) ?_
  rintro ⟨i, C, W⟩ ⟨⟨hi, hCi⟩, hwW, hcp⟩
  dsimp only at hi hCi hwW hcp ⊢
  have hDW := hD.mono hwW
  refine c_seq ?_
  refine c_seq ?_
  refine c_region ?_
  refine o_yield rfl rfl rfl (y_val tok rfl) ?_
  refine o_yield rfl rfl rfl (y_val tok rfl) ?_
  refine o_yield rfl rfl rfl (y_val tok rfl) ?_
  refine o_yield rfl rfl rfl (y_len tok rfl (fun hg => hDW.sl)) ?_
  refine o_yield rfl rfl rfl (y_val tok rfl) ?_
  refine o_end [1, 2, 3, 4, 24] rfl ?_
  refine x_then ?_
  refine c_cond rfl (fun h => ?_) (fun h => ?_)
  ·
    simp only [Bool.and_eq_true, Bool.or_eq_true, Bool.not_eq_true', Bool.or_eq_false_iff, Bool.and_eq_false_iff, decide_eq_true_eq, decide_eq_false_iff_not, beq_iff_eq, bne_iff_ne, Bool.not_eq_false', beq_eq_false_iff_ne, bne_eq_false_iff_eq, ne_eq, Decidable.not_not, Int.not_lt, Int.not_le] at h
    refine c_skip ?_
    refine x_then ?_
    refine c_seq ?_
    refine c_block ?_
    refine c_held [12] ([(0, .lit [.v (.slice a1 n1 c1), .v (.slice a2 n2 c2), .v (.slice a3 n3 c3), .v (I nx), .v (.slice a4 n4 c4)] 35), (1, .lit [.v (.slice none 0 0), .v (.slice none 0 0), .v (.slice none 0 0), .v (I 0), .v (.slice none 0 0)] 35), (3, .row 9 1 S.length (S.flatMap encS)), (5, .row 3 1 K.length (K.flatMap encI64)), (7, .row 3 1 0 []), (8, .lit [.row 3, .row 9, .row 5, .v (I nx), .row 7] 35)]) mixed (by repeat (first | exact SubO.nil | refine SubO.cons rfl ?_)) (by first | rfl | simp [okCels, allOk_plain]) ?_
    refine t_takeD 0 rfl (by kernel_rfl) rfl rfl rfl (y_val tok rfl) rfl ?_
    refine t_takeD 1 rfl (by kernel_rfl) rfl rfl rfl (y_val tok rfl) rfl ?_
    refine t_takeD 3 rfl (by kernel_rfl) rfl rfl rfl (y_val tok rfl) rfl ?_
    refine t_takeD 4 rfl (by kernel_rfl) rfl rfl rfl (y_val tok rfl) rfl ?_
    refine t_takeD 5 rfl (by kernel_rfl) rfl rfl rfl (y_val tok rfl) rfl ?_
    obtain ⟨x, h_x⟩ := hDW.at (k := i) (by omega)
    have hwi : IntKind.i64.wrap ((i : Int) + 1) = ((i + 1 : Nat) : Int) := wrapI (by omega) (by omega)
    obtain ⟨hx1, hx2⟩ := hDs x (List.mem_of_getElem? h_x)
    have hxW := hx1.mono (hV.trans hwW)
    have hlt_x := lt_of_at h_x
    refine t_takeD 6 rfl (by kernel_rfl) rfl rfl rfl (y_idx tok rfl (fun hg => hDW.sl) (fun hg => ⟨by omega, by omega⟩)) rfl ?_
    refine t_takeD 7 rfl (by kernel_rfl) rfl rfl rfl (y_lel tok (i) 0 (x) rfl (fun hg => hDW) (fun hg => h_x) rfl rfl) rfl ?_
    refine t_go ?_
    refine h_one 2 (by kernel_rfl) ?_
    refine h_to 2 rfl rfl rfl rfl rfl rfl (s_bs tok 2 rfl rfl rfl) (.inr fun _ _ => ⟨(by repeat (first | exact SubO.nil | refine SubO.cons rfl ?_)), rfl, (by first | exact Vw.le.refl _ | assumption)⟩) (fun _ _ => ?_)
    refine h_one 8 (by kernel_rfl) ?_
    refine h_to 8 rfl rfl rfl rfl rfl rfl ((s_app (e := 83) (sz := 2) (by_ := 24) (m := 0) (k := x.l.length) (olds := []) tok (x.l.flatMap Cell.cells) rfl (fun E w1 hm => hxW.sl.src hm.get) (fun _ _ _ => cell_ones x.l) (by omega)).named rfl (fun _ => ⟨_, _, _, _, rfl⟩)) (.inr fun x hx => ⟨(by repeat (first | exact SubO.nil | refine SubO.cons rfl ?_)), rfl, (by first | exact Vw.le.refl _ | exact hx.1)⟩) (fun xa hxa => ?_)
    obtain ⟨_, b, va, vn, vc⟩ := xa
    refine h_one 9 (by kernel_rfl) ?_
    refine h_to 9 rfl rfl rfl rfl rfl rfl (s_bs tok 1 rfl rfl rfl) (.inr fun _ _ => ⟨(by repeat (first | exact SubO.nil | refine SubO.cons rfl ?_)), rfl, (by first | exact Vw.le.refl _ | assumption)⟩) (fun _ _ => ?_)
    refine h_one 10 (by kernel_rfl) ?_
    refine h_to 10 rfl rfl rfl rfl rfl rfl (s_app tok [.slice va vn vc] rfl (fun E w hm => ownsRow_src (hm.row _ _ _ _ _ rfl)) (fun _ _ _ => by intro u hu; simp only [List.mem_singleton] at hu; subst hu; rfl) (by dsimp only; omega)) (.inr fun _ _ => ⟨(by repeat (first | exact SubO.nil | refine SubO.cons rfl ?_)), rfl, (by first | exact Vw.le.refl _ | assumption)⟩) (fun _ _ => ?_)
    refine h_one 11 (by kernel_rfl) ?_
    refine h_yield 11 rfl rfl rfl rfl (y_val tok rfl) ?_
    refine h_one 12 (by kernel_rfl) ?_
    refine h_store 12 tok rfl rfl rfl rfl (by first | exact ⟨trivial, trivial⟩ | (repeat' first | exact trivial | exact rfl | apply And.intro); done | simp [onesP, oneP, lk, Value.oneCell']) (.inl rfl) ?_
    refine h_done [1, 2, 3, 4] (by kernel_rfl) rfl ?_
    refine x_block ?_
    refine x_then ?_
    refine c_region ?_
    refine o_yield rfl rfl rfl (y_val tok rfl) ?_
    refine o_yield rfl rfl rfl (y_val tok rfl) ?_
    refine o_yield rfl rfl rfl (y_val tok rfl) ?_
    refine o_end [1, 2, 3, 4] rfl ?_
    refine x_then ?_
    refine k_freezeN 11 12 b rfl rfl (fun W2 hle2 hvr hoff => ?_)
    rw [Nat.zero_add, List.nil_append] at hvr
    rw [(sl_snoc C ⟨.slice va vn vc, x.l⟩).1, (sl_snoc C ⟨.slice va vn vc, x.l⟩).2, hwi]
    refine k_swap 9 14 rfl ?_
    have hcp2 := hcp.snoc hle2 hvr (newSl_off hwW hoff) hoff
    rw [← take_succ_at h_x] at hcp2
    refine x_round ((i + 1, C ++ [⟨.slice va vn vc, x.l⟩], W2)) (⟨⟨by dsimp only; omega, by dsimp only; simp [hCi]⟩, hwW.trans hle2, hcp2⟩) (by first | omega | (dsimp only; omega)) (by repeat (first | exact SubF.nil | refine SubF.cons rfl ?_)) (by repeat (first | exact SubO.nil | refine SubO.cons rfl ?_)) rfl (Vw.le.refl _)
  ·
    simp only [Bool.and_eq_true, Bool.or_eq_true, Bool.not_eq_true', Bool.or_eq_false_iff, Bool.and_eq_false_iff, decide_eq_true_eq, decide_eq_false_iff_not, beq_iff_eq, bne_iff_ne, Bool.not_eq_false', beq_eq_false_iff_ne, bne_eq_false_iff_eq, ne_eq, Decidable.not_not, Int.not_lt, Int.not_le] at h
    refine c_exit ?_
    refine x_then_exit ?_
    refine x_then_exit ?_
    refine x_block_hit ?_
    refine x_then ?_
    refine c_seq ?_
    refine c_region ?_
    refine o_yield rfl rfl rfl (y_val tok rfl) ?_
    refine o_store tok rfl rfl rfl (by first | exact ⟨trivial, trivial⟩ | (repeat' first | exact trivial | exact rfl | apply And.intro); done | simp [onesP, oneP, lk, Value.oneCell']) ?_
    refine o_end [2] rfl ?_
    refine x_then ?_
    refine c_ret ?_
    refine b_ret tok rfl ?_
    have hil : i = D.length := by omega
    subst hil
    rw [List.take_length] at hcp
    intro E' w' hm _
    exact ⟨C, W, E', rfl, rfl, (hm.below hwW).size, hm.weak (by repeat (first | exact SubO.nil | refine SubO.cons rfl ?_)) rfl (Vw.le.refl _), hwW, fun V' hN => hcp.newIn hbase hN⟩
end Go.Proofs.Ytipmgnhbcaniiaa
