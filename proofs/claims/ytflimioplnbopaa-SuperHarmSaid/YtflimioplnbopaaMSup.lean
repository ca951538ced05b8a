import Derived.Test.YtflimioplnbopaaMMake
import Derived.Test.YtflimioplnbopaaEng28
import Derived.Test.YtflimioplnbopaaEng31
/- Superblocks and headers: the program's. -/
set_option linter.unusedVariables false
set_option linter.unusedSimpArgs false
set_option maxRecDepth 100000
namespace Go.Proofs.Ytflimioplnbopaa
open Go Go.Eng Go.RowKit

abbrev gW : List Int := [2, 2, 2, 2, 2, 2, 4, 4]
abbrev gNums (g : Geo) : List Int := [g.nodes, g.slots, g.blocks, g.per, g.journal, g.log, g.lease, g.wait]

theorem swidths_c (w : World) : Calls Try.prog 133 #[] w fun e w' => ∃ v, e = .returned v ∧ w'.ownsRow w.heap.size 3 1 v gW.length (gW.flatMap encI64) ∧ Below w.heap.size w w' := by
  refine enter (E := E0) (O := []) (nl := 0) (V := vw w) [] Try.func133 rfl rfl (mem0 E0 0 w) rfl rfl ?_
  refine c_seq ?_
  refine c_region ?_
  refine o_yield rfl rfl rfl (y_val tok rfl) ?_
  refine o_end [] rfl ?_
  refine x_then ?_
  refine c_seq ?_
  refine c_region ?_
  refine o_step rfl rfl rfl rfl rfl (s_bs tok 1 rfl rfl rfl) (fun _ _ => ?_)
  refine o_yield rfl rfl rfl (y_val tok rfl) ?_
  refine o_end [0] rfl ?_
  refine x_then ?_
  refine c_ret ?_
  refine b_ret tok rfl ?_
  intro E w' hm _
  exact ⟨E.κ 0, rfl, hm.rowFresh (Vw.le.refl _) (l := 0) rfl, hm.below (Vw.le.refl _)⟩

theorem shapeMay_c (g : Geo) (ok : g.Ok) (b e0 : Nat) (tl : List Value) (w : World) (hb : w.heap[b]? = some (.cells (g.cells ++ tl).toArray e0 (0, 0))) :
    Calls Try.prog 135 #[Ptr b] w fun e w' => e = .returned (.bool (geoB g)) ∧ Below w.heap.size w w' := by
  refine enter1 [.a (.ptr 0 0)] hb Try.func135 rfl rfl rfl rfl ?_
  refine c_seq ?_
  refine c_region ?_
  refine o_yield rfl rfl rfl (y_val tok rfl) ?_
  refine o_end [0] rfl ?_
  refine x_then ?_
  refine c_seq ?_
  refine c_region ?_
  refine o_yield rfl rfl rfl (y_val tok rfl) ?_
  refine o_yield rfl rfl rfl (y_val tok rfl) ?_
  refine o_yield rfl rfl rfl (y_val tok rfl) ?_
  refine o_yield rfl rfl rfl (y_val tok rfl) ?_
  refine o_call (.a (.v _)) rfl rfl fnok127 rfl rfl rfl (fun hg E w1 hm => by exact geoMay_c g ok _) ?_
  refine o_yield rfl rfl rfl (y_val tok rfl) ?_
  refine o_end [2] rfl ?_
  refine x_then ?_
  refine c_ret ?_
  refine b_ret tok rfl ?_
  intro E w' hm _
  exact ⟨rfl, below1 hb hm (Vw.le.refl _) rfl rfl rfl⟩

abbrev encP (b : Nat) (k : Nat) : List Value := [.pointer (some ⟨b, k, none⟩)]

theorem numbers_cV (V : Vw) (b : Nat) (w : World) (hV : V.le (vw w)) :
    Calls Try.prog 134 #[Ptr b] w fun e w' => ∃ x V', e = .returned x ∧ Below w.heap.size w w' ∧ Vext w.heap.size V V' w' ∧ SlOf V' (encP b) 1 x (List.range 8) := by
  have key : Calls Try.prog 134 #[Ptr b] w fun e w' => ∃ v, e = .returned v ∧ w'.ownsRow w.heap.size 194 1 v 8 ((List.range 8).flatMap (encP b)) ∧ Below w.heap.size w w' := by
    refine enter (E := E0) (O := []) (nl := 0) (V := vw w) [.a (.v (Ptr b))] Try.func134 rfl rfl (mem0 E0 0 w) rfl rfl ?_
    refine c_seq ?_
    refine c_region ?_
    refine o_yield rfl rfl rfl (y_val tok rfl) ?_
    refine o_end [0] rfl ?_
    refine x_then ?_
    refine c_seq ?_
    refine c_heldR mixed rfl (by repeat (first | exact SubO.nil | refine SubO.cons rfl ?_)) (by first | rfl | simp [okCels, allOk_plain]) ?_
    refine t_take 0 rfl (by kernel_rfl) rfl rfl rfl (y_val tok rfl) rfl ?_
    refine t_take 1 rfl (by kernel_rfl) rfl rfl rfl (y_val tok rfl) rfl ?_
    refine t_take 2 rfl (by kernel_rfl) rfl rfl rfl (y_val tok rfl) rfl ?_
    refine t_take 3 rfl (by kernel_rfl) rfl rfl rfl (y_val tok rfl) rfl ?_
    refine t_take 4 rfl (by kernel_rfl) rfl rfl rfl (y_val tok rfl) rfl ?_
    refine t_take 5 rfl (by kernel_rfl) rfl rfl rfl (y_val tok rfl) rfl ?_
    refine t_take 6 rfl (by kernel_rfl) rfl rfl rfl (y_val tok rfl) rfl ?_
    refine t_take 7 rfl (by kernel_rfl) rfl rfl rfl (y_val tok rfl) rfl ?_
    refine t_take 8 rfl (by kernel_rfl) rfl rfl rfl (y_val tok rfl) rfl ?_
    refine t_take 9 rfl (by kernel_rfl) rfl rfl rfl (y_val tok rfl) rfl ?_
    refine t_take 10 rfl (by kernel_rfl) rfl rfl rfl (y_val tok rfl) rfl ?_
    refine t_take 11 rfl (by kernel_rfl) rfl rfl rfl (y_val tok rfl) rfl ?_
    refine t_take 12 rfl (by kernel_rfl) rfl rfl rfl (y_val tok rfl) rfl ?_
    refine t_take 13 rfl (by kernel_rfl) rfl rfl rfl (y_val tok rfl) rfl ?_
    refine t_take 14 rfl (by kernel_rfl) rfl rfl rfl (y_val tok rfl) rfl ?_
    refine t_take 15 rfl (by kernel_rfl) rfl rfl rfl (y_val tok rfl) rfl ?_
    refine t_take 16 rfl (by kernel_rfl) rfl rfl rfl (y_val tok rfl) rfl ?_
    refine t_take 17 rfl (by kernel_rfl) rfl rfl rfl (y_val tok rfl) rfl ?_
    refine t_take 18 rfl (by kernel_rfl) rfl rfl rfl (y_val tok rfl) rfl ?_
    refine t_take 19 rfl (by kernel_rfl) rfl rfl rfl (y_val tok rfl) rfl ?_
    refine t_take 20 rfl (by kernel_rfl) rfl rfl rfl (y_val tok rfl) rfl ?_
    refine t_take 21 rfl (by kernel_rfl) rfl rfl rfl (y_val tok rfl) rfl ?_
    refine t_take 22 rfl (by kernel_rfl) rfl rfl rfl (y_val tok rfl) rfl ?_
    refine t_take 23 rfl (by kernel_rfl) rfl rfl rfl (y_val tok rfl) rfl ?_
    refine t_take 24 rfl (by kernel_rfl) rfl rfl rfl (y_val tok rfl) rfl ?_
    refine t_take 25 rfl (by kernel_rfl) rfl rfl rfl (y_val tok rfl) rfl ?_
    refine t_take 26 rfl (by kernel_rfl) rfl rfl rfl (y_val tok rfl) rfl ?_
    refine t_take 27 rfl (by kernel_rfl) rfl rfl rfl (y_val tok rfl) rfl ?_
    refine t_take 28 rfl (by kernel_rfl) rfl rfl rfl (y_val tok rfl) rfl ?_
    refine t_take 29 rfl (by kernel_rfl) rfl rfl rfl (y_val tok rfl) rfl ?_
    refine t_take 30 rfl (by kernel_rfl) rfl rfl rfl (y_val tok rfl) rfl ?_
    refine t_take 31 rfl (by kernel_rfl) rfl rfl rfl (y_val tok rfl) rfl ?_
    refine t_go ?_
    refine h_one 32 (by kernel_rfl) ?_
    refine h_to 32 rfl rfl rfl rfl rfl rfl (s_bs tok 1 rfl rfl rfl) (.inr fun _ _ => ⟨(by repeat (first | exact SubO.nil | refine SubO.cons rfl ?_)), rfl, (by first | exact Vw.le.refl _ | assumption)⟩) (fun _ _ => ?_)
    refine h_one 33 (by kernel_rfl) ?_
    refine h_yield 33 rfl rfl rfl rfl (y_val tok rfl) ?_
    refine h_done [2] (by kernel_rfl) rfl ?_
    refine x_then ?_
    refine c_ret ?_
    refine b_ret tok rfl ?_
    intro E w' hm _
    exact ⟨E.κ 0, rfl, hm.rowFresh (Vw.le.refl _) (l := 0) rfl, hm.below (Vw.le.refl _)⟩
  refine key.mono ?_
  rintro e w' ⟨v, rfl, hown, hb⟩
  obtain ⟨V', hx, hsl⟩ := ownsRow_vext hV hb hown
  exact ⟨v, V', rfl, hb, hx, ⟨hsl, fun _ => rfl⟩⟩

theorem numbers_cP (V : Vw) (b b' : Nat) (he : b' = b) (w : World) (hV : V.le (vw w)) :
    Calls Try.prog 134 #[Ptr b'] w fun e w' => ∃ x V', e = .returned x ∧ Below w.heap.size w w' ∧ Vext w.heap.size V V' w' ∧ SlOf V' (encP b) 1 x (List.range 8) := by
  subst he; exact numbers_cV V _ w hV

def gbV (g : Geo) : ByteArray := if geoB g = true then strOf (sealL 1 (packL gW (gNums g))) else ByteArray.empty
def gbE (g : Geo) : Int := if geoB g = true then 0 else 40

theorem gnums_fit {g : Geo} (h : geoB g = true) : ∀ (i : Nat) (k n : Int), gW[i]? = some k → (gNums g)[i]? = some n → fitsB n k = true := by
  have m2 : mostN (2 : Int).toNat = 65535 := by decide
  have m4 : mostN (4 : Int).toNat = 4294967295 := by decide
  have hf := geo_facts h
  intro i k n hk hn
  match i with
  | 0 => cases hk; cases hn; rw [fitsB, m2]; simp [widthB]; omega
  | 1 => cases hk; cases hn; rw [fitsB, m2]; simp [widthB]; omega
  | 2 => cases hk; cases hn; rw [fitsB, m2]; simp [widthB]; omega
  | 3 => cases hk; cases hn; rw [fitsB, m2]; simp [widthB]; omega
  | 4 => cases hk; cases hn; rw [fitsB, m2]; simp [widthB]; omega
  | 5 => cases hk; cases hn; rw [fitsB, m2]; simp [widthB]; omega
  | 6 => cases hk; cases hn; rw [fitsB, m4]; simp [widthB]; omega
  | 7 => cases hk; cases hn; rw [fitsB, m4]; simp [widthB]; omega
  | i + 8 => simp [gW] at hk

theorem gpack_take (g : Geo) (i : Nat) : (packL (gW.take i) ((gNums g).take i)).length ≤ 505 := by
  have h1 := pack_len (gW.take i) ((gNums g).take i)
  have h2 : ((gW.take i).map Int.toNat).sum ≤ 20 := by
    match i with
    | 0 => decide
    | 1 => decide
    | 2 => decide
    | 3 => decide
    | 4 => decide
    | 5 => decide
    | 6 => decide
    | 7 => decide
    | i + 8 => rw [List.take_of_length_le (by simp [gW])]; decide
  omega

theorem gseal (g : Geo) : sealS 1 (strOf (packL gW (gNums g)) ++ ByteArray.empty) = (strOf (sealL 1 (packL gW (gNums g))), 0) := by
  have h20 : (packL gW (gNums g)).length = 20 := by simp [packL, gW, gNums, leB, leTake_len]
  rw [sealS, if_neg (by rw [ByteArray.size_append, strOf_size]; simp; omega)]
  congr 2

theorem gcell {g : Geo} {i : Nat} {n : Int} (h : (gNums g)[i]? = some n) : (g.cells.map A.v)[i]? = some (.v (I n)) := by
  have : g.cells.map A.v = (gNums g).map fun n => A.v (I n) := rfl
  rw [this, List.getElem?_map, h]; rfl

theorem sbytes_c (g : Geo) (ok : g.Ok) (w : World) : Calls Try.prog 51 #[g.val] w fun e w' => e = .returned (.tuple #[S (gbV g), I (gbE g)]) ∧ Below w.heap.size w w' := by
  refine enter (E := E0) (O := []) (nl := 0) (V := vw w) [.a (.v g.val)] Try.func51 rfl rfl (mem0 E0 0 w) rfl rfl ?_
  refine c_seq ?_
  refine c_region ?_
  refine o_new tok rfl rfl rfl rfl ?_
  refine o_yield rfl rfl rfl (y_val tok rfl) ?_
  refine o_yield rfl rfl rfl (y_val tok rfl) ?_
  refine o_end [1] rfl ?_
  refine x_then ?_
  refine c_seq ?_
  refine c_region ?_
  refine o_yield rfl rfl rfl (y_val tok rfl) ?_
  refine o_yield rfl rfl rfl (y_val tok rfl) ?_
  refine o_new tok rfl rfl rfl rfl ?_
  refine o_yield rfl rfl rfl (y_val tok rfl) ?_
  refine o_end [4] rfl ?_
  refine x_then ?_
  refine c_seq ?_
  refine c_seq ?_
  refine c_region ?_
  refine o_yield rfl rfl rfl (y_val tok rfl) ?_
  refine o_call (.a (.v _)) rfl rfl fnok135 rfl rfl rfl (fun hg E w1 hm => by exact shapeMay_c g ok _ _ [] _ (hm.lit 1 _ _ rfl)) ?_
  refine o_yield rfl rfl rfl (y_val tok rfl) ?_
  refine o_end [4, 13] rfl ?_
  refine x_then ?_
  refine c_cond rfl (fun h => ?_) (fun h => ?_)
  ·
    simp only [Bool.and_eq_true, Bool.or_eq_true, Bool.not_eq_true', Bool.or_eq_false_iff, Bool.and_eq_false_iff, decide_eq_true_eq, decide_eq_false_iff_not, beq_iff_eq, bne_iff_ne, Bool.not_eq_false', beq_eq_false_iff_ne, bne_eq_false_iff_eq, ne_eq, Decidable.not_not, Int.not_lt, Int.not_le] at h
    refine c_seq ?_
    refine c_region ?_
    refine o_yield rfl rfl rfl (y_val tok rfl) ?_
    refine o_yield rfl rfl rfl (y_val tok rfl) ?_
    refine o_end [2, 3] rfl ?_
    refine x_then ?_
    refine c_ret ?_
    refine x_then_ret ?_
    refine b_ret tok rfl ?_
    intro E w' hm _
    refine ⟨?_, hm.below (Vw.le.refl _)⟩
    rw [gbV, gbE, if_neg (by simp [h]), if_neg (by simp [h])]; rfl
  ·
    simp only [Bool.and_eq_true, Bool.or_eq_true, Bool.not_eq_true', Bool.or_eq_false_iff, Bool.and_eq_false_iff, decide_eq_true_eq, decide_eq_false_iff_not, beq_iff_eq, bne_iff_ne, Bool.not_eq_false', beq_eq_false_iff_ne, bne_eq_false_iff_eq, ne_eq, Decidable.not_not, Int.not_lt, Int.not_le] at h
    have hgg := h
    clear h
    refine k_pin 1 rfl (fun b => ?_)
    refine c_skip ?_
    refine x_then ?_
    refine c_seq ?_
    refine c_region ?_
    refine o_yield rfl rfl rfl (y_val tok rfl) ?_
    refine o_end [4, 5] rfl ?_
    refine x_then ?_
    refine c_seq ?_
    refine c_seq ?_
    refine c_region ?_
    refine o_yield rfl rfl rfl (y_val tok rfl) ?_
    refine o_callV (fun x V' => SlOf V' (encP b) 1 x (List.range 8)) rfl rfl fnok134 rfl rfl (fun hg E w1 hm => by exact numbers_cP (vw w) b _ (hm.pin 2 1 _ rfl).1 _ hm.leV) ?_
    rintro x V1 hle1 hx
    have hp := hx rfl
    clear hx
    refine o_yield rfl rfl rfl (y_len tok rfl (fun hg => hp.sl)) ?_
    refine o_yield rfl rfl rfl (y_val tok rfl) ?_
    refine o_end [5, 15, 16, 17] rfl ?_
    refine x_then ?_
    refine c_block ?_
    refine k_nil 5 3 1 rfl rfl ?_
    have h8 : (List.range 8).length = 8 := rfl
    refine c_loopK [15, 16] [3] rfl rfl (σ := Nat) (fun i => [(5, .a (.row 3)), (17, .a (.v (I i)))]) (fun i => [(3, .row 3 1 ((gNums g).take i).length (((gNums g).take i).flatMap encI64))]) (fun i => i ≤ 8) (fun i => 8 - i) (0) (by omega) (by repeat (first | exact SubF.nil | refine SubF.cons rfl ?_)) (by repeat (first | exact SubO.nil | refine SubO.cons rfl ?_)) rfl ?_
    rintro i hi
    refine c_seq ?_
    refine c_region ?_
    refine o_yield rfl rfl rfl (y_val tok rfl) ?_
    refine o_end [5, 15, 16, 17, 18] rfl ?_
    refine x_then ?_
    refine c_seq ?_
    refine c_cond rfl (fun h => ?_) (fun h => ?_)
    ·
      simp only [Bool.and_eq_true, Bool.or_eq_true, Bool.not_eq_true', Bool.or_eq_false_iff, Bool.and_eq_false_iff, decide_eq_true_eq, decide_eq_false_iff_not, beq_iff_eq, bne_iff_ne, Bool.not_eq_false', beq_eq_false_iff_ne, bne_eq_false_iff_eq, ne_eq, Decidable.not_not, Int.not_lt, Int.not_le] at h
      refine c_skip ?_
      refine x_then ?_
      refine c_seq ?_
      refine c_block ?_
      refine c_seq ?_
      refine c_region ?_
      have hri : (List.range 8)[i]? = some i := by rw [List.getElem?_range (by omega)]
      obtain ⟨n, hn⟩ : ∃ n, (gNums g)[i]? = some n := ⟨(gNums g)[i]'(by simp; omega), by simp⟩
      have hlt_i := lt_of_at hri
      refine o_yield rfl rfl rfl (y_idx tok rfl (fun hg => hp.sl) (fun hg => ⟨by omega, by omega⟩)) ?_
      refine o_yield rfl rfl rfl (y_lel tok (i) 0 (i) rfl (fun hg => hp) (fun hg => hri) rfl rfl) ?_
      refine o_yield rfl rfl rfl (y_val tok rfl) ?_
      refine o_end [5, 7, 15, 16, 17] rfl ?_
      refine x_then ?_
      refine c_region ?_
      refine o_yield rfl rfl rfl (y_val tok rfl) ?_
      refine o_yield rfl rfl rfl (y_val tok rfl) ?_
      refine o_yield rfl rfl rfl (y_val tok rfl) ?_
      refine k_unptr 23 2 1 b i rfl rfl rfl ?_
      refine o_yield rfl rfl rfl (y_ald tok rfl rfl (fun hg => gcell hn)) ?_
      refine o_step rfl rfl rfl rfl rfl (s_bs tok 1 rfl rfl rfl) (fun _ _ => ?_)
      refine o_step rfl rfl rfl rfl rfl (s_app tok ([n].flatMap encI64) rfl (fun E w hm => ownsRow_src (hm.row _ _ _ _ _ rfl)) (fun _ _ _ => int_ones _) (by dsimp only; simp only [List.length_take]; omega)) (fun _ _ => ?_)
      refine o_yield rfl rfl rfl (y_val tok rfl) ?_
      refine o_end [5, 15, 16, 17] rfl ?_
      refine x_block ?_
      refine x_then ?_
      refine c_region ?_
      refine o_yield rfl rfl rfl (y_val tok rfl) ?_
      refine o_yield rfl rfl rfl (y_val tok rfl) ?_
      refine o_end [5, 15, 16, 17] rfl ?_
      refine x_then ?_
      rw [wrapI (n := (i : Int) + 1) (by omega) (by omega), ← List.flatMap_append, ← take_succ_at hn, show ((gNums g).take i).length + 1 = ((gNums g).take (i + 1)).length by simp only [List.length_take]; simp; omega]
      refine k_swap 3 5 rfl ?_
      refine x_round (i + 1) (by omega) (by first | omega | (dsimp only; omega)) (by repeat (first | exact SubF.nil | refine SubF.cons rfl ?_)) (by repeat (first | exact SubO.nil | refine SubO.cons rfl ?_)) rfl (Vw.le.refl _)
    ·
      simp only [Bool.and_eq_true, Bool.or_eq_true, Bool.not_eq_true', Bool.or_eq_false_iff, Bool.and_eq_false_iff, decide_eq_true_eq, decide_eq_false_iff_not, beq_iff_eq, bne_iff_ne, Bool.not_eq_false', beq_eq_false_iff_ne, bne_eq_false_iff_eq, ne_eq, Decidable.not_not, Int.not_lt, Int.not_le] at h
      have hi8 : i = 8 := by omega
      subst hi8
      rw [List.take_of_length_le (by simp)]
      refine c_exit ?_
      refine x_then_exit ?_
      refine x_then_exit ?_
      refine x_block_hit ?_
      refine x_then ?_
      refine c_seq ?_
      refine c_region ?_
      refine o_step rfl rfl rfl rfl rfl (s_callRow 3 1 gW.length (gW.flatMap encI64) rfl fnok133 (fun E w1 hm => swidths_c w1)) (fun _ _ => ?_)
      refine o_yield rfl rfl rfl (y_val tok rfl) ?_
      refine o_call (.a (.v _)) rfl rfl fnok136 rfl rfl rfl (fun hg E w1 hm => by exact make_c 1 (by unfold R8; omega) ByteArray.empty (vw w1) _ _ gW (gNums g) _ (by simp) (Vw.le.refl _) (hm.rowOf 4 rfl (fun _ => rfl)) (hm.rowOf 3 rfl (fun _ => rfl)) rfl (by simp) (fun i k n hk hn => putOk_of (gnums_fit hgg i k n hk hn)) (gpack_take g)) ?_
      refine o_yield rfl rfl rfl (y_val tok rfl) ?_
      refine o_yield rfl rfl rfl (y_val tok rfl) ?_
      refine o_yield rfl rfl rfl (y_val tok rfl) ?_
      refine o_yield rfl rfl rfl (y_val tok rfl) ?_
      refine o_end [2, 3] rfl ?_
      refine x_then ?_
      refine c_ret ?_
      refine b_ret tok rfl ?_
      rw [gseal]
      intro E w' hm _
      refine ⟨?_, hm.below (hle1)⟩
      rw [gbV, gbE, if_pos hgg, if_pos hgg]; rfl


/-- What a superblock's numbers say. -/
def geoOf : List Int → Geo
  | [a, b, c, d, e, f, g, h] => ⟨a, b, c, d, e, f, g, h⟩
  | _ => ⟨0, 0, 0, 0, 0, 0, 0, 0⟩
abbrev geo0 : Geo := ⟨0, 0, 0, 0, 0, 0, 0, 0⟩

/-- What a superblock is read as. -/
def srOk (s : ByteArray) : Option Geo := match fieldsR 1 s gW with
  | some (l, r) => if r.size = 0 ∧ geoB (geoOf l) = true then some (geoOf l) else none
  | none => none
def srV (s : ByteArray) : Geo := (srOk s).getD geo0
def srE (s : ByteArray) : Int := if (srOk s).isSome then 0 else 50

theorem eight {l : List Int} (h : l.length = 8) : ∃ a b c d e f g i, l = [a, b, c, d, e, f, g, i] := by
  match l, h with
  | [a, b, c, d, e, f, g, i], _ => exact ⟨a, b, c, d, e, f, g, i, rfl⟩

theorem fields_64 {kind : Int} {s : ByteArray} : ∀ (ks acc : List Int) (r : ByteArray) {l : List Int} {q : ByteArray}, (∀ n ∈ acc, R64 n) → fldA acc r ks = some (l, q) → ∀ n ∈ l, R64 n
  | [], acc, r, l, q, h, he => by simp [fldA] at he; rw [← he.1]; exact h
  | k :: ks, acc, r, l, q, h, he => by
    rw [fldA] at he
    split at he
    · cases he
    · refine fields_64 (kind := kind) (s := s) ks _ _ ?_ he
      intro n hn
      rcases List.mem_append.1 hn with hn | hn
      · exact h n hn
      · simp at hn
        subst hn
        have := getSpec_64 r 0 k
        unfold R64; omega

theorem fieldsR_64 {kind : Int} {s : ByteArray} {ks l : List Int} {q : ByteArray} (h : fieldsR kind s ks = some (l, q)) : ∀ n ∈ l, R64 n := by
  unfold fieldsR at h
  split at h
  · exact fields_64 (kind := kind) (s := s) ks [] _ (by simp) h
  · cases h

theorem geoOf_ok {l : List Int} (h8 : l.length = 8) (h : ∀ n ∈ l, R64 n) : (geoOf l).Ok := by
  obtain ⟨a, b, c, d, e, f, g, i, rfl⟩ := eight h8
  constructor <;> exact h _ (by simp [geoOf])

theorem geo0_ok : geo0.Ok := by constructor <;> simp [R64]

theorem geoOf_nums {l : List Int} (h8 : l.length = 8) : gNums (geoOf l) = l := by
  obtain ⟨a, b, c, d, e, f, g, i, rfl⟩ := eight h8; rfl

theorem size_empty' (r : ByteArray) : (r.toList == (⟨#[]⟩ : ByteArray).toList) = decide (r.size = 0) := empty_beq r

/-- The cells of a geometry of which the first numbers are known. -/
def geoC' (l : List Int) (i j : Nat) : A := .v (I (if j < i then l.getD j 0 else 0))
def geoTo (l : List Int) (i : Nat) : List A := [geoC' l i 0, geoC' l i 1, geoC' l i 2, geoC' l i 3, geoC' l i 4, geoC' l i 5, geoC' l i 6, geoC' l i 7]

theorem geoTo_set {l : List Int} (h8 : l.length = 8) {i : Nat} {n : Int} (hn : l[i]? = some n) : (geoTo l i).set i (.v (I n)) = geoTo l (i + 1) := by
  have hlt := (List.getElem?_eq_some_iff.1 hn).1
  obtain ⟨a, b, c, d, e, f, g, h, rfl⟩ := eight h8
  match i, hlt with
  | 0, _ => cases hn; rfl
  | 1, _ => cases hn; rfl
  | 2, _ => cases hn; rfl
  | 3, _ => cases hn; rfl
  | 4, _ => cases hn; rfl
  | 5, _ => cases hn; rfl
  | 6, _ => cases hn; rfl
  | 7, _ => cases hn; rfl
  | i + 8, hlt => exact absurd hlt (by simp only [List.length_cons, List.length_nil]; omega)

theorem sread_c (s : ByteArray) (hs : s.size ≤ maxLen) (w : World) : Calls Try.prog 50 #[S s] w fun e w' => e = .returned (.tuple #[(srV s).val, I (srE s)]) ∧ Below w.heap.size w w' := by
  refine enter (E := E0) (O := []) (nl := 0) (V := vw w) [.a (.v (S s))] Try.func50 rfl rfl (mem0 E0 0 w) rfl rfl ?_
  refine c_seq ?_
  refine c_region ?_
  refine o_new tok rfl rfl rfl rfl ?_
  refine o_yield rfl rfl rfl (y_val tok rfl) ?_
  refine o_end [0, 2] rfl ?_
  refine x_then ?_
  refine c_seq ?_
  refine c_region ?_
  refine o_yield rfl rfl rfl (y_val tok rfl) ?_
  refine o_new tok rfl rfl rfl rfl ?_
  refine o_yield rfl rfl rfl (y_val tok rfl) ?_
  refine o_end [0, 2, 4] rfl ?_
  refine x_then ?_
  refine c_seq ?_
  refine c_region ?_
  refine o_yield rfl rfl rfl (y_val tok rfl) ?_
  refine o_step rfl rfl rfl rfl rfl (s_callRow 3 1 gW.length (gW.flatMap encI64) rfl fnok133 (fun E w1 hm => swidths_c w1)) (fun _ _ => ?_)
  refine o_callV (FVal 1 s gW) rfl rfl fnok132 rfl rfl (fun hg E w1 hm => by exact fval_of hm.leV (fields_c 1 s (vw w1) _ gW w1 hs (Vw.le.refl _) (hm.rowOf 2 rfl (fun _ => rfl)) (by simp))) ?_
  rintro x V1 hle1 hx
  have hx' := hx rfl
  clear hx
  rcases hx' with ⟨l, r, v, hfr, rfl, hsl⟩ | ⟨hfr, rfl⟩
  rotate_left
  ·
    refine o_yield rfl rfl rfl (y_val tok rfl) ?_
    refine o_yield rfl rfl rfl (y_val tok rfl) ?_
    refine o_yield rfl rfl rfl (y_val tok rfl) ?_
    refine o_yield rfl rfl rfl (y_val tok rfl) ?_
    refine o_yield rfl rfl rfl (y_val tok rfl) ?_
    refine o_yield rfl rfl rfl (y_val tok rfl) ?_
    refine o_yield rfl rfl rfl (y_val tok rfl) ?_
    refine o_end [2, 4, 5, 6, 7] rfl ?_
    refine x_then ?_
    refine c_seq ?_
    refine c_seq ?_
    refine c_region ?_
    refine o_yield rfl rfl rfl (y_val tok rfl) ?_
    refine o_yield rfl rfl rfl (y_val tok rfl) ?_
    refine o_end [2, 4, 5, 6, 7, 20] rfl ?_
    refine x_then ?_
    refine c_cond rfl (fun h => ?_) (fun h => ?_)
    · exact absurd h (by decide)
    ·
      refine c_skip ?_
      refine x_then ?_
      refine c_seq ?_
      refine c_seq ?_
      refine c_region ?_
      refine o_yield rfl rfl rfl (y_val tok rfl) ?_
      refine o_yield rfl rfl rfl (y_val tok rfl) ?_
      refine o_yield rfl rfl rfl (y_val tok rfl) ?_
      refine o_yield rfl rfl rfl (y_val tok rfl) ?_
      refine o_yield rfl rfl rfl (y_val tok rfl) ?_
      refine o_yield rfl rfl rfl (y_val tok rfl) ?_
      refine o_yield rfl rfl rfl (y_val tok rfl) ?_
      refine o_yield rfl rfl rfl (y_val tok rfl) ?_
      refine o_call (.a (.v _)) rfl rfl fnok135 rfl rfl rfl (fun hg E w1 hm => by exact shapeMay_c geo0 geo0_ok _ _ [] _ (hm.lit 1 _ _ rfl)) ?_
      refine o_yield rfl rfl rfl (y_val tok rfl) ?_
      refine o_yield rfl rfl rfl (y_val tok rfl) ?_
      refine o_end [2, 4, 46] rfl ?_
      refine x_then ?_
      refine c_cond rfl (fun h => ?_) (fun h => ?_)
      ·
        refine c_seq ?_
        refine c_region ?_
        refine o_yield rfl rfl rfl (y_val tok rfl) ?_
        refine o_store tok rfl rfl rfl (by first | exact ⟨trivial, trivial⟩ | (repeat' first | exact trivial | exact rfl | apply And.intro); done | simp [onesP, oneP, lk, Value.oneCell']) ?_
        refine o_yield rfl rfl rfl (y_val tok rfl) ?_
        refine o_end [2, 3] rfl ?_
        refine x_then ?_
        refine c_ret ?_
        refine x_then_ret ?_
        refine b_ret tok rfl ?_
        intro E w' hm _
        refine ⟨?_, hm.below (hle1)⟩
        have : srOk s = none := by rw [srOk, hfr]
        rw [srV, srE, this]; rfl
      · exact absurd h (by decide)
  ·
    have hl8 : l.length = 8 := by rw [fields_len hfr]; rfl
    have hl64 := fieldsR_64 hfr
    refine o_yield rfl rfl rfl (y_val tok rfl) ?_
    refine o_yield rfl rfl rfl (y_val tok rfl) ?_
    refine o_yield rfl rfl rfl (y_val tok rfl) ?_
    refine o_yield rfl rfl rfl (y_val tok rfl) ?_
    refine o_yield rfl rfl rfl (y_val tok rfl) ?_
    refine o_yield rfl rfl rfl (y_val tok rfl) ?_
    refine o_yield rfl rfl rfl (y_val tok rfl) ?_
    refine o_end [2, 4, 5, 6, 7] rfl ?_
    refine x_then ?_
    refine c_seq ?_
    refine c_seq ?_
    refine c_region ?_
    refine o_yield rfl rfl rfl (y_val tok rfl) ?_
    refine o_yield rfl rfl rfl (y_val tok rfl) ?_
    refine o_end [2, 4, 5, 6, 7, 20] rfl ?_
    refine x_then ?_
    refine c_cond rfl (fun h => ?_) (fun h => ?_)
    ·
      refine c_seq ?_
      refine c_region ?_
      refine o_yield rfl rfl rfl (y_val tok rfl) ?_
      clear h
      refine k_pin 1 rfl (fun b => ?_)
      refine o_callV (fun x V' => SlOf V' (encP b) 1 x (List.range 8)) rfl rfl fnok134 rfl rfl (fun hg E w1 hm => by exact numbers_cP V1 b _ (hm.pin 3 1 _ rfl).1 _ hm.leV) ?_
      rintro x V2 hle2 hx
      have hp := hx rfl
      clear hx
      have hsl2 := hsl.mono hle2
      have h8 : (List.range 8).length = 8 := rfl
      refine o_yield rfl rfl rfl (y_len tok rfl (fun hg => hp.sl)) ?_
      refine o_yield rfl rfl rfl (y_val tok rfl) ?_
      refine o_end [2, 4, 5, 6, 7, 22, 23, 24] rfl ?_
      refine x_then ?_
      refine c_block ?_
      refine c_loopV [2, 4, 5, 6, 7, 22, 23] [1] rfl rfl (σ := Nat) (fun i => [(24, .a (.v (I i)))]) (fun i => [(1, .lit (geoTo l i) 182)]) (fun i => V2) (fun i => i ≤ 8) (fun i => 8 - i) (0) (by omega) (by repeat (first | exact SubF.nil | refine SubF.cons rfl ?_)) (by repeat (first | exact SubO.nil | refine SubO.cons rfl ?_)) rfl (Vw.le.refl _) ?_
      rintro i hi
      refine c_seq ?_
      refine c_region ?_
      refine o_yield rfl rfl rfl (y_val tok rfl) ?_
      refine o_end [2, 4, 5, 6, 7, 22, 23, 24, 25] rfl ?_
      refine x_then ?_
      refine c_seq ?_
      refine c_cond rfl (fun h => ?_) (fun h => ?_)
      ·
        simp only [Bool.and_eq_true, Bool.or_eq_true, Bool.not_eq_true', Bool.or_eq_false_iff, Bool.and_eq_false_iff, decide_eq_true_eq, decide_eq_false_iff_not, beq_iff_eq, bne_iff_ne, Bool.not_eq_false', beq_eq_false_iff_ne, bne_eq_false_iff_eq, ne_eq, Decidable.not_not, Int.not_lt, Int.not_le] at h
        refine c_skip ?_
        refine x_then ?_
        refine c_seq ?_
        refine c_block ?_
        refine c_seq ?_
        refine c_region ?_
        refine o_yield rfl rfl rfl (y_val tok rfl) ?_
        have hri : (List.range 8)[i]? = some i := by rw [List.getElem?_range (by omega)]
        obtain ⟨n, hn⟩ : ∃ n, l[i]? = some n := ⟨l[i]'(by omega), by simp⟩
        have hlt_i := lt_of_at hri
        refine o_yield rfl rfl rfl (y_idx tok rfl (fun hg => hp.sl) (fun hg => ⟨by omega, by omega⟩)) ?_
        refine o_yield rfl rfl rfl (y_lel tok (i) 0 (i) rfl (fun hg => hp) (fun hg => hri) rfl rfl) ?_
        refine o_yield rfl rfl rfl (y_val tok rfl) ?_
        refine o_yield rfl rfl rfl (y_val tok rfl) ?_
        refine o_end [2, 4, 5, 6, 7, 8, 9, 22, 23, 24] rfl ?_
        refine x_then ?_
        refine c_region ?_
        refine o_yield rfl rfl rfl (y_val tok rfl) ?_
        refine o_yield rfl rfl rfl (y_val tok rfl) ?_
        refine o_yield rfl rfl rfl (y_val tok rfl) ?_
        have hlt_n := lt_of_at hn
        refine o_yield rfl rfl rfl (y_idx tok rfl (fun hg => hsl2.sl) (fun hg => ⟨by omega, by omega⟩)) ?_
        refine o_yield rfl rfl rfl (y_lel tok (i) 0 (n) rfl (fun hg => hsl2) (fun hg => hn) rfl rfl) ?_
        refine o_yield rfl rfl rfl (y_val tok rfl) ?_
        refine k_unptr 34 3 1 b i rfl rfl rfl ?_
        refine o_stepN rfl rfl rfl rfl (s_ast tok rfl rfl rfl (by simp only [geoTo, List.length_cons, List.length_nil]; omega)) (fun _ _ => ?_)
        refine o_end [2, 4, 5, 6, 7, 22, 23, 24] rfl ?_
        refine x_block ?_
        refine x_then ?_
        refine c_region ?_
        refine o_yield rfl rfl rfl (y_val tok rfl) ?_
        refine o_yield rfl rfl rfl (y_val tok rfl) ?_
        refine o_end [2, 4, 5, 6, 7, 22, 23, 24] rfl ?_
        refine x_then ?_
        rw [geoTo_set hl8 hn, wrapI (n := (i : Int) + 1) (by omega) (by omega)]
        refine x_round (i + 1) (by omega) (by first | omega | (dsimp only; omega)) (by repeat (first | exact SubF.nil | refine SubF.cons rfl ?_)) (by repeat (first | exact SubO.nil | refine SubO.cons rfl ?_)) rfl (Vw.le.refl _)
      ·
        simp only [Bool.and_eq_true, Bool.or_eq_true, Bool.not_eq_true', Bool.or_eq_false_iff, Bool.and_eq_false_iff, decide_eq_true_eq, decide_eq_false_iff_not, beq_iff_eq, bne_iff_ne, Bool.not_eq_false', beq_eq_false_iff_ne, bne_eq_false_iff_eq, ne_eq, Decidable.not_not, Int.not_lt, Int.not_le] at h
        have hi8 : i = 8 := by omega
        subst hi8
        have hgt : geoTo l 8 = (geoOf l).cells.map .v := by
          obtain ⟨a, b, c, d, e, f, g, i, rfl⟩ := eight hl8
          rfl
        rw [hgt]
        refine c_exit ?_
        refine x_then_exit ?_
        refine x_then_exit ?_
        refine x_block_hit ?_
        refine x_then ?_
        refine c_seq ?_
        refine c_seq ?_
        refine c_region ?_
        refine o_yield rfl rfl rfl (y_val tok rfl) ?_
        refine o_yield rfl rfl rfl (y_val tok rfl) ?_
        refine o_yield rfl rfl rfl (y_val tok rfl) ?_
        refine o_yield rfl rfl rfl (y_val tok rfl) ?_
        refine o_yield rfl rfl rfl (y_val tok rfl) ?_
        refine o_yield rfl rfl rfl (y_val tok rfl) ?_
        refine o_yield rfl rfl rfl (y_val tok rfl) ?_
        refine o_yield rfl rfl rfl (y_val tok rfl) ?_
        have okg := geoOf_ok hl8 hl64
        refine o_call (.a (.v _)) rfl rfl fnok135 rfl rfl rfl (fun hg E w1 hm => by exact shapeMay_c (geoOf l) okg _ _ [] _ (hm.lit 1 _ _ rfl)) ?_
        refine o_yield rfl rfl rfl (y_val tok rfl) ?_
        refine o_yield rfl rfl rfl (y_val tok rfl) ?_
        refine o_end [2, 4, 46] rfl ?_
        refine x_then ?_
        refine c_cond rfl (fun h => ?_) (fun h => ?_)
        ·
          refine c_seq ?_
          refine c_region ?_
          refine o_yield rfl rfl rfl (y_val tok rfl) ?_
          refine o_store tok rfl rfl rfl (by first | exact ⟨trivial, trivial⟩ | (repeat' first | exact trivial | exact rfl | apply And.intro); done | simp [onesP, oneP, lk, Value.oneCell']) ?_
          refine o_yield rfl rfl rfl (y_val tok rfl) ?_
          refine o_end [2, 3] rfl ?_
          refine x_then ?_
          refine c_ret ?_
          refine x_then_ret ?_
          refine b_ret tok rfl ?_
          intro E w' hm _
          refine ⟨?_, hm.below ((hle1.trans hle2))⟩
          have : srOk s = none := by
            rw [srOk, hfr]
            simp only
            rw [if_neg]
            rintro ⟨h1, h2⟩
            rw [size_empty', h2] at h
            simp [h1] at h
          rw [srV, srE, this]; rfl
        ·
          refine c_skip ?_
          refine x_then ?_
          refine c_seq ?_
          refine c_region ?_
          refine o_yield rfl rfl rfl (y_val tok rfl) ?_
          refine o_yield rfl rfl rfl (y_val tok rfl) ?_
          refine o_yield rfl rfl rfl (y_val tok rfl) ?_
          refine o_yield rfl rfl rfl (y_val tok rfl) ?_
          refine o_store tok rfl rfl rfl (by first | exact ⟨trivial, trivial⟩ | (repeat' first | exact trivial | exact rfl | apply And.intro); done | simp [onesP, oneP, lk, Value.oneCell']) ?_
          refine o_yield rfl rfl rfl (y_val tok rfl) ?_
          refine o_end [2, 3] rfl ?_
          refine x_then ?_
          refine c_ret ?_
          refine b_ret tok rfl ?_
          intro E w' hm _
          refine ⟨?_, hm.below ((hle1.trans hle2))⟩
          have : srOk s = some (geoOf l) := by
            rw [srOk, hfr]
            simp only
            rw [if_pos]
            rw [size_empty'] at h
            simpa using h
          rw [srV, srE, this]; rfl
    ·
      refine c_skip ?_
      refine x_then ?_
      refine c_seq ?_
      refine c_seq ?_
      refine c_region ?_
      refine o_yield rfl rfl rfl (y_val tok rfl) ?_
      refine o_yield rfl rfl rfl (y_val tok rfl) ?_
      refine o_yield rfl rfl rfl (y_val tok rfl) ?_
      refine o_yield rfl rfl rfl (y_val tok rfl) ?_
      refine o_yield rfl rfl rfl (y_val tok rfl) ?_
      refine o_yield rfl rfl rfl (y_val tok rfl) ?_
      refine o_yield rfl rfl rfl (y_val tok rfl) ?_
      refine o_yield rfl rfl rfl (y_val tok rfl) ?_
      exact absurd h (by decide)
end Go.Proofs.Ytflimioplnbopaa

/- Headers: the program's; superblocks and headers: the document's. -/
set_option linter.unusedVariables false
set_option linter.unusedSimpArgs false
set_option maxRecDepth 100000
namespace Go.Proofs.Ytflimioplnbopaa
open Go Go.Eng Go.RowKit

theorem numPut_no {bv lv : Value} {w : World} (bl : List UInt8) (k : Int) (ls : List Int) (hok : putOk k ls = false) (hbn : bl.length ≤ 1099511627776) (hln : ls.length ≤ 1099511627776) (hb : SlOf (vw w) encByte 1 bv bl) (hl : SlOf (vw w) encI64 1 lv ls) :
    Calls Try.prog 260 #[bv, I k, lv] w fun e w' => e = .returned (.tuple #[.slice none 0 0, I 2]) ∧ Below w.heap.size w w' := by
  refine (numPut_c (vw w) bv bl k lv ls w (Vw.le.refl _) hb hl hbn hln).mono ?_
  rintro e w' ⟨⟨h, _⟩ | ⟨_, he⟩, hbl⟩
  · rw [hok] at h; cases h
  · exact ⟨he, hbl⟩

theorem refPut_no {bv lv : Value} {w : World} (bl : List UInt8) (k : Int) (ls : List Int) (hok : putOk k ls = false) (hbn : bl.length ≤ 1099511627776) (hln : ls.length ≤ 1099511627776) (hb : SlOf (vw w) encByte 1 bv bl) (hl : SlOf (vw w) encI64 1 lv ls) :
    Calls Try.prog 121 #[bv, I k, lv] w fun e w' => e = .returned (.tuple #[.slice none 0 0, I 2]) ∧ Below w.heap.size w w' := by
  refine (refPut_c (vw w) bv bl k lv ls w (Vw.le.refl _) hb hl hbn hln).mono ?_
  rintro e w' ⟨⟨h, _⟩ | ⟨_, he⟩, hbl⟩
  · rw [hok] at h; cases h
  · exact ⟨he, hbl⟩

theorem bputNo_c (k : Int) (bl : List UInt8) (bv : Value) (ls : List Int) (lv : Value) (b e0 : Nat) (t1 : Value) (w : World) (hb : w.heap[b]? = some (.cells [bv, I 0, t1].toArray e0 (0, 0)))
    (hs : SlOf ((vw w).del b) encByte 1 bv bl) (hl : SlOf ((vw w).del b) encI64 1 lv ls) (hok : putOk k ls = false) (hbn : bl.length ≤ 1099511627776) (hln : ls.length ≤ 1099511627776) :
    Calls Try.prog 211 #[.pointer (some ⟨b, 0, none⟩), I k, lv] w fun e w' => e = .returned (.tuple #[]) ∧ Go.Eng.Touch (· = b) w w' ∧ w'.heap[b]? = some (.cells [bv, I 2, t1].toArray e0 (0, 0)) := by
  obtain ⟨a, n, c, rfl⟩ := sl_shape hs.sl
  refine enter1 [.a (.ptr 0 0), .a (.v (I k)), .a (.v lv)] hb Try.func211 rfl rfl rfl rfl ?_
  refine c_seq ?_
  refine c_region ?_
  refine o_yield rfl rfl rfl (y_val tok rfl) ?_
  refine o_yield rfl rfl rfl (y_val tok rfl) ?_
  refine o_yield rfl rfl rfl (y_val tok rfl) ?_
  refine o_yield rfl rfl rfl (y_val tok rfl) ?_
  refine o_yield rfl rfl rfl (y_val tok rfl) ?_
  refine o_yield rfl rfl rfl (y_val tok rfl) ?_
  refine o_call (.a (.v _)) rfl rfl fnok260 rfl rfl rfl (fun hg E w1 hm => by exact (numPut_no bl k ls hok hbn hln (hs.mono hm.leV) (hl.mono hm.leV))) ?_
  refine o_yield rfl rfl rfl (y_val tok rfl) ?_
  refine o_yield rfl rfl rfl (y_val tok rfl) ?_
  refine o_yield rfl rfl rfl (y_val tok rfl) ?_
  refine o_yield rfl rfl rfl (y_val tok rfl) ?_
  refine o_yield rfl rfl rfl (y_val tok rfl) ?_
  refine o_end [0, 6, 7] rfl ?_
  refine x_then ?_
  refine c_seq ?_
  refine c_seq ?_
  refine c_region ?_
  refine o_yield rfl rfl rfl (y_val tok rfl) ?_
  refine o_yield rfl rfl rfl (y_val tok rfl) ?_
  refine o_end [0, 6, 19] rfl ?_
  refine x_then ?_
  refine c_cond rfl (fun h => ?_) (fun h => ?_)
  ·
    refine c_seq ?_
    refine c_region ?_
    refine o_yield rfl rfl rfl (y_val tok rfl) ?_
    refine o_yield rfl rfl rfl (y_val tok rfl) ?_
    refine o_yield rfl rfl rfl (y_val tok rfl) ?_
    refine o_store tok rfl rfl rfl (by first | exact ⟨trivial, trivial⟩ | (repeat' first | exact trivial | exact rfl | apply And.intro); done | simp [onesP, oneP, lk, Value.oneCell']) ?_
    refine o_end [] rfl ?_
    refine x_then ?_
    refine c_ret ?_
    refine x_then_ret ?_
    refine b_ret tok rfl ?_
    intro E w' hm _
    obtain ⟨h1, h2⟩ := back1 hm (Vw.le.refl _) rfl rfl rfl
    refine ⟨rfl, h1, ?_⟩
    rw [h2]
    rfl
  · exact absurd h (by decide)

def headS (n : Int) : ByteArray × Int := if fitsB n 6 = true then (strOf (sealL 2 (leB 6 n)), 0) else (ByteArray.empty, 2)

theorem putOk_one {n : Int} : putOk 6 [n] = fitsB n 6 := by simp [putOk, widthB]

theorem hseal {n : Int} (h : fitsB n 6 = true) : sealS 2 (strOf (packL [6] [n]) ++ ByteArray.empty) = headS n := by
  have h6 : (packL [6] [n]) = leB 6 n := by simp [packL]
  have hl : (leB 6 n).length = 6 := by simp [leB, leTake_len]
  rw [sealS, if_neg (by rw [ByteArray.size_append, strOf_size, h6]; simp; omega), headS, if_pos h, h6]
  congr 2

theorem make1No_c (kind : Int) (t : ByteArray) (V : Vw) (kv nv : Value) (n : Int) (w : World) (hV : V.le (vw w)) (hks : SlOf V encI64 1 kv [6]) (hns : SlOf V encI64 1 nv [n]) (hfit : fitsB n 6 = false) :
    Calls Try.prog 136 #[I8 kind, S t, kv, nv] w fun e w' => e = .returned (.tuple #[S ByteArray.empty, I 2]) ∧ Below w.heap.size w w' := by
  have hks' := hks.mono hV
  have hns' := hns.mono hV
  refine enter (E := E0) (O := []) (nl := 0) (V := vw w) [.a (.v (I8 kind)), .a (.v (S t)), .a (.v kv), .a (.v nv)] Try.func136 rfl rfl (mem0 E0 0 w) rfl rfl ?_
  refine c_seq ?_
  refine c_region ?_
  refine o_yield rfl rfl rfl (y_val tok rfl) ?_
  refine o_yield rfl rfl rfl (y_val tok rfl) ?_
  refine o_end [0, 1, 2, 3] rfl ?_
  refine x_then ?_
  refine c_seq ?_
  refine c_region ?_
  refine o_yield rfl rfl rfl (y_val tok rfl) ?_
  refine o_yield rfl rfl rfl (y_val tok rfl) ?_
  refine o_new tok rfl rfl rfl rfl ?_
  refine o_yield rfl rfl rfl (y_val tok rfl) ?_
  refine o_end [1, 2, 3, 10] rfl ?_
  refine x_then ?_
  refine c_seq ?_
  refine c_seq ?_
  refine c_region ?_
  refine o_yield rfl rfl rfl (y_val tok rfl) ?_
  refine o_yield rfl rfl rfl (y_len tok rfl (fun hg => hks'.sl)) ?_
  refine o_yield rfl rfl rfl (y_val tok rfl) ?_
  refine o_yield rfl rfl rfl (y_len tok rfl (fun hg => hns'.sl)) ?_
  refine o_yield rfl rfl rfl (y_val tok rfl) ?_
  refine o_end [1, 2, 3, 10, 20] rfl ?_
  refine x_then ?_
  refine c_cond rfl (fun h => ?_) (fun h => ?_)
  ·
    simp only [Bool.and_eq_true, Bool.or_eq_true, Bool.not_eq_true', Bool.or_eq_false_iff, Bool.and_eq_false_iff, decide_eq_true_eq, decide_eq_false_iff_not, beq_iff_eq, bne_iff_ne, Bool.not_eq_false', beq_eq_false_iff_ne, bne_eq_false_iff_eq, ne_eq, Decidable.not_not, Int.not_lt, Int.not_le] at h
    refine c_seq ?_
    refine c_region ?_
    refine o_yield rfl rfl rfl (y_val tok rfl) ?_
    refine o_yield rfl rfl rfl (y_val tok rfl) ?_
    refine o_end [8, 9] rfl ?_
    refine x_then ?_
    refine c_ret ?_
    refine x_then_ret ?_
    refine b_ret tok rfl ?_
    contradiction
  ·
    simp only [Bool.and_eq_true, Bool.or_eq_true, Bool.not_eq_true', Bool.or_eq_false_iff, Bool.and_eq_false_iff, decide_eq_true_eq, decide_eq_false_iff_not, beq_iff_eq, bne_iff_ne, Bool.not_eq_false', beq_eq_false_iff_ne, bne_eq_false_iff_eq, ne_eq, Decidable.not_not, Int.not_lt, Int.not_le] at h
    refine c_skip ?_
    refine x_then ?_
    refine c_seq ?_
    refine c_seq ?_
    refine c_region ?_
    refine o_yield rfl rfl rfl (y_val tok rfl) ?_
    refine o_yield rfl rfl rfl (y_len tok rfl (fun hg => hns'.sl)) ?_
    refine o_yield rfl rfl rfl (y_val tok rfl) ?_
    refine o_end [1, 2, 10, 21, 22, 23] rfl ?_
    refine x_then ?_
    refine c_block ?_
    refine k_nilO 0 0 5 1 rfl rfl ?_
    refine c_loopK [1, 2, 10, 21, 22] [0, 1] rfl rfl (σ := Nat) (fun i => [(23, .a (.v (I i)))]) (fun i => [(0, .lit (.row 1 :: .v (I 0) :: [I8 kind].map .v) 278), (1, .row 5 1 0 [])]) (fun i => i = 0) (fun i => 1 - i) (0) (rfl) (by repeat (first | exact SubF.nil | refine SubF.cons rfl ?_)) (by repeat (first | exact SubO.nil | refine SubO.cons rfl ?_)) rfl ?_
    rintro i rfl
    refine c_seq ?_
    refine c_region ?_
    refine o_yield rfl rfl rfl (y_val tok rfl) ?_
    refine o_end [1, 2, 10, 21, 22, 23, 24] rfl ?_
    refine x_then ?_
    refine c_seq ?_
    refine c_cond rfl (fun h => ?_) (fun h => ?_)
    ·
      simp only [Bool.and_eq_true, Bool.or_eq_true, Bool.not_eq_true', Bool.or_eq_false_iff, Bool.and_eq_false_iff, decide_eq_true_eq, decide_eq_false_iff_not, beq_iff_eq, bne_iff_ne, Bool.not_eq_false', beq_eq_false_iff_ne, bne_eq_false_iff_eq, ne_eq, Decidable.not_not, Int.not_lt, Int.not_le] at h
      refine c_skip ?_
      refine x_then ?_
      refine c_seq ?_
      refine c_block ?_
      refine c_seq ?_
      refine c_region ?_
      refine o_yield rfl rfl rfl (y_val tok rfl) ?_
      have e1 : ([n] : List Int)[0]? = some n := rfl
      have e2 : ([6] : List Int)[0]? = some 6 := rfl
      have hlt_n := lt_of_at e1
      refine o_yield rfl rfl rfl (y_idx tok rfl (fun hg => hns'.sl) (fun hg => ⟨by omega, by omega⟩)) ?_
      refine o_yield rfl rfl rfl (y_lel tok (0) 0 (n) rfl (fun hg => hns') (fun hg => e1) rfl rfl) ?_
      refine o_yield rfl rfl rfl (y_val tok rfl) ?_
      refine o_yield rfl rfl rfl (y_val tok rfl) ?_
      refine o_end [1, 2, 10, 11, 12, 21, 22, 23] rfl ?_
      refine x_then ?_
      refine c_seq ?_
      refine c_held [] ([]) mixed (by repeat (first | exact SubO.nil | refine SubO.cons rfl ?_)) (by first | rfl | simp [okCels, allOk_plain]) ?_
      refine t_take 0 rfl (by kernel_rfl) rfl rfl rfl (y_val tok rfl) rfl ?_
      refine t_take 1 rfl (by kernel_rfl) rfl rfl rfl (y_val tok rfl) rfl ?_
      refine t_take 2 rfl (by kernel_rfl) rfl rfl rfl (y_val tok rfl) rfl ?_
      refine t_take 3 rfl (by kernel_rfl) rfl rfl rfl (y_val tok rfl) rfl ?_
      refine t_take 4 rfl (by kernel_rfl) rfl rfl rfl (y_val tok rfl) rfl ?_
      have hlt__6___Int_ := lt_of_at e2
      refine t_take 5 rfl (by kernel_rfl) rfl rfl rfl (y_idx tok rfl (fun hg => hks'.sl) (fun hg => ⟨by omega, by omega⟩)) rfl ?_
      refine t_take 6 rfl (by kernel_rfl) rfl rfl rfl (y_lel tok (0) 0 ((6 : Int)) rfl (fun hg => hks') (fun hg => e2) rfl rfl) rfl ?_
      refine t_take 7 rfl (by kernel_rfl) rfl rfl rfl (y_val tok rfl) rfl ?_
      refine t_go ?_
      refine h_one 8 (by kernel_rfl) ?_
      refine h_to 8 rfl rfl rfl rfl rfl rfl (s_bs tok 1 rfl rfl rfl) (.inr fun _ _ => ⟨(by repeat (first | exact SubO.nil | refine SubO.cons rfl ?_)), rfl, (by first | exact Vw.le.refl _ | assumption)⟩) (fun _ _ => ?_)
      refine h_one 9 (by kernel_rfl) ?_
      refine h_to 9 rfl rfl rfl rfl rfl rfl (s_callW (fun _ => True) (fun _ : Unit => .tup []) 0 278 (fun _ => [.row 1, .v (I 2), .v (I8 kind)]) rfl fnok211 rfl (fun _ => rfl) (fun _ => rfl) (fun E w1 hm hb => (bputNo_c 6 [] (E.κ 1) [n] (E.κ 2) (E.ρ 0) 278 (I8 kind) w1 hb (hm.rowOfDel (enc := encByte) (L := []) 1 rfl rfl (fun _ => rfl)) (hm.rowOfDel (enc := encI64) (L := [n]) 2 rfl rfl (fun _ => rfl)) (by rw [putOk_one, hfit]) (by simp) (by simp)).mono fun e w' h => ⟨(), h.1, h.2.1, h.2.2, trivial⟩)) (.inr fun _ _ => ⟨(by repeat (first | exact SubO.nil | refine SubO.cons rfl ?_)), rfl, (by first | exact Vw.le.refl _ | assumption)⟩) (fun _ _ => ?_)
      refine h_done [1, 2, 10, 21, 22, 23] (by kernel_rfl) rfl ?_
      refine x_then ?_
      refine c_seq ?_
      refine c_region ?_
      refine o_yield rfl rfl rfl (y_val tok rfl) ?_
      refine o_yield rfl rfl rfl (y_val tok rfl) ?_
      refine o_yield rfl rfl rfl (y_val tok rfl) ?_
      refine o_yield rfl rfl rfl (y_val tok rfl) ?_
      refine o_yield rfl rfl rfl (y_val tok rfl) ?_
      refine o_yield rfl rfl rfl (y_val tok rfl) ?_
      refine o_yield rfl rfl rfl (y_val tok rfl) ?_
      refine o_yield rfl rfl rfl (y_val tok rfl) ?_
      refine o_yield rfl rfl rfl (y_val tok rfl) ?_
      refine o_yield rfl rfl rfl (y_val tok rfl) ?_
      refine o_yield rfl rfl rfl (y_val tok rfl) ?_
      refine o_yield rfl rfl rfl (y_val tok rfl) ?_
      refine o_yield rfl rfl rfl (y_val tok rfl) ?_
      refine o_yield rfl rfl rfl (y_val tok rfl) ?_
      refine o_yield rfl rfl rfl (y_val tok rfl) ?_
      refine o_end [1, 2, 10, 21, 22, 23, 52] rfl ?_
      refine x_then ?_
      refine c_cond rfl (fun h => ?_) (fun h => ?_)
      ·
        refine c_seq ?_
        refine c_region ?_
        refine o_yield rfl rfl rfl (y_val tok rfl) ?_
        refine o_yield rfl rfl rfl (y_val tok rfl) ?_
        refine o_end [8, 9] rfl ?_
        refine x_then ?_
        refine c_ret ?_
        refine x_block_ret ?_
        refine x_then_ret ?_
        refine x_then_ret ?_
        refine x_block_ret ?_
        refine x_then_ret ?_
        refine b_ret tok rfl ?_
        intro E w' hm _
        refine ⟨?_, hm.below (Vw.le.refl _)⟩
        rfl
      ·
        exact absurd h (by decide)
    ·
      simp only [Bool.and_eq_true, Bool.or_eq_true, Bool.not_eq_true', Bool.or_eq_false_iff, Bool.and_eq_false_iff, decide_eq_true_eq, decide_eq_false_iff_not, beq_iff_eq, bne_iff_ne, Bool.not_eq_false', beq_eq_false_iff_ne, bne_eq_false_iff_eq, ne_eq, Decidable.not_not, Int.not_lt, Int.not_le] at h
      exact absurd h (by simp)

theorem refMake1No_c (kind : Int) (t : ByteArray) (V : Vw) (kv nv : Value) (n : Int) (w : World) (hV : V.le (vw w)) (hks : SlOf V encI64 1 kv [6]) (hns : SlOf V encI64 1 nv [n]) (hfit : fitsB n 6 = false) :
    Calls Try.prog 93 #[I8 kind, S t, kv, nv] w fun e w' => e = .returned (.tuple #[S ByteArray.empty, I 2]) ∧ Below w.heap.size w w' := by
  have hks' := hks.mono hV
  have hns' := hns.mono hV
  refine enter (E := E0) (O := []) (nl := 0) (V := vw w) [.a (.v (I8 kind)), .a (.v (S t)), .a (.v kv), .a (.v nv)] Try.func93 rfl rfl (mem0 E0 0 w) rfl rfl ?_
  refine c_seq ?_
  refine c_region ?_
  refine o_yield rfl rfl rfl (y_val tok rfl) ?_
  refine o_yield rfl rfl rfl (y_val tok rfl) ?_
  refine o_end [0, 1, 2, 3] rfl ?_
  refine x_then ?_
  refine c_seq ?_
  refine c_seq ?_
  refine c_region ?_
  refine o_yield rfl rfl rfl (y_val tok rfl) ?_
  refine o_yield rfl rfl rfl (y_len tok rfl (fun hg => hks'.sl)) ?_
  refine o_yield rfl rfl rfl (y_val tok rfl) ?_
  refine o_yield rfl rfl rfl (y_len tok rfl (fun hg => hns'.sl)) ?_
  refine o_yield rfl rfl rfl (y_val tok rfl) ?_
  refine o_end [0, 1, 2, 3, 18] rfl ?_
  refine x_then ?_
  refine c_cond rfl (fun h => ?_) (fun h => ?_)
  ·
    simp only [Bool.and_eq_true, Bool.or_eq_true, Bool.not_eq_true', Bool.or_eq_false_iff, Bool.and_eq_false_iff, decide_eq_true_eq, decide_eq_false_iff_not, beq_iff_eq, bne_iff_ne, Bool.not_eq_false', beq_eq_false_iff_ne, bne_eq_false_iff_eq, ne_eq, Decidable.not_not, Int.not_lt, Int.not_le] at h
    refine c_seq ?_
    refine c_region ?_
    refine o_yield rfl rfl rfl (y_val tok rfl) ?_
    refine o_yield rfl rfl rfl (y_val tok rfl) ?_
    refine o_end [8, 9] rfl ?_
    refine x_then ?_
    refine c_ret ?_
    refine x_then_ret ?_
    refine b_ret tok rfl ?_
    contradiction
  ·
    simp only [Bool.and_eq_true, Bool.or_eq_true, Bool.not_eq_true', Bool.or_eq_false_iff, Bool.and_eq_false_iff, decide_eq_true_eq, decide_eq_false_iff_not, beq_iff_eq, bne_iff_ne, Bool.not_eq_false', beq_eq_false_iff_ne, bne_eq_false_iff_eq, ne_eq, Decidable.not_not, Int.not_lt, Int.not_le] at h
    clear h
    refine c_skip ?_
    refine x_then ?_
    refine c_seq ?_
    refine c_region ?_
    refine o_yield rfl rfl rfl (y_val tok rfl) ?_
    refine o_end [0, 1, 2, 3, 10] rfl ?_
    refine x_then ?_
    refine c_seq ?_
    refine c_seq ?_
    refine c_region ?_
    refine o_yield rfl rfl rfl (y_val tok rfl) ?_
    refine o_end [0, 1, 2, 3, 10, 11] rfl ?_
    refine x_then ?_
    refine c_block ?_
    refine k_nil 10 5 1 rfl rfl ?_
    refine c_loopK [0, 1, 2, 3] [0] rfl rfl (σ := Nat) (fun i => [(10, .a (.row 0)), (11, .a (.v (I i)))]) (fun i => [(0, .row 5 1 0 [])]) (fun i => i = 0) (fun i => 1 - i) (0) (rfl) (by repeat (first | exact SubF.nil | refine SubF.cons rfl ?_)) (by repeat (first | exact SubO.nil | refine SubO.cons rfl ?_)) rfl ?_
    rintro i rfl
    refine c_seq ?_
    refine c_seq ?_
    refine c_region ?_
    refine o_yield rfl rfl rfl (y_val tok rfl) ?_
    refine o_yield rfl rfl rfl (y_val tok rfl) ?_
    refine o_yield rfl rfl rfl (y_len tok rfl (fun hg => hns'.sl)) ?_
    refine o_yield rfl rfl rfl (y_val tok rfl) ?_
    refine o_end [0, 1, 2, 3, 10, 11, 22] rfl ?_
    refine x_then ?_
    refine c_cond rfl (fun h => ?_) (fun h => ?_)
    ·
      simp only [Bool.and_eq_true, Bool.or_eq_true, Bool.not_eq_true', Bool.or_eq_false_iff, Bool.and_eq_false_iff, decide_eq_true_eq, decide_eq_false_iff_not, beq_iff_eq, bne_iff_ne, Bool.not_eq_false', beq_eq_false_iff_ne, bne_eq_false_iff_eq, ne_eq, Decidable.not_not, Int.not_lt, Int.not_le] at h
      refine c_skip ?_
      refine x_then ?_
      refine c_seq ?_
      refine c_block ?_
      refine c_seq ?_
      refine c_heldR mixed rfl (by repeat (first | exact SubO.nil | refine SubO.cons rfl ?_)) (by first | rfl | simp [okCels, allOk_plain]) ?_
      refine t_take 0 rfl (by kernel_rfl) rfl rfl rfl (y_val tok rfl) rfl ?_
      refine t_take 1 rfl (by kernel_rfl) rfl rfl rfl (y_val tok rfl) rfl ?_
      refine t_take 2 rfl (by kernel_rfl) rfl rfl rfl (y_val tok rfl) rfl ?_
      have e1 : ([n] : List Int)[0]? = some n := rfl
      have e2 : ([6] : List Int)[0]? = some 6 := rfl
      have hlt__6___Int_ := lt_of_at e2
      refine t_take 3 rfl (by kernel_rfl) rfl rfl rfl (y_idx tok rfl (fun hg => hks'.sl) (fun hg => ⟨by omega, by omega⟩)) rfl ?_
      refine t_take 4 rfl (by kernel_rfl) rfl rfl rfl (y_lel tok (0) 0 ((6 : Int)) rfl (fun hg => hks') (fun hg => e2) rfl rfl) rfl ?_
      refine t_take 5 rfl (by kernel_rfl) rfl rfl rfl (y_val tok rfl) rfl ?_
      refine t_take 6 rfl (by kernel_rfl) rfl rfl rfl (y_val tok rfl) rfl ?_
      have hlt_n := lt_of_at e1
      refine t_take 7 rfl (by kernel_rfl) rfl rfl rfl (y_idx tok rfl (fun hg => hns'.sl) (fun hg => ⟨by omega, by omega⟩)) rfl ?_
      refine t_take 8 rfl (by kernel_rfl) rfl rfl rfl (y_lel tok (0) 0 (n) rfl (fun hg => hns') (fun hg => e1) rfl rfl) rfl ?_
      refine t_go ?_
      refine h_one 9 (by kernel_rfl) ?_
      refine h_to 9 rfl rfl rfl rfl rfl rfl (s_bs tok 1 rfl rfl rfl) (.inr fun _ _ => ⟨(by repeat (first | exact SubO.nil | refine SubO.cons rfl ?_)), rfl, (by first | exact Vw.le.refl _ | assumption)⟩) (fun _ _ => ?_)
      refine h_one 10 (by kernel_rfl) ?_
      refine h_call 10 (.a (.v _)) rfl rfl rfl fnok121 rfl rfl rfl (fun hg E w1 hm => by exact refPut_no [] 6 [n] (by rw [putOk_one, hfit]) (by simp) (by simp) (hm.rowOf (enc := encByte) (L := []) 0 rfl (fun _ => rfl)) (hm.rowOf (enc := encI64) (L := [n]) 1 rfl (fun _ => rfl))) ?_
      refine h_one 11 (by kernel_rfl) ?_
      refine h_yield 11 rfl rfl rfl rfl (y_val tok rfl) ?_
      refine h_take 12 rfl (by kernel_rfl) rfl rfl rfl rfl (y_val tok rfl) rfl ?_
      refine h_take 13 rfl (by kernel_rfl) rfl rfl rfl rfl (y_val tok rfl) rfl ?_
      refine h_one 14 (by kernel_rfl) ?_
      refine h_yield 14 rfl rfl rfl rfl (y_val tok rfl) ?_
      refine h_one 15 (by kernel_rfl) ?_
      refine h_yield 15 rfl rfl rfl rfl (y_val tok rfl) ?_
      refine h_done [0, 1, 2, 3, 11, 12, 13] (by kernel_rfl) rfl ?_
      refine x_then ?_
      refine c_seq ?_
      refine c_seq ?_
      refine c_region ?_
      refine o_yield rfl rfl rfl (y_val tok rfl) ?_
      refine o_yield rfl rfl rfl (y_val tok rfl) ?_
      refine o_end [0, 1, 2, 3, 11, 12, 40] rfl ?_
      refine x_then ?_
      refine c_cond rfl (fun h => ?_) (fun h => ?_)
      ·
        refine c_seq ?_
        refine c_region ?_
        refine o_yield rfl rfl rfl (y_val tok rfl) ?_
        refine o_yield rfl rfl rfl (y_val tok rfl) ?_
        refine o_end [8, 9] rfl ?_
        refine x_then ?_
        refine c_ret ?_
        refine x_then_ret ?_
        refine x_block_ret ?_
        refine x_then_ret ?_
        refine x_then_ret ?_
        refine x_block_ret ?_
        refine x_then_ret ?_
        refine b_ret tok rfl ?_
        intro E w' hm _
        refine ⟨?_, hm.below (Vw.le.refl _)⟩
        rfl
      ·
        exact absurd h (by decide)
    ·
      simp only [Bool.and_eq_true, Bool.or_eq_true, Bool.not_eq_true', Bool.or_eq_false_iff, Bool.and_eq_false_iff, decide_eq_true_eq, decide_eq_false_iff_not, beq_iff_eq, bne_iff_ne, Bool.not_eq_false', beq_eq_false_iff_ne, bne_eq_false_iff_eq, ne_eq, Decidable.not_not, Int.not_lt, Int.not_le] at h
      exact absurd h (by simp)

theorem shead_c (n : Int) (w : World) : Calls Try.prog 53 #[I n] w fun e w' => e = .returned (.tuple #[S (headS n).1, I (headS n).2]) ∧ Below w.heap.size w w' := by
  refine enter (E := E0) (O := []) (nl := 0) (V := vw w) [.a (.v (I n))] Try.func53 rfl rfl (mem0 E0 0 w) rfl rfl ?_
  refine c_seq ?_
  refine c_region ?_
  refine o_yield rfl rfl rfl (y_val tok rfl) ?_
  refine o_yield rfl rfl rfl (y_val tok rfl) ?_
  refine o_end [0] rfl ?_
  refine x_then ?_
  refine c_seq ?_
  refine c_region ?_
  refine o_bs tok rfl rfl rfl rfl (fun b1 V1 hle1 hb1 => ?_)
  refine o_yield rfl rfl rfl (y_val tok rfl) ?_
  refine o_bs tok rfl rfl rfl rfl (fun b2 V2 hle2 hb2 => ?_)
  have h1 := SlOf.ofBlock (enc := encI64) (sz := 1) (l := [6]) (hle2.get _ _ (hb1 rfl)) rfl (fun _ => rfl) (Nat.le_refl _)
  have h2 := SlOf.ofBlock (enc := encI64) (sz := 1) (l := [n]) (hb2 rfl) rfl (fun _ => rfl) (Nat.le_refl _)
  have key : ∀ w1, V2.le (vw w1) → Calls Try.prog 136 #[I8 2, S ByteArray.empty, .slice (some ⟨b1, 0, none⟩) 1 1, .slice (some ⟨b2, 0, none⟩) 1 1] w1 fun e w' => e = .returned (.tuple #[S (headS n).1, I (headS n).2]) ∧ Below w1.heap.size w1 w' := fun w1 hV => by
    cases hf : fitsB n 6 with
    | true =>
      have := make_c 2 (by unfold R8; omega) ByteArray.empty V2 _ _ [6] [n] w1 (by simp) hV h1 h2 rfl (by simp) (fun i k m hk hn => by
        cases i with
        | zero => cases hk; cases hn; rw [putOk_one, hf]
        | succ i => simp at hk) (fun i => by
        have h := pack_len ([6].take i) ([n].take i)
        have : (([6].take i).map Int.toNat).sum ≤ 6 := by
          match i with
          | 0 => decide
          | i + 1 => rw [List.take_of_length_le (by simp)]; decide
        omega)
      rw [hseal hf] at this
      exact this
    | false =>
      have := make1No_c 2 ByteArray.empty V2 _ _ n w1 hV h1 h2 hf
      rw [headS, if_neg (by simp [hf])]
      exact this
  refine o_call (.a (.v _)) rfl rfl fnok136 rfl rfl rfl (fun hg E w1 hm => by exact key _ hm.leV) ?_
  refine o_yield rfl rfl rfl (y_val tok rfl) ?_
  refine o_yield rfl rfl rfl (y_val tok rfl) ?_
  refine o_yield rfl rfl rfl (y_val tok rfl) ?_
  refine o_yield rfl rfl rfl (y_val tok rfl) ?_
  refine o_end [2, 3] rfl ?_
  refine x_then ?_
  refine c_ret ?_
  refine b_ret tok rfl ?_
  intro E w' hm _
  refine ⟨?_, hm.below ((hle1.trans hle2))⟩
  rfl

theorem refHeadS_c (n : Int) (w : World) : Calls Try.prog 19 #[I n] w fun e w' => e = .returned (.tuple #[S (headS n).1, I (headS n).2]) ∧ Below w.heap.size w w' := by
  refine enter (E := E0) (O := []) (nl := 0) (V := vw w) [.a (.v (I n))] Try.func19 rfl rfl (mem0 E0 0 w) rfl rfl ?_
  refine c_seq ?_
  refine c_region ?_
  refine o_yield rfl rfl rfl (y_val tok rfl) ?_
  refine o_yield rfl rfl rfl (y_val tok rfl) ?_
  refine o_end [0] rfl ?_
  refine x_then ?_
  refine c_seq ?_
  refine c_region ?_
  refine o_bs tok rfl rfl rfl rfl (fun b1 V1 hle1 hb1 => ?_)
  refine o_yield rfl rfl rfl (y_val tok rfl) ?_
  refine o_bs tok rfl rfl rfl rfl (fun b2 V2 hle2 hb2 => ?_)
  have h1 := SlOf.ofBlock (enc := encI64) (sz := 1) (l := [6]) (hle2.get _ _ (hb1 rfl)) rfl (fun _ => rfl) (Nat.le_refl _)
  have h2 := SlOf.ofBlock (enc := encI64) (sz := 1) (l := [n]) (hb2 rfl) rfl (fun _ => rfl) (Nat.le_refl _)
  have key : ∀ w1, V2.le (vw w1) → Calls Try.prog 93 #[I8 2, S ByteArray.empty, .slice (some ⟨b1, 0, none⟩) 1 1, .slice (some ⟨b2, 0, none⟩) 1 1] w1 fun e w' => e = .returned (.tuple #[S (headS n).1, I (headS n).2]) ∧ Below w1.heap.size w1 w' := fun w1 hV => by
    cases hf : fitsB n 6 with
    | true =>
      have := refMake_c 2 (by unfold R8; omega) ByteArray.empty V2 _ _ [6] [n] w1 (by simp) hV h1 h2 rfl (by simp) (fun i k m hk hn => by
        cases i with
        | zero => cases hk; cases hn; rw [putOk_one, hf]
        | succ i => simp at hk) (fun i => by
        have h := pack_len ([6].take i) ([n].take i)
        have : (([6].take i).map Int.toNat).sum ≤ 6 := by
          match i with
          | 0 => decide
          | i + 1 => rw [List.take_of_length_le (by simp)]; decide
        omega)
      rw [hseal hf] at this
      exact this
    | false =>
      have := refMake1No_c 2 ByteArray.empty V2 _ _ n w1 hV h1 h2 hf
      rw [headS, if_neg (by simp [hf])]
      exact this
  refine o_call (.a (.v _)) rfl rfl fnok93 rfl rfl rfl (fun hg E w1 hm => by exact key _ hm.leV) ?_
  refine o_yield rfl rfl rfl (y_val tok rfl) ?_
  refine o_yield rfl rfl rfl (y_val tok rfl) ?_
  refine o_yield rfl rfl rfl (y_val tok rfl) ?_
  refine o_yield rfl rfl rfl (y_val tok rfl) ?_
  refine o_end [2, 3] rfl ?_
  refine x_then ?_
  refine c_ret ?_
  refine b_ret tok rfl ?_
  intro E w' hm _
  refine ⟨?_, hm.below ((hle1.trans hle2))⟩
  rfl

/-- A header's tail. -/
def tailOk (s : ByteArray) : Option Int := match fieldsR 2 s [6] with
  | some (l, r) => if r.size = 0 then l[0]? else none
  | none => none
def tailV (s : ByteArray) : Int := (tailOk s).getD 0
def tailE (s : ByteArray) : Int := if (tailOk s).isSome then 0 else 50

theorem one_list {l : List Int} (h : l.length = 1) : ∃ a, l = [a] := by
  match l, h with
  | [a], _ => exact ⟨a, rfl⟩

theorem stail_c (s : ByteArray) (hs : s.size ≤ maxLen) (w : World) : Calls Try.prog 52 #[S s] w fun e w' => e = .returned (.tuple #[I (tailV s), I (tailE s)]) ∧ Below w.heap.size w w' := by
  refine enter (E := E0) (O := []) (nl := 0) (V := vw w) [.a (.v (S s))] Try.func52 rfl rfl (mem0 E0 0 w) rfl rfl ?_
  refine c_seq ?_
  refine c_region ?_
  refine o_yield rfl rfl rfl (y_val tok rfl) ?_
  refine o_yield rfl rfl rfl (y_val tok rfl) ?_
  refine o_end [0] rfl ?_
  refine x_then ?_
  refine c_seq ?_
  refine c_seq ?_
  refine c_region ?_
  refine o_yield rfl rfl rfl (y_val tok rfl) ?_
  refine o_bs tok rfl rfl rfl rfl (fun b1 V1 hle1 hb1 => ?_)
  refine o_callV (FVal 2 s [6]) rfl rfl fnok132 rfl rfl (fun hg E w1 hm => by exact fval_of hm.leV (fields_c 2 s V1 _ [6] w1 hs hm.leV (SlOf.ofBlock (enc := encI64) (sz := 1) (l := [6]) (hb1 rfl) rfl (fun _ => rfl) (Nat.le_refl _)) (by simp))) ?_
  rintro x V2 hle2 hx
  have hx' := hx rfl
  clear hx
  rcases hx' with ⟨l, r, v, hfr, rfl, hsl⟩ | ⟨hfr, rfl⟩
  ·
    obtain ⟨a, rfl⟩ := one_list (by rw [fields_len hfr]; rfl)
    have e1 : ([a] : List Int)[0]? = some a := rfl
    refine o_yield rfl rfl rfl (y_val tok rfl) ?_
    refine o_yield rfl rfl rfl (y_val tok rfl) ?_
    refine o_yield rfl rfl rfl (y_val tok rfl) ?_
    refine o_yield rfl rfl rfl (y_val tok rfl) ?_
    refine o_yield rfl rfl rfl (y_val tok rfl) ?_
    refine o_yield rfl rfl rfl (y_val tok rfl) ?_
    refine o_yield rfl rfl rfl (y_val tok rfl) ?_
    refine o_end [4, 5, 6] rfl ?_
    refine x_then ?_
    refine c_seq ?_
    refine c_region ?_
    refine o_yield rfl rfl rfl (y_val tok rfl) ?_
    refine o_yield rfl rfl rfl (y_val tok rfl) ?_
    refine o_yield rfl rfl rfl (y_val tok rfl) ?_
    refine o_yield rfl rfl rfl (y_val tok rfl) ?_
    refine o_yield rfl rfl rfl (y_val tok rfl) ?_
    refine o_yield rfl rfl rfl (y_val tok rfl) ?_
    refine o_end [4, 19] rfl ?_
    refine x_then ?_
    refine c_cond rfl (fun h => ?_) (fun h => ?_)
    ·
      refine c_seq ?_
      refine c_region ?_
      refine o_yield rfl rfl rfl (y_val tok rfl) ?_
      have hlt_a := lt_of_at e1
      refine o_yield rfl rfl rfl (y_idx tok rfl (fun hg => hsl.sl) (fun hg => ⟨by omega, by omega⟩)) ?_
      refine o_yield rfl rfl rfl (y_lel tok (0) 0 (a) rfl (fun hg => hsl) (fun hg => e1) rfl rfl) ?_
      refine o_yield rfl rfl rfl (y_val tok rfl) ?_
      refine o_yield rfl rfl rfl (y_val tok rfl) ?_
      refine o_end [2, 3] rfl ?_
      refine x_then ?_
      refine c_ret ?_
      refine x_then_ret ?_
      refine b_ret tok rfl ?_
      intro E w' hm _
      refine ⟨?_, hm.below ((hle1.trans hle2))⟩
      have : tailOk s = some a := by
        rw [tailOk, hfr]
        simp only
        rw [size_empty'] at h
        rw [if_pos (by simpa using h)]; rfl
      rw [tailV, tailE, this]; rfl
    ·
      refine c_skip ?_
      refine x_then ?_
      refine c_seq ?_
      refine c_region ?_
      refine o_yield rfl rfl rfl (y_val tok rfl) ?_
      refine o_yield rfl rfl rfl (y_val tok rfl) ?_
      refine o_end [2, 3] rfl ?_
      refine x_then ?_
      refine c_ret ?_
      refine b_ret tok rfl ?_
      intro E w' hm _
      refine ⟨?_, hm.below ((hle1.trans hle2))⟩
      have : tailOk s = none := by
        rw [tailOk, hfr]
        simp only
        rw [size_empty'] at h
        rw [if_neg (by simpa using h)]
      rw [tailV, tailE, this]; rfl
  ·
    refine o_yield rfl rfl rfl (y_val tok rfl) ?_
    refine o_yield rfl rfl rfl (y_val tok rfl) ?_
    refine o_yield rfl rfl rfl (y_val tok rfl) ?_
    refine o_yield rfl rfl rfl (y_val tok rfl) ?_
    refine o_yield rfl rfl rfl (y_val tok rfl) ?_
    refine o_yield rfl rfl rfl (y_val tok rfl) ?_
    refine o_yield rfl rfl rfl (y_val tok rfl) ?_
    refine o_end [4, 5, 6] rfl ?_
    refine x_then ?_
    refine c_seq ?_
    refine c_region ?_
    refine o_yield rfl rfl rfl (y_val tok rfl) ?_
    refine o_yield rfl rfl rfl (y_val tok rfl) ?_
    refine o_yield rfl rfl rfl (y_val tok rfl) ?_
    refine o_yield rfl rfl rfl (y_val tok rfl) ?_
    refine o_yield rfl rfl rfl (y_val tok rfl) ?_
    refine o_yield rfl rfl rfl (y_val tok rfl) ?_
    refine o_end [4, 19] rfl ?_
    refine x_then ?_
    refine c_cond rfl (fun h => ?_) (fun h => ?_)
    · exact absurd h (by decide)
    ·
      refine c_skip ?_
      refine x_then ?_
      refine c_seq ?_
      refine c_region ?_
      refine o_yield rfl rfl rfl (y_val tok rfl) ?_
      refine o_yield rfl rfl rfl (y_val tok rfl) ?_
      refine o_end [2, 3] rfl ?_
      refine x_then ?_
      refine c_ret ?_
      refine b_ret tok rfl ?_
      intro E w' hm _
      refine ⟨?_, hm.below ((hle1.trans hle2))⟩
      have : tailOk s = none := by rw [tailOk, hfr]
      rw [tailV, tailE, this]; rfl
end Go.Proofs.Ytflimioplnbopaa

/- The law SuperTells from what comes in. -/
set_option linter.unusedVariables false
set_option linter.unusedSimpArgs false
set_option maxRecDepth 100000
namespace Go.Proofs.Ytflimioplnbopaa
open Go Go.Eng Go.RowKit

theorem rwidths_c (w : World) : Calls Try.prog 138 #[] w fun e w' => ∃ v, e = .returned v ∧ w'.ownsRow w.heap.size 3 1 v gW.length (gW.flatMap encI64) ∧ Below w.heap.size w w' := by
  refine enter (E := E0) (O := []) (nl := 0) (V := vw w) [] Try.func138 rfl rfl (mem0 E0 0 w) rfl rfl ?_
  refine c_seq ?_
  refine c_region ?_
  refine o_yield rfl rfl rfl (y_val tok rfl) ?_
  refine o_end [] rfl ?_
  refine x_then ?_
  refine c_seq ?_
  refine c_region ?_
  refine o_step rfl rfl rfl rfl rfl (s_bs tok 1 rfl rfl rfl) (fun _ _ => ?_)
  refine o_yield rfl rfl rfl (y_val tok rfl) ?_
  refine o_end [0] rfl ?_
  refine x_then ?_
  refine c_ret ?_
  refine b_ret tok rfl ?_
  intro E w' hm _
  exact ⟨E.κ 0, rfl, hm.rowFresh (Vw.le.refl _) (l := 0) rfl, hm.below (Vw.le.refl _)⟩

def gMk (g : Geo) : ByteArray × Int := sealS 1 (strOf (packL gW (gNums g)) ++ ByteArray.empty)

theorem rsbytes_c (g : Geo) (ok : g.Ok) (w : World) : Calls Try.prog 92 #[g.val] w fun e w' => e = .returned (.tuple #[S (gbV g), I (gbE g)]) ∧ Below w.heap.size w w' := by
  refine enter (E := E0) (O := []) (nl := 0) (V := vw w) [.a (.v g.val)] Try.func92 rfl rfl (mem0 E0 0 w) rfl rfl ?_
  refine c_seq ?_
  refine c_region ?_
  refine o_new tok rfl rfl rfl rfl ?_
  refine o_yield rfl rfl rfl (y_val tok rfl) ?_
  refine o_yield rfl rfl rfl (y_val tok rfl) ?_
  refine o_end [1] rfl ?_
  refine x_then ?_
  refine c_seq ?_
  refine c_seq ?_
  refine c_region ?_
  refine o_yield rfl rfl rfl (y_val tok rfl) ?_
  refine o_call (.a (.v _)) rfl rfl fnok14 rfl rfl rfl (fun hg E w1 hm => by exact refMay_c g ok _) ?_
  refine o_yield rfl rfl rfl (y_val tok rfl) ?_
  refine o_end [1, 6] rfl ?_
  refine x_then ?_
  refine c_cond rfl (fun h => ?_) (fun h => ?_)
  ·
    simp only [Bool.and_eq_true, Bool.or_eq_true, Bool.not_eq_true', Bool.or_eq_false_iff, Bool.and_eq_false_iff, decide_eq_true_eq, decide_eq_false_iff_not, beq_iff_eq, bne_iff_ne, Bool.not_eq_false', beq_eq_false_iff_ne, bne_eq_false_iff_eq, ne_eq, Decidable.not_not, Int.not_lt, Int.not_le] at h
    refine c_seq ?_
    refine c_region ?_
    refine o_yield rfl rfl rfl (y_val tok rfl) ?_
    refine o_yield rfl rfl rfl (y_val tok rfl) ?_
    refine o_end [2, 3] rfl ?_
    refine x_then ?_
    refine c_ret ?_
    refine x_then_ret ?_
    refine b_ret tok rfl ?_
    intro E w' hm _
    refine ⟨?_, hm.below (Vw.le.refl _)⟩
    rw [gbV, gbE, if_neg (by simp [h]), if_neg (by simp [h])]; rfl
  ·
    simp only [Bool.and_eq_true, Bool.or_eq_true, Bool.not_eq_true', Bool.or_eq_false_iff, Bool.and_eq_false_iff, decide_eq_true_eq, decide_eq_false_iff_not, beq_iff_eq, bne_iff_ne, Bool.not_eq_false', beq_eq_false_iff_ne, bne_eq_false_iff_eq, ne_eq, Decidable.not_not, Int.not_lt, Int.not_le] at h
    refine c_skip ?_
    refine x_then ?_
    refine c_seq ?_
    have hgg := h
    clear h
    refine c_heldM (σ := Unit) (fun _ => [(2, .a (.v (S (gMk g).1))), (3, .a (.v (I (gMk g).2)))]) (fun _ => []) (1) (fun _ => vw w) (fun _ => True) mixed ?_ ?_
    ·
      refine t_take 1 rfl (by kernel_rfl) rfl rfl rfl (y_val tok rfl) rfl ?_
      refine t_take 2 rfl (by kernel_rfl) rfl rfl rfl (y_val tok rfl) rfl ?_
      refine t_take 3 rfl (by kernel_rfl) rfl rfl rfl (y_val tok rfl) rfl ?_
      refine t_take 4 rfl (by kernel_rfl) rfl rfl rfl (y_val tok rfl) rfl ?_
      refine t_take 5 rfl (by kernel_rfl) rfl rfl rfl (y_val tok rfl) rfl ?_
      refine t_take 6 rfl (by kernel_rfl) rfl rfl rfl (y_val tok rfl) rfl ?_
      refine t_take 7 rfl (by kernel_rfl) rfl rfl rfl (y_val tok rfl) rfl ?_
      refine t_take 8 rfl (by kernel_rfl) rfl rfl rfl (y_val tok rfl) rfl ?_
      refine t_take 9 rfl (by kernel_rfl) rfl rfl rfl (y_val tok rfl) rfl ?_
      refine t_take 10 rfl (by kernel_rfl) rfl rfl rfl (y_val tok rfl) rfl ?_
      refine t_take 11 rfl (by kernel_rfl) rfl rfl rfl (y_val tok rfl) rfl ?_
      refine t_take 12 rfl (by kernel_rfl) rfl rfl rfl (y_val tok rfl) rfl ?_
      refine t_take 13 rfl (by kernel_rfl) rfl rfl rfl (y_val tok rfl) rfl ?_
      refine t_take 14 rfl (by kernel_rfl) rfl rfl rfl (y_val tok rfl) rfl ?_
      refine t_take 15 rfl (by kernel_rfl) rfl rfl rfl (y_val tok rfl) rfl ?_
      refine t_take 16 rfl (by kernel_rfl) rfl rfl rfl (y_val tok rfl) rfl ?_
      refine t_go ?_
      refine h_two 0 17 (by kernel_rfl) ?_ ?_
      ·
        refine h_to 0 rfl rfl rfl rfl rfl rfl (s_callRow 3 1 gW.length (gW.flatMap encI64) rfl fnok138 (fun E w1 hm => rwidths_c w1)) (.inr fun _ _ => ⟨(by repeat (first | exact SubO.nil | refine SubO.cons rfl ?_)), rfl, (by first | exact Vw.le.refl _ | assumption)⟩) (fun _ _ => ?_)
        refine h_one 17 (by kernel_rfl) ?_
        refine h_to 17 rfl rfl rfl rfl rfl rfl (s_bs tok 1 rfl rfl rfl) (.inr fun _ _ => ⟨(by repeat (first | exact SubO.nil | refine SubO.cons rfl ?_)), rfl, (by first | exact Vw.le.refl _ | assumption)⟩) (fun _ _ => ?_)
        refine h_one 18 (by kernel_rfl) ?_
        refine h_call 18 (.tup [.v (S (gMk g).1), .v (I (gMk g).2)]) rfl rfl rfl fnok93 rfl rfl rfl (fun hg E w1 hm => by first|exact refMake_c 1 (by unfold R8; omega) ByteArray.empty (vw w1) _ _ gW (gNums g) w1 (by simp) (Vw.le.refl _) (hm.rowOf 1 rfl (fun _ => rfl)) (hm.rowOf (enc := encI64) (L := gNums g) 2 rfl (fun _ => rfl)) rfl (by simp) (fun i k n hk hn => putOk_of (gnums_fit hgg i k n hk hn)) (gpack_take g)|exact refMake_c 1 (by unfold R8; omega) ByteArray.empty (vw w1) _ _ gW (gNums g) w1 (by simp) (Vw.le.refl _) (hm.rowOf 2 rfl (fun _ => rfl)) (hm.rowOf (enc := encI64) (L := gNums g) 1 rfl (fun _ => rfl)) rfl (by simp) (fun i k n hk hn => putOk_of (gnums_fit hgg i k n hk hn)) (gpack_take g)) ?_
        refine h_two 19 20 (by kernel_rfl) ?_ ?_
        ·
          refine h_yield 19 rfl rfl rfl rfl (y_val tok rfl) ?_
          refine h_one 20 (by kernel_rfl) ?_
          refine h_yield 20 rfl rfl rfl rfl (y_val tok rfl) ?_
          refine h_one 21 (by kernel_rfl) ?_
          refine h_yield 21 rfl rfl rfl rfl (y_val tok rfl) ?_
          refine h_one 22 (by kernel_rfl) ?_
          refine h_yield 22 rfl rfl rfl rfl (y_val tok rfl) ?_
          refine h_done [2, 3] (by kernel_rfl) rfl ?_
          exact x_meet () trivial (by repeat (first | exact SubF.nil | refine SubF.cons rfl ?_)) (by repeat (first | exact SubO.nil | refine SubO.cons rfl ?_)) rfl (Vw.le.refl _)
        ·
          refine h_yield 20 rfl rfl rfl rfl (y_val tok rfl) ?_
          refine h_one 19 (by kernel_rfl) ?_
          refine h_yield 19 rfl rfl rfl rfl (y_val tok rfl) ?_
          refine h_one 21 (by kernel_rfl) ?_
          refine h_yield 21 rfl rfl rfl rfl (y_val tok rfl) ?_
          refine h_one 22 (by kernel_rfl) ?_
          refine h_yield 22 rfl rfl rfl rfl (y_val tok rfl) ?_
          refine h_done [2, 3] (by kernel_rfl) rfl ?_
          exact x_meet () trivial (by repeat (first | exact SubF.nil | refine SubF.cons rfl ?_)) (by repeat (first | exact SubO.nil | refine SubO.cons rfl ?_)) rfl (Vw.le.refl _)
      ·
        refine h_to 17 rfl rfl rfl rfl rfl rfl (s_bs tok 1 rfl rfl rfl) (.inr fun _ _ => ⟨(by repeat (first | exact SubO.nil | refine SubO.cons rfl ?_)), rfl, (by first | exact Vw.le.refl _ | assumption)⟩) (fun _ _ => ?_)
        refine h_one 0 (by kernel_rfl) ?_
        refine h_to 0 rfl rfl rfl rfl rfl rfl (s_callRow 3 1 gW.length (gW.flatMap encI64) rfl fnok138 (fun E w1 hm => rwidths_c w1)) (.inr fun _ _ => ⟨(by repeat (first | exact SubO.nil | refine SubO.cons rfl ?_)), rfl, (by first | exact Vw.le.refl _ | assumption)⟩) (fun _ _ => ?_)
        refine h_one 18 (by kernel_rfl) ?_
        refine h_call 18 (.tup [.v (S (gMk g).1), .v (I (gMk g).2)]) rfl rfl rfl fnok93 rfl rfl rfl (fun hg E w1 hm => by first|exact refMake_c 1 (by unfold R8; omega) ByteArray.empty (vw w1) _ _ gW (gNums g) w1 (by simp) (Vw.le.refl _) (hm.rowOf 1 rfl (fun _ => rfl)) (hm.rowOf (enc := encI64) (L := gNums g) 2 rfl (fun _ => rfl)) rfl (by simp) (fun i k n hk hn => putOk_of (gnums_fit hgg i k n hk hn)) (gpack_take g)|exact refMake_c 1 (by unfold R8; omega) ByteArray.empty (vw w1) _ _ gW (gNums g) w1 (by simp) (Vw.le.refl _) (hm.rowOf 2 rfl (fun _ => rfl)) (hm.rowOf (enc := encI64) (L := gNums g) 1 rfl (fun _ => rfl)) rfl (by simp) (fun i k n hk hn => putOk_of (gnums_fit hgg i k n hk hn)) (gpack_take g)) ?_
        refine h_two 19 20 (by kernel_rfl) ?_ ?_
        ·
          refine h_yield 19 rfl rfl rfl rfl (y_val tok rfl) ?_
          refine h_one 20 (by kernel_rfl) ?_
          refine h_yield 20 rfl rfl rfl rfl (y_val tok rfl) ?_
          refine h_one 21 (by kernel_rfl) ?_
          refine h_yield 21 rfl rfl rfl rfl (y_val tok rfl) ?_
          refine h_one 22 (by kernel_rfl) ?_
          refine h_yield 22 rfl rfl rfl rfl (y_val tok rfl) ?_
          refine h_done [2, 3] (by kernel_rfl) rfl ?_
          exact x_meet () trivial (by repeat (first | exact SubF.nil | refine SubF.cons rfl ?_)) (by repeat (first | exact SubO.nil | refine SubO.cons rfl ?_)) rfl (Vw.le.refl _)
        ·
          refine h_yield 20 rfl rfl rfl rfl (y_val tok rfl) ?_
          refine h_one 19 (by kernel_rfl) ?_
          refine h_yield 19 rfl rfl rfl rfl (y_val tok rfl) ?_
          refine h_one 21 (by kernel_rfl) ?_
          refine h_yield 21 rfl rfl rfl rfl (y_val tok rfl) ?_
          refine h_one 22 (by kernel_rfl) ?_
          refine h_yield 22 rfl rfl rfl rfl (y_val tok rfl) ?_
          refine h_done [2, 3] (by kernel_rfl) rfl ?_
          exact x_meet () trivial (by repeat (first | exact SubF.nil | refine SubF.cons rfl ?_)) (by repeat (first | exact SubO.nil | refine SubO.cons rfl ?_)) rfl (Vw.le.refl _)
    rintro ⟨⟩ -
    refine x_then ?_
    refine c_ret ?_
    refine b_ret tok rfl ?_
    intro E w' hm _
    refine ⟨?_, hm.below (Vw.le.refl _)⟩
    rw [gbV, gbE, if_pos hgg, if_pos hgg, gMk, gseal]; rfl

theorem rsread_c (s : ByteArray) (hs : s.size ≤ maxLen) (w : World) : Calls Try.prog 55 #[S s] w fun e w' => e = .returned (.tuple #[(srV s).val, I (srE s)]) ∧ Below w.heap.size w w' := by
  refine enter (E := E0) (O := []) (nl := 0) (V := vw w) [.a (.v (S s))] Try.func55 rfl rfl (mem0 E0 0 w) rfl rfl ?_
  refine c_seq ?_
  refine c_region ?_
  refine o_new tok rfl rfl rfl rfl ?_
  refine o_yield rfl rfl rfl (y_val tok rfl) ?_
  refine o_end [0, 2] rfl ?_
  refine x_then ?_
  refine c_seq ?_
  refine c_region ?_
  refine o_yield rfl rfl rfl (y_val tok rfl) ?_
  refine o_step rfl rfl rfl rfl rfl (s_callRow 3 1 gW.length (gW.flatMap encI64) rfl fnok138 (fun E w1 hm => rwidths_c w1)) (fun _ _ => ?_)
  refine o_callV (FVal 1 s gW) rfl rfl fnok137 rfl rfl (fun hg E w1 hm => by exact fval_of hm.leV (refFields_c 1 s (vw w1) _ gW w1 hs (Vw.le.refl _) (hm.rowOf 1 rfl (fun _ => rfl)) (by simp))) ?_
  rintro x V1 hle1 hx
  have hx' := hx rfl
  clear hx
  rcases hx' with ⟨l, r, v, hfr, rfl, hsl⟩ | ⟨hfr, rfl⟩
  rotate_left
  ·
    refine o_yield rfl rfl rfl (y_val tok rfl) ?_
    refine o_yield rfl rfl rfl (y_val tok rfl) ?_
    refine o_yield rfl rfl rfl (y_val tok rfl) ?_
    refine o_yield rfl rfl rfl (y_val tok rfl) ?_
    refine o_yield rfl rfl rfl (y_val tok rfl) ?_
    refine o_yield rfl rfl rfl (y_val tok rfl) ?_
    refine o_yield rfl rfl rfl (y_val tok rfl) ?_
    refine o_end [2, 4, 5, 6] rfl ?_
    refine x_then ?_
    refine c_seq ?_
    refine c_seq ?_
    refine c_region ?_
    refine o_yield rfl rfl rfl (y_val tok rfl) ?_
    refine o_yield rfl rfl rfl (y_val tok rfl) ?_
    refine o_yield rfl rfl rfl (y_val tok rfl) ?_
    refine o_yield rfl rfl rfl (y_val tok rfl) ?_
    refine o_yield rfl rfl rfl (y_val tok rfl) ?_
    refine o_yield rfl rfl rfl (y_val tok rfl) ?_
    refine o_end [2, 4, 20] rfl ?_
    refine x_then ?_
    refine c_cond rfl (fun h => ?_) (fun h => ?_)
    ·
      refine c_seq ?_
      refine c_region ?_
      refine o_yield rfl rfl rfl (y_val tok rfl) ?_
      refine o_store tok rfl rfl rfl (by first | exact ⟨trivial, trivial⟩ | (repeat' first | exact trivial | exact rfl | apply And.intro); done | simp [onesP, oneP, lk, Value.oneCell']) ?_
      refine o_yield rfl rfl rfl (y_val tok rfl) ?_
      refine o_end [2, 3] rfl ?_
      refine x_then ?_
      refine c_ret ?_
      refine x_then_ret ?_
      refine b_ret tok rfl ?_
      intro E w' hm _
      refine ⟨?_, hm.below (hle1)⟩
      have : srOk s = none := by rw [srOk, hfr]
      rw [srV, srE, this]; rfl
    ·
      exact absurd h (by decide)
  ·
    have hl8 : l.length = 8 := by rw [fields_len hfr]; rfl
    have hl64 := fieldsR_64 hfr
    obtain ⟨a, b, c, d, e, f, g, i, rfl⟩ := eight hl8
    have hat : ∀ j (h : j < 8), ∃ n, ([a, b, c, d, e, f, g, i] : List Int)[j]? = some n := fun j h => ⟨([a, b, c, d, e, f, g, i] : List Int)[j]'(by simpa using h), by simp⟩
    refine o_yield rfl rfl rfl (y_val tok rfl) ?_
    refine o_yield rfl rfl rfl (y_val tok rfl) ?_
    refine o_yield rfl rfl rfl (y_val tok rfl) ?_
    refine o_yield rfl rfl rfl (y_val tok rfl) ?_
    refine o_yield rfl rfl rfl (y_val tok rfl) ?_
    refine o_yield rfl rfl rfl (y_val tok rfl) ?_
    refine o_yield rfl rfl rfl (y_val tok rfl) ?_
    refine o_end [2, 4, 5, 6] rfl ?_
    refine x_then ?_
    refine c_seq ?_
    refine c_seq ?_
    refine c_region ?_
    refine o_yield rfl rfl rfl (y_val tok rfl) ?_
    refine o_yield rfl rfl rfl (y_val tok rfl) ?_
    refine o_yield rfl rfl rfl (y_val tok rfl) ?_
    refine o_yield rfl rfl rfl (y_val tok rfl) ?_
    refine o_yield rfl rfl rfl (y_val tok rfl) ?_
    refine o_yield rfl rfl rfl (y_val tok rfl) ?_
    refine o_end [2, 4, 20] rfl ?_
    refine x_then ?_
    refine c_cond rfl (fun h => ?_) (fun h => ?_)
    ·
      refine c_seq ?_
      refine c_region ?_
      refine o_yield rfl rfl rfl (y_val tok rfl) ?_
      refine o_store tok rfl rfl rfl (by first | exact ⟨trivial, trivial⟩ | (repeat' first | exact trivial | exact rfl | apply And.intro); done | simp [onesP, oneP, lk, Value.oneCell']) ?_
      refine o_yield rfl rfl rfl (y_val tok rfl) ?_
      refine o_end [2, 3] rfl ?_
      refine x_then ?_
      refine c_ret ?_
      refine x_then_ret ?_
      refine b_ret tok rfl ?_
      intro E w' hm _
      refine ⟨?_, hm.below (hle1)⟩
      have : srOk s = none := by
        rw [srOk, hfr]
        simp only
        rw [if_neg]
        rintro ⟨h1, h2⟩
        rw [bne, size_empty'] at h
        simp [h1] at h
      rw [srV, srE, this]; rfl
    ·
      have hr0 : r.size = 0 := by
        rw [bne, size_empty'] at h
        simpa using h
      clear h
      have e0 : ([a, b, c, d, e, f, g, i] : List Int)[0]? = some a := rfl
      have e1 : ([a, b, c, d, e, f, g, i] : List Int)[1]? = some b := rfl
      have e2 : ([a, b, c, d, e, f, g, i] : List Int)[2]? = some c := rfl
      have e3 : ([a, b, c, d, e, f, g, i] : List Int)[3]? = some d := rfl
      have e4 : ([a, b, c, d, e, f, g, i] : List Int)[4]? = some e := rfl
      have e5 : ([a, b, c, d, e, f, g, i] : List Int)[5]? = some f := rfl
      have e6 : ([a, b, c, d, e, f, g, i] : List Int)[6]? = some g := rfl
      have e7 : ([a, b, c, d, e, f, g, i] : List Int)[7]? = some i := rfl
      refine c_skip ?_
      refine x_then ?_
      refine c_seq ?_
      refine c_heldR mixed rfl (by repeat (first | exact SubO.nil | refine SubO.cons rfl ?_)) (by first | rfl | simp [okCels, allOk_plain]) ?_
      refine t_take 0 rfl (by kernel_rfl) rfl rfl rfl (y_val tok rfl) rfl ?_
      have hlt_a := lt_of_at e0
      refine t_take 1 rfl (by kernel_rfl) rfl rfl rfl (y_idx tok rfl (fun hg => hsl.sl) (fun hg => ⟨by omega, by omega⟩)) rfl ?_
      refine t_take 2 rfl (by kernel_rfl) rfl rfl rfl (y_lel tok (0) 0 (a) rfl (fun hg => hsl) (fun hg => e0) rfl rfl) rfl ?_
      refine t_take 3 rfl (by kernel_rfl) rfl rfl rfl (y_val tok rfl) rfl ?_
      have hlt_b := lt_of_at e1
      refine t_take 4 rfl (by kernel_rfl) rfl rfl rfl (y_idx tok rfl (fun hg => hsl.sl) (fun hg => ⟨by omega, by omega⟩)) rfl ?_
      refine t_take 5 rfl (by kernel_rfl) rfl rfl rfl (y_lel tok (1) 0 (b) rfl (fun hg => hsl) (fun hg => e1) rfl rfl) rfl ?_
      refine t_take 6 rfl (by kernel_rfl) rfl rfl rfl (y_val tok rfl) rfl ?_
      have hlt_c := lt_of_at e2
      refine t_take 7 rfl (by kernel_rfl) rfl rfl rfl (y_idx tok rfl (fun hg => hsl.sl) (fun hg => ⟨by omega, by omega⟩)) rfl ?_
      refine t_take 8 rfl (by kernel_rfl) rfl rfl rfl (y_lel tok (2) 0 (c) rfl (fun hg => hsl) (fun hg => e2) rfl rfl) rfl ?_
      refine t_take 9 rfl (by kernel_rfl) rfl rfl rfl (y_val tok rfl) rfl ?_
      have hlt_d := lt_of_at e3
      refine t_take 10 rfl (by kernel_rfl) rfl rfl rfl (y_idx tok rfl (fun hg => hsl.sl) (fun hg => ⟨by omega, by omega⟩)) rfl ?_
      refine t_take 11 rfl (by kernel_rfl) rfl rfl rfl (y_lel tok (3) 0 (d) rfl (fun hg => hsl) (fun hg => e3) rfl rfl) rfl ?_
      refine t_take 12 rfl (by kernel_rfl) rfl rfl rfl (y_val tok rfl) rfl ?_
      have hlt_e := lt_of_at e4
      refine t_take 13 rfl (by kernel_rfl) rfl rfl rfl (y_idx tok rfl (fun hg => hsl.sl) (fun hg => ⟨by omega, by omega⟩)) rfl ?_
      refine t_take 14 rfl (by kernel_rfl) rfl rfl rfl (y_lel tok (4) 0 (e) rfl (fun hg => hsl) (fun hg => e4) rfl rfl) rfl ?_
      refine t_take 15 rfl (by kernel_rfl) rfl rfl rfl (y_val tok rfl) rfl ?_
      have hlt_f := lt_of_at e5
      refine t_take 16 rfl (by kernel_rfl) rfl rfl rfl (y_idx tok rfl (fun hg => hsl.sl) (fun hg => ⟨by omega, by omega⟩)) rfl ?_
      refine t_take 17 rfl (by kernel_rfl) rfl rfl rfl (y_lel tok (5) 0 (f) rfl (fun hg => hsl) (fun hg => e5) rfl rfl) rfl ?_
      refine t_take 18 rfl (by kernel_rfl) rfl rfl rfl (y_val tok rfl) rfl ?_
      have hlt_g := lt_of_at e6
      refine t_take 19 rfl (by kernel_rfl) rfl rfl rfl (y_idx tok rfl (fun hg => hsl.sl) (fun hg => ⟨by omega, by omega⟩)) rfl ?_
      refine t_take 20 rfl (by kernel_rfl) rfl rfl rfl (y_lel tok (6) 0 (g) rfl (fun hg => hsl) (fun hg => e6) rfl rfl) rfl ?_
      refine t_take 21 rfl (by kernel_rfl) rfl rfl rfl (y_val tok rfl) rfl ?_
      have hlt_i := lt_of_at e7
      refine t_take 22 rfl (by kernel_rfl) rfl rfl rfl (y_idx tok rfl (fun hg => hsl.sl) (fun hg => ⟨by omega, by omega⟩)) rfl ?_
      refine t_take 23 rfl (by kernel_rfl) rfl rfl rfl (y_lel tok (7) 0 (i) rfl (fun hg => hsl) (fun hg => e7) rfl rfl) rfl ?_
      refine t_take 24 rfl (by kernel_rfl) rfl rfl rfl (y_val tok rfl) rfl ?_
      refine t_go ?_
      refine h_one 25 (by kernel_rfl) ?_
      refine h_new 25 tok rfl rfl rfl rfl rfl rfl ?_
      refine h_one 26 (by kernel_rfl) ?_
      refine h_store 26 tok rfl rfl rfl rfl (by first | exact ⟨trivial, trivial⟩ | (repeat' first | exact trivial | exact rfl | apply And.intro); done | simp [onesP, oneP, lk, Value.oneCell']) (.inr ⟨(by repeat (first | exact SubO.nil | refine SubO.cons rfl ?_)), rfl, Vw.le.refl _⟩) ?_
      refine h_done [2, 7] (by kernel_rfl) rfl ?_
      refine x_then ?_
      refine c_seq ?_
      refine c_seq ?_
      refine c_region ?_
      refine o_yield rfl rfl rfl (y_val tok rfl) ?_
      have okg := geoOf_ok hl8 hl64
      refine o_call (.a (.v _)) rfl rfl fnok14 rfl rfl rfl (fun hg E w1 hm => by exact refMay_c (⟨a, b, c, d, e, f, g, i⟩ : Geo) okg _) ?_
      refine o_yield rfl rfl rfl (y_val tok rfl) ?_
      refine o_end [2, 7, 49] rfl ?_
      refine x_then ?_
      refine c_cond rfl (fun h => ?_) (fun h => ?_)
      ·
        simp only [Bool.and_eq_true, Bool.or_eq_true, Bool.not_eq_true', Bool.or_eq_false_iff, Bool.and_eq_false_iff, decide_eq_true_eq, decide_eq_false_iff_not, beq_iff_eq, bne_iff_ne, Bool.not_eq_false', beq_eq_false_iff_ne, bne_eq_false_iff_eq, ne_eq, Decidable.not_not, Int.not_lt, Int.not_le] at h
        refine c_seq ?_
        refine c_region ?_
        refine o_yield rfl rfl rfl (y_val tok rfl) ?_
        refine o_store tok rfl rfl rfl (by first | exact ⟨trivial, trivial⟩ | (repeat' first | exact trivial | exact rfl | apply And.intro); done | simp [onesP, oneP, lk, Value.oneCell']) ?_
        refine o_yield rfl rfl rfl (y_val tok rfl) ?_
        refine o_end [2, 3] rfl ?_
        refine x_then ?_
        refine c_ret ?_
        refine x_then_ret ?_
        refine b_ret tok rfl ?_
        intro E w' hm _
        refine ⟨?_, hm.below (hle1)⟩
        have : srOk s = none := by
          rw [srOk, hfr]
          simp only
          rw [if_neg]
          rintro ⟨_, h2⟩
          have : geoB (⟨a, b, c, d, e, f, g, i⟩ : Geo) = true := h2
          rw [this] at h
          cases h
        rw [srV, srE, this]; rfl
      ·
        simp only [Bool.and_eq_true, Bool.or_eq_true, Bool.not_eq_true', Bool.or_eq_false_iff, Bool.and_eq_false_iff, decide_eq_true_eq, decide_eq_false_iff_not, beq_iff_eq, bne_iff_ne, Bool.not_eq_false', beq_eq_false_iff_ne, bne_eq_false_iff_eq, ne_eq, Decidable.not_not, Int.not_lt, Int.not_le] at h
        refine c_skip ?_
        refine x_then ?_
        refine c_seq ?_
        refine c_region ?_
        refine o_yield rfl rfl rfl (y_val tok rfl) ?_
        refine o_store tok rfl rfl rfl (by first | exact ⟨trivial, trivial⟩ | (repeat' first | exact trivial | exact rfl | apply And.intro); done | simp [onesP, oneP, lk, Value.oneCell']) ?_
        refine o_yield rfl rfl rfl (y_val tok rfl) ?_
        refine o_end [2, 3] rfl ?_
        refine x_then ?_
        refine c_ret ?_
        refine b_ret tok rfl ?_
        intro E w' hm _
        refine ⟨?_, hm.below (hle1)⟩
        have : srOk s = some ⟨a, b, c, d, e, f, g, i⟩ := by
          rw [srOk, hfr]
          simp only
          rw [if_pos ⟨hr0, h⟩]; rfl
        rw [srV, srE, this]; rfl

theorem rstail_c (s : ByteArray) (hs : s.size ≤ maxLen) (w : World) : Calls Try.prog 54 #[S s] w fun e w' => e = .returned (.tuple #[I (tailV s), I (tailE s)]) ∧ Below w.heap.size w w' := by
  refine enter (E := E0) (O := []) (nl := 0) (V := vw w) [.a (.v (S s))] Try.func54 rfl rfl (mem0 E0 0 w) rfl rfl ?_
  refine c_seq ?_
  refine c_region ?_
  refine o_yield rfl rfl rfl (y_val tok rfl) ?_
  refine o_yield rfl rfl rfl (y_val tok rfl) ?_
  refine o_end [0] rfl ?_
  refine x_then ?_
  refine c_seq ?_
  refine c_region ?_
  refine o_yield rfl rfl rfl (y_val tok rfl) ?_
  refine o_bs tok rfl rfl rfl rfl (fun b1 V1 hle1 hb1 => ?_)
  refine o_callV (FVal 2 s [6]) rfl rfl fnok137 rfl rfl (fun hg E w1 hm => by exact fval_of hm.leV (refFields_c 2 s V1 _ [6] w1 hs hm.leV (SlOf.ofBlock (enc := encI64) (sz := 1) (l := [6]) (hb1 rfl) rfl (fun _ => rfl) (Nat.le_refl _)) (by simp))) ?_
  rintro x V2 hle2 hx
  have hx' := hx rfl
  clear hx
  rcases hx' with ⟨l, r, v, hfr, rfl, hsl⟩ | ⟨hfr, rfl⟩
  ·
    obtain ⟨a, rfl⟩ := one_list (by rw [fields_len hfr]; rfl)
    have e1 : ([a] : List Int)[0]? = some a := rfl
    refine o_yield rfl rfl rfl (y_val tok rfl) ?_
    refine o_yield rfl rfl rfl (y_val tok rfl) ?_
    refine o_yield rfl rfl rfl (y_val tok rfl) ?_
    refine o_yield rfl rfl rfl (y_val tok rfl) ?_
    refine o_yield rfl rfl rfl (y_val tok rfl) ?_
    refine o_yield rfl rfl rfl (y_val tok rfl) ?_
    refine o_yield rfl rfl rfl (y_val tok rfl) ?_
    refine o_end [4, 5, 6] rfl ?_
    refine x_then ?_
    refine c_seq ?_
    refine c_seq ?_
    refine c_region ?_
    refine o_yield rfl rfl rfl (y_val tok rfl) ?_
    refine o_yield rfl rfl rfl (y_val tok rfl) ?_
    refine o_yield rfl rfl rfl (y_val tok rfl) ?_
    refine o_yield rfl rfl rfl (y_val tok rfl) ?_
    refine o_yield rfl rfl rfl (y_val tok rfl) ?_
    refine o_yield rfl rfl rfl (y_val tok rfl) ?_
    refine o_end [4, 19] rfl ?_
    refine x_then ?_
    refine c_cond rfl (fun h => ?_) (fun h => ?_)
    ·
      refine c_seq ?_
      refine c_region ?_
      refine o_yield rfl rfl rfl (y_val tok rfl) ?_
      refine o_yield rfl rfl rfl (y_val tok rfl) ?_
      refine o_end [2, 3] rfl ?_
      refine x_then ?_
      refine c_ret ?_
      refine x_then_ret ?_
      refine b_ret tok rfl ?_
      intro E w' hm _
      refine ⟨?_, hm.below ((hle1.trans hle2))⟩
      have : tailOk s = none := by
        rw [tailOk, hfr]
        simp only
        rw [bne, size_empty'] at h
        rw [if_neg (by simpa using h)]
      rw [tailV, tailE, this]; rfl
    ·
      refine c_skip ?_
      refine x_then ?_
      refine c_seq ?_
      refine c_region ?_
      refine o_yield rfl rfl rfl (y_val tok rfl) ?_
      have hlt_a := lt_of_at e1
      refine o_yield rfl rfl rfl (y_idx tok rfl (fun hg => hsl.sl) (fun hg => ⟨by omega, by omega⟩)) ?_
      refine o_yield rfl rfl rfl (y_lel tok (0) 0 (a) rfl (fun hg => hsl) (fun hg => e1) rfl rfl) ?_
      refine o_yield rfl rfl rfl (y_val tok rfl) ?_
      refine o_yield rfl rfl rfl (y_val tok rfl) ?_
      refine o_end [2, 3] rfl ?_
      refine x_then ?_
      refine c_ret ?_
      refine b_ret tok rfl ?_
      intro E w' hm _
      refine ⟨?_, hm.below ((hle1.trans hle2))⟩
      have : tailOk s = some a := by
        rw [tailOk, hfr]
        simp only
        rw [bne, size_empty'] at h
        rw [if_pos (by simpa using h)]; rfl
      rw [tailV, tailE, this]; rfl
  ·
    refine o_yield rfl rfl rfl (y_val tok rfl) ?_
    refine o_yield rfl rfl rfl (y_val tok rfl) ?_
    refine o_yield rfl rfl rfl (y_val tok rfl) ?_
    refine o_yield rfl rfl rfl (y_val tok rfl) ?_
    refine o_yield rfl rfl rfl (y_val tok rfl) ?_
    refine o_yield rfl rfl rfl (y_val tok rfl) ?_
    refine o_yield rfl rfl rfl (y_val tok rfl) ?_
    refine o_end [4, 5, 6] rfl ?_
    refine x_then ?_
    refine c_seq ?_
    refine c_seq ?_
    refine c_region ?_
    refine o_yield rfl rfl rfl (y_val tok rfl) ?_
    refine o_yield rfl rfl rfl (y_val tok rfl) ?_
    refine o_yield rfl rfl rfl (y_val tok rfl) ?_
    refine o_yield rfl rfl rfl (y_val tok rfl) ?_
    refine o_yield rfl rfl rfl (y_val tok rfl) ?_
    refine o_yield rfl rfl rfl (y_val tok rfl) ?_
    refine o_end [4, 19] rfl ?_
    refine x_then ?_
    refine c_cond rfl (fun h => ?_) (fun h => ?_)
    ·
      refine c_seq ?_
      refine c_region ?_
      refine o_yield rfl rfl rfl (y_val tok rfl) ?_
      refine o_yield rfl rfl rfl (y_val tok rfl) ?_
      refine o_end [2, 3] rfl ?_
      refine x_then ?_
      refine c_ret ?_
      refine x_then_ret ?_
      refine b_ret tok rfl ?_
      intro E w' hm _
      refine ⟨?_, hm.below ((hle1.trans hle2))⟩
      have : tailOk s = none := by rw [tailOk, hfr]
      rw [tailV, tailE, this]; rfl
    ·
      exact absurd h (by decide)

theorem kind2 : kindOf8 2 = 2 := by decide

/-- A header's sector is read as its tail. -/
theorem tail_seal {n : Int} (h : fitsB n 6 = true) : tailOk (strOf (sealL 2 (leB 6 n))) = some n := by
  have h6 : (packL [6] [n]) = leB 6 n := by simp [packL]
  have hl : (leB 6 n).length = 6 := by simp [leB, leTake_len]
  have hp := fldA_pack [6] [n] [] [] rfl (fun i k m hk hn => by
    cases i with
    | zero => cases hk; cases hn; exact h
    | succ i => simp at hk)
  rw [List.append_nil, h6] at hp
  have ho : openB (strOf (sealL 2 (leB 6 n))) = true := openB_seal (by decide) (by decide) (by omega)
  have hof : ofB 2 (strOf (sealL 2 (leB 6 n))) = true := by
    rw [ofB, ho, byteAt_seal, Bool.true_and]; decide
  have hfr : fieldsR 2 (strOf (sealL 2 (leB 6 n))) [6] = some ([] ++ [n], strOf []) := by
    rw [fieldsR, if_pos hof, loadOf_seal, hp]
  rw [tailOk, hfr]
  simp only
  rw [if_pos (by rw [strOf_size]; rfl)]
  rfl

theorem headS_eq {n : Int} (h : fitsB n 6 = true) : headS n = (strOf (sealL 2 (leB 6 n)), 0) := by rw [headS, if_pos h]

theorem tail_head {n : Int} (h : fitsB n 6 = true) : tailOk (headS n).1 = some n := by
  rw [headS_eq h]
  exact tail_seal h

theorem check_nil (w : World) : Calls Try.prog 47 #[.slice none 0 0] w fun e w' => e = .returned (.tuple #[geo0.val, I 50]) ∧ Below w.heap.size w w' := by
  refine enter (E := E0) (O := []) (nl := 0) (V := vw w) [.a (.v (.slice none 0 0))] Try.func47 rfl rfl (mem0 E0 0 w) rfl rfl ?_
  refine c_seq ?_
  refine c_region ?_
  refine o_new tok rfl rfl rfl rfl ?_
  refine o_new tok rfl rfl rfl rfl ?_
  refine o_new tok rfl rfl rfl rfl ?_
  refine o_end [1, 2, 3] rfl ?_
  refine x_then ?_
  refine c_seq ?_
  refine c_seq ?_
  refine c_region ?_
  refine o_yield rfl rfl rfl (y_val tok rfl) ?_
  have hs := slNil (vw w) encS 1 0 (fun _ => rfl)
  refine o_yield rfl rfl rfl (y_len tok rfl (fun hg => hs.sl)) ?_
  refine o_yield rfl rfl rfl (y_val tok rfl) ?_
  refine o_end [1, 2, 3, 12] rfl ?_
  refine x_then ?_
  refine c_cond rfl (fun h => ?_) (fun h => ?_)
  ·
    refine c_seq ?_
    refine c_region ?_
    refine o_yield rfl rfl rfl (y_val tok rfl) ?_
    refine o_store tok rfl rfl rfl (by first | exact ⟨trivial, trivial⟩ | (repeat' first | exact trivial | exact rfl | apply And.intro); done | simp [onesP, oneP, lk, Value.oneCell']) ?_
    refine o_store tok rfl rfl rfl (by first | exact ⟨trivial, trivial⟩ | (repeat' first | exact trivial | exact rfl | apply And.intro); done | simp [onesP, oneP, lk, Value.oneCell']) ?_
    refine o_end [2, 3] rfl ?_
    refine x_then ?_
    refine c_ret ?_
    refine x_then_ret ?_
    refine b_ret tok rfl ?_
    intro E w' hm _
    refine ⟨?_, hm.below (Vw.le.refl _)⟩
    rfl
  ·
    exact absurd h (by decide)

theorem head7 : ∃ sv : ByteArray, tailOk sv = some 7 ∧ sv.size ≤ maxLen ∧ ∀ w, Calls Try.prog 53 #[I 7] w fun e w' => e = .returned (.tuple #[S sv, I 0]) ∧ Below w.heap.size w w' := by
  have h7 : fitsB 7 6 = true := by decide
  have e : headS 7 = (strOf (sealL 2 (leB 6 7)), 0) := by rw [headS, if_pos h7]
  have ht := tail_head h7
  rw [e] at ht
  refine ⟨strOf (sealL 2 (leB 6 7)), ht, ?_, fun w => ?_⟩
  · simp only [strOf_size, sealL_len, maxLen]
    have : (leB 6 7).length = 6 := by simp [leB, leTake_len]
    omega
  · have := shead_c 7 w
    rwa [e] at this

theorem wakes05_c (w : World) : Calls Try.prog 45 #[] w fun e w' => e = .returned (.bool true) ∧ Below w.heap.size w w' := by
  obtain ⟨sv, ht, hsz, hh⟩ := head7
  refine enter (E := E0) (O := []) (nl := 0) (V := vw w) [] Try.func45 rfl rfl (mem0 E0 0 w) rfl rfl ?_
  refine c_seq ?_
  refine c_region ?_
  refine o_yield rfl rfl rfl (y_val tok rfl) ?_
  refine o_end [] rfl ?_
  refine x_then ?_
  refine c_seq ?_
  refine c_region ?_
  refine o_call (.a (.v _)) rfl rfl fnok47 rfl rfl rfl (fun hg E w1 hm => by exact check_nil _) ?_
  refine o_yield rfl rfl rfl (y_val tok rfl) ?_
  refine o_yield rfl rfl rfl (y_val tok rfl) ?_
  refine o_yield rfl rfl rfl (y_val tok rfl) ?_
  refine o_new tok rfl rfl rfl rfl ?_
  refine o_store tok rfl rfl rfl (by first | exact ⟨trivial, trivial⟩ | (repeat' first | exact trivial | exact rfl | apply And.intro); done | simp [onesP, oneP, lk, Value.oneCell']) ?_
  refine o_yield rfl rfl rfl (y_val tok rfl) ?_
  refine o_end [2] rfl ?_
  refine x_then ?_
  refine c_seq ?_
  refine c_region ?_
  refine o_call (.a (.v _)) rfl rfl fnok53 rfl rfl rfl (fun hg E w1 hm => by exact hh _) ?_
  refine o_yield rfl rfl rfl (y_val tok rfl) ?_
  refine o_yield rfl rfl rfl (y_val tok rfl) ?_
  refine o_yield rfl rfl rfl (y_val tok rfl) ?_
  refine o_yield rfl rfl rfl (y_val tok rfl) ?_
  refine o_yield rfl rfl rfl (y_val tok rfl) ?_
  refine o_end [2, 3, 4] rfl ?_
  refine x_then ?_
  refine c_seq ?_
  refine c_region ?_
  refine o_yield rfl rfl rfl (y_val tok rfl) ?_
  refine o_call (.a (.v _)) rfl rfl fnok52 rfl rfl rfl (fun hg E w1 hm => by exact stail_c sv hsz _) ?_
  refine o_yield rfl rfl rfl (y_val tok rfl) ?_
  refine o_yield rfl rfl rfl (y_val tok rfl) ?_
  refine o_yield rfl rfl rfl (y_val tok rfl) ?_
  refine o_yield rfl rfl rfl (y_val tok rfl) ?_
  refine o_yield rfl rfl rfl (y_val tok rfl) ?_
  refine o_end [2, 4, 5, 6] rfl ?_
  refine x_then ?_
  refine c_seq ?_
  refine c_region ?_
  refine o_yield rfl rfl rfl (y_val tok rfl) ?_
  refine o_yield rfl rfl rfl (y_val tok rfl) ?_
  refine o_yield rfl rfl rfl (y_val tok rfl) ?_
  refine o_yield rfl rfl rfl (y_val tok rfl) ?_
  refine o_yield rfl rfl rfl (y_val tok rfl) ?_
  refine o_yield rfl rfl rfl (y_val tok rfl) ?_
  refine o_yield rfl rfl rfl (y_val tok rfl) ?_
  refine o_yield rfl rfl rfl (y_val tok rfl) ?_
  refine o_yield rfl rfl rfl (y_val tok rfl) ?_
  refine o_yield rfl rfl rfl (y_val tok rfl) ?_
  refine o_yield rfl rfl rfl (y_val tok rfl) ?_
  refine o_yield rfl rfl rfl (y_val tok rfl) ?_
  refine o_yield rfl rfl rfl (y_val tok rfl) ?_
  refine o_yield rfl rfl rfl (y_val tok rfl) ?_
  refine o_yield rfl rfl rfl (y_val tok rfl) ?_
  refine o_end [0] rfl ?_
  refine x_then ?_
  refine c_ret ?_
  refine b_ret tok rfl ?_
  intro E w' hm _
  refine ⟨?_, hm.below (Vw.le.refl _)⟩
  rw [tailV, tailE, ht]
  rfl

def Geo.eqB (a b : Geo) : Bool := a.nodes == b.nodes && (a.slots == b.slots && (a.blocks == b.blocks && (a.per == b.per && (a.journal == b.journal && (a.log == b.log && (a.lease == b.lease && a.wait == b.wait))))))

theorem geoEq {op : BinOp} {ox oy : Operand} (a b : Geo) (w : World) (hop : op = .eql ∨ op = .neq) :
    (do eqGuard op 23 ox oy a.val b.val; binOp op 23 a.val b.val : Sem Value).run Try.prog w = .ok (.bool (if op = .eql then a.eqB b else !(a.eqB b))) w := by
  have hS : Try.prog.underlying 23 = some (.struct (Try.prog.fieldsOf 23)) := by kernel_rfl
  have hp : Try.prog.stoodInHeld 23 = false := by kernel_rfl
  have hg : Try.prog.eqGuardType Try.prog.depth 23 = false := by kernel_rfl
  have key : (Op.equalIn 10000 23 a.val b.val).run Try.prog w = .ok (a.eqB b) w := by
    have u3 := Try.underlying3
    have a3 := Try.isAgg3
    have z3 := Try.sizeOf3
    rw [show (10000 : Nat) = 9999 + 1 from rfl, run_equalIn_agg w 9999 23 _ _ hS hp]
    simp only [Program.fieldsOf, Try.underlying23]
    go_simp
    unfold Geo.eqB
    by_cases h1 : a.nodes = b.nodes <;> simp [h1]
    by_cases h2 : a.slots = b.slots <;> simp [h2]
    by_cases h3 : a.blocks = b.blocks <;> simp [h3]
    by_cases h4 : a.per = b.per <;> simp [h4]
    by_cases h5 : a.journal = b.journal <;> simp [h5]
    by_cases h6 : a.log = b.log <;> simp [h6]
    by_cases h7 : a.lease = b.lease <;> simp [h7]
    by_cases h8 : a.wait = b.wait <;> simp [h8]
  rw [Sem.run_bind, run_eqGuard_agg w _ _ _ _ _ _ hg]
  rcases hop with rfl | rfl
  · simp only [Result.andThen_ok, run_eql_struct, key]; rfl
  · simp only [Result.andThen_ok, run_neq_struct, key]; rfl

theorem Geo.eqB_refl (a : Geo) : a.eqB a = true := by simp [Geo.eqB]

end Go.Proofs.Ytflimioplnbopaa

/- A device: its texts, its keys, its caches. -/
set_option linter.unusedVariables false
set_option linter.unusedSimpArgs false
set_option maxRecDepth 100000
namespace Go.Proofs.Ytflimioplnbopaa
open Go Go.Eng Go.RowKit

/-- A function value that tells pr, wherever V is read. -/
def TellsS (V : Vw) (fv : Value) (pr : ByteArray → Bool) : Prop :=
  ∀ (x : ByteArray) w', V.le (vw w') → CallsFn Try.prog fv [S x] w' fun e w'' => e = .returned (.bool (pr x)) ∧ Below w'.heap.size w' w''

def idxS (pr : ByteArray → Bool) : List ByteArray → Nat → Int
  | [], _ => -1
  | b :: r, i => if pr b = true then i else idxS pr r (i + 1)

theorem idxS_any (pr : ByteArray → Bool) : ∀ (l : List ByteArray) (i : Nat), decide (0 ≤ idxS pr l i) = l.any pr
  | [], _ => rfl
  | b :: r, i => by
    rw [idxS, List.any_cons]
    by_cases h : pr b = true
    · rw [if_pos h, h]; simp
    · rw [if_neg h, idxS_any pr r (i + 1)]; simp [h]

theorem indexS_c (V : Vw) (fv sv : Value) (pr : ByteArray → Bool) (l : List ByteArray) (w : World) (hV : V.le (vw w)) (hs0 : SlOf V encS 1 sv l) (hn : l.length ≤ 9223372036854775807) (hf : TellsS V fv pr) :
    Calls Try.prog 257 #[sv, fv] w fun e w' => e = .returned (I (idxS pr l 0)) ∧ Below w.heap.size w w' := by
  have hs := hs0.mono hV
  refine enter (E := E0) (O := []) (nl := 0) (V := vw w) [.a (.v sv), .a (.v fv)] Try.func257 rfl rfl (mem0 E0 0 w) rfl rfl ?_
  refine c_seq ?_
  refine c_region ?_
  refine o_yield rfl rfl rfl (y_val tok rfl) ?_
  refine o_end [0, 1] rfl ?_
  refine x_then ?_
  refine c_seq ?_
  refine c_seq ?_
  refine c_region ?_
  refine o_yield rfl rfl rfl (y_val tok rfl) ?_
  refine o_yield rfl rfl rfl (y_len tok rfl (fun hg => hs.sl)) ?_
  refine o_yield rfl rfl rfl (y_val tok rfl) ?_
  refine o_end [0, 1, 7, 8] rfl ?_
  refine x_then ?_
  refine c_block ?_
  refine c_loopK [0, 1, 7] [] rfl rfl (σ := Nat) (fun k => [(8, .a (.v (I k)))]) (fun k => []) (fun k => k ≤ l.length ∧ idxS pr l 0 = idxS pr (l.drop k) k) (fun k => l.length - k) (0) (⟨by omega, rfl⟩) (by repeat (first | exact SubF.nil | refine SubF.cons rfl ?_)) (by repeat (first | exact SubO.nil | refine SubO.cons rfl ?_)) rfl ?_
  rintro k ⟨hk, heq⟩
  refine c_seq ?_
  refine c_region ?_
  refine o_yield rfl rfl rfl (y_val tok rfl) ?_
  refine o_end [0, 1, 7, 8, 9] rfl ?_
  refine x_then ?_
  refine c_seq ?_
  refine c_cond rfl (fun h => ?_) (fun h => ?_)
  ·
    simp only [Bool.and_eq_true, Bool.or_eq_true, Bool.not_eq_true', Bool.or_eq_false_iff, Bool.and_eq_false_iff, decide_eq_true_eq, decide_eq_false_iff_not, beq_iff_eq, bne_iff_ne, Bool.not_eq_false', beq_eq_false_iff_ne, bne_eq_false_iff_eq, ne_eq, Decidable.not_not, Int.not_lt, Int.not_le] at h
    refine c_skip ?_
    refine x_then ?_
    refine c_seq ?_
    refine c_block ?_
    refine c_seq ?_
    refine c_region ?_
    refine o_yield rfl rfl rfl (y_val tok rfl) ?_
    refine o_yield rfl rfl rfl (y_val tok rfl) ?_
    refine o_end [0, 1, 5, 7, 8] rfl ?_
    refine x_then ?_
    refine c_seq ?_
    refine c_region ?_
    refine o_yield rfl rfl rfl (y_val tok rfl) ?_
    refine o_yield rfl rfl rfl (y_val tok rfl) ?_
    refine o_yield rfl rfl rfl (y_val tok rfl) ?_
    obtain ⟨x, h_x⟩ := hs.at (k := k) (by omega)
    have hlt_x := lt_of_at h_x
    refine o_yield rfl rfl rfl (y_idx tok rfl (fun hg => hs.sl) (fun hg => ⟨by omega, by omega⟩)) ?_
    refine o_yield rfl rfl rfl (y_lel tok (k) 0 (x) rfl (fun hg => hs) (fun hg => h_x) rfl rfl) ?_
    rw [drop_at h_x, idxS] at heq
    refine o_callF (.a (.v _)) rfl rfl rfl rfl rfl (fun hg E w1 hm => by exact hf x w1 (hV.trans hm.leV)) ?_
    refine o_end [0, 1, 5, 7, 8, 16] rfl ?_
    refine x_then ?_
    refine c_cond rfl (fun h => ?_) (fun h => ?_)
    ·
      refine c_seq ?_
      refine c_region ?_
      refine o_yield rfl rfl rfl (y_val tok rfl) ?_
      refine o_yield rfl rfl rfl (y_val tok rfl) ?_
      refine o_end [4] rfl ?_
      refine x_then ?_
      refine c_ret ?_
      refine x_block_ret ?_
      refine x_then_ret ?_
      refine x_then_ret ?_
      refine x_block_ret ?_
      refine x_then_ret ?_
      refine b_ret tok rfl ?_
      rw [if_pos h] at heq
      intro E w' hm _
      refine ⟨?_, hm.below (Vw.le.refl _)⟩
      rw [heq]; rfl
    ·
      refine c_skip ?_
      refine x_block ?_
      refine x_then ?_
      refine c_region ?_
      refine o_yield rfl rfl rfl (y_val tok rfl) ?_
      refine o_yield rfl rfl rfl (y_val tok rfl) ?_
      refine o_end [0, 1, 7, 8] rfl ?_
      refine x_then ?_
      rw [if_neg (by simp [h])] at heq
      rw [wrapI (n := (k : Int) + 1) (by omega) (by omega)]
      refine x_round (k + 1) (⟨by omega, heq⟩) (by first | omega | (dsimp only; omega)) (by repeat (first | exact SubF.nil | refine SubF.cons rfl ?_)) (by repeat (first | exact SubO.nil | refine SubO.cons rfl ?_)) rfl (Vw.le.refl _)
  ·
    simp only [Bool.and_eq_true, Bool.or_eq_true, Bool.not_eq_true', Bool.or_eq_false_iff, Bool.and_eq_false_iff, decide_eq_true_eq, decide_eq_false_iff_not, beq_iff_eq, bne_iff_ne, Bool.not_eq_false', beq_eq_false_iff_ne, bne_eq_false_iff_eq, ne_eq, Decidable.not_not, Int.not_lt, Int.not_le] at h
    refine c_exit ?_
    refine x_then_exit ?_
    refine x_then_exit ?_
    refine x_block_hit ?_
    refine x_then ?_
    refine c_seq ?_
    refine c_region ?_
    refine o_yield rfl rfl rfl (y_val tok rfl) ?_
    refine o_end [4] rfl ?_
    refine x_then ?_
    refine c_ret ?_
    refine b_ret tok rfl ?_
    have hkL : k = l.length := by omega
    subst hkL
    rw [List.drop_length, idxS] at heq
    intro E w' hm _
    refine ⟨?_, hm.below (Vw.le.refl _)⟩
    rw [heq]; rfl

theorem contS_c (V : Vw) (fv sv : Value) (pr : ByteArray → Bool) (l : List ByteArray) (w : World) (hV : V.le (vw w)) (hs0 : SlOf V encS 1 sv l) (hn : l.length ≤ 9223372036854775807) (hf : TellsS V fv pr) :
    Calls Try.prog 208 #[sv, fv] w fun e w' => e = .returned (.bool (l.any pr)) ∧ Below w.heap.size w w' := by
  have hs := hs0.mono hV
  refine enter (E := E0) (O := []) (nl := 0) (V := vw w) [.a (.v sv), .a (.v fv)] Try.func208 rfl rfl (mem0 E0 0 w) rfl rfl ?_
  refine c_seq ?_
  refine c_region ?_
  refine o_yield rfl rfl rfl (y_val tok rfl) ?_
  refine o_end [0, 1] rfl ?_
  refine x_then ?_
  refine c_seq ?_
  refine c_region ?_
  refine o_yield rfl rfl rfl (y_val tok rfl) ?_
  refine o_yield rfl rfl rfl (y_val tok rfl) ?_
  refine o_call (.a (.v _)) rfl rfl fnok257 rfl rfl rfl (fun hg E w1 hm => by exact indexS_c V fv sv pr l _ (hV.trans hm.leV) hs0 hn hf) ?_
  refine o_yield rfl rfl rfl (y_val tok rfl) ?_
  refine o_yield rfl rfl rfl (y_val tok rfl) ?_
  refine o_end [4] rfl ?_
  refine x_then ?_
  refine c_ret ?_
  refine b_ret tok rfl ?_
  intro E w' hm _
  refine ⟨?_, hm.below (Vw.le.refl _)⟩
  rw [← idxS_any pr l 0]
  rfl

theorem shortFn_c (x : ByteArray) (w : World) : Calls Try.prog 289 #[S x] w fun e w' => e = .returned (.bool (decide (512 < (x.size : Int)))) ∧ Below w.heap.size w w' := by
  refine enter (E := E0) (O := []) (nl := 0) (V := vw w) [.a (.v (S x))] Try.func289 rfl rfl (mem0 E0 0 w) rfl rfl ?_
  refine c_seq ?_
  refine c_region ?_
  refine o_yield rfl rfl rfl (y_val tok rfl) ?_
  refine o_end [0] rfl ?_
  refine x_then ?_
  refine c_seq ?_
  refine c_region ?_
  refine o_yield rfl rfl rfl (y_val tok rfl) ?_
  refine o_yield rfl rfl rfl (y_val tok rfl) ?_
  refine o_yield rfl rfl rfl (y_val tok rfl) ?_
  refine o_yield rfl rfl rfl (y_val tok rfl) ?_
  refine o_end [2] rfl ?_
  refine x_then ?_
  refine c_ret ?_
  refine b_ret tok rfl ?_
  intro E w' hm _
  refine ⟨?_, hm.below (Vw.le.refl _)⟩
  rfl

def shortB (l : List ByteArray) : Bool := !(l.any fun x => decide (512 < (x.size : Int)))

theorem short_c (V : Vw) (sv : Value) (l : List ByteArray) (w : World) (hV : V.le (vw w)) (hs0 : SlOf V encS 1 sv l) (hn : l.length ≤ 9223372036854775807) :
    Calls Try.prog 251 #[sv] w fun e w' => e = .returned (.bool (shortB l)) ∧ Below w.heap.size w w' := by
  refine enter (E := E0) (O := []) (nl := 0) (V := vw w) [.a (.v sv)] Try.func251 rfl rfl (mem0 E0 0 w) rfl rfl ?_
  refine c_seq ?_
  refine c_region ?_
  refine o_yield rfl rfl rfl (y_val tok rfl) ?_
  refine o_end [0] rfl ?_
  refine x_then ?_
  refine c_seq ?_
  refine c_region ?_
  refine o_yield rfl rfl rfl (y_val tok rfl) ?_
  refine o_call (.a (.v _)) rfl rfl fnok208 rfl rfl rfl (fun hg E w1 hm => by exact contS_c V _ sv (fun x => decide (512 < (x.size : Int))) l _ (hV.trans hm.leV) hs0 hn (fun x w' hle => ⟨289, _, rfl, fnok289, shortFn_c x w'⟩)) ?_
  refine o_yield rfl rfl rfl (y_val tok rfl) ?_
  refine o_yield rfl rfl rfl (y_val tok rfl) ?_
  refine o_end [2] rfl ?_
  refine x_then ?_
  refine c_ret ?_
  refine b_ret tok rfl ?_
  intro E w' hm _
  refine ⟨?_, hm.below (Vw.le.refl _)⟩
  rfl

def givenB (d : Device) (key : Int) : Bool := decide (16 ≤ key) && decide (IntKind.i64.wrap (key.tdiv 16) < d.next_) && decide (key.tmod 16 < (d.keys.l.length : Int))

theorem wgiven_c (d : Device) (key : Int) (b : Nat) (w : World) (hb : w.heap[b]? = some (.cells d.cells.toArray 254 (0, 0))) (hk : SlOf ((vw w).del b) encI64 1 d.keys.v d.keys.l) :
    Calls Try.prog 253 #[.pointer (some ⟨b, 0, none⟩), I key] w fun e w' => e = .returned (.bool (givenB d key)) ∧ Below w.heap.size w w' := by
  have hs := hk
  refine enter1 [.a (.ptr 0 0), .a (.v (I key))] hb Try.func253 rfl rfl rfl rfl ?_
  refine c_seq ?_
  refine c_region ?_
  refine o_yield rfl rfl rfl (y_val tok rfl) ?_
  refine o_end [0, 1] rfl ?_
  refine x_then ?_
  refine c_seq ?_
  refine c_region ?_
  refine o_yield rfl rfl rfl (y_val tok rfl) ?_
  refine o_yield rfl rfl rfl (y_val tok rfl) ?_
  refine o_yield rfl rfl rfl (y_val tok rfl) ?_
  refine o_yield rfl rfl rfl (y_val tok rfl) ?_
  refine o_yield rfl rfl rfl (y_quo rfl (fun hg => by decide)) ?_
  refine o_yield rfl rfl rfl (y_val tok rfl) ?_
  refine o_yield rfl rfl rfl (y_val tok rfl) ?_
  refine o_yield rfl rfl rfl (y_val tok rfl) ?_
  refine o_yield rfl rfl rfl (y_val tok rfl) ?_
  refine o_yield rfl rfl rfl (y_val tok rfl) ?_
  refine o_yield rfl rfl rfl (y_val tok rfl) ?_
  refine o_yield rfl rfl rfl (y_val tok rfl) ?_
  refine o_yield rfl rfl rfl (y_val tok rfl) ?_
  refine o_yield rfl rfl rfl (y_val tok rfl) ?_
  refine o_yield rfl rfl rfl (y_rem rfl (fun hg => by decide)) ?_
  refine o_yield rfl rfl rfl (y_val tok rfl) ?_
  refine o_yield rfl rfl rfl (y_val tok rfl) ?_
  refine o_yield rfl rfl rfl (y_val tok rfl) ?_
  refine o_yield rfl rfl rfl (y_val tok rfl) ?_
  refine o_yield rfl rfl rfl (y_val tok rfl) ?_
  refine o_yield rfl rfl rfl (y_len tok rfl (fun hg => hs.sl)) ?_
  refine o_yield rfl rfl rfl (y_val tok rfl) ?_
  refine o_yield rfl rfl rfl (y_val tok rfl) ?_
  refine o_yield rfl rfl rfl (y_val tok rfl) ?_
  refine o_end [4] rfl ?_
  refine x_then ?_
  refine c_ret ?_
  refine b_ret tok rfl ?_
  intro E w' hm _
  exact ⟨rfl, below1 hb hm (Vw.le.refl _) rfl rfl rfl⟩

theorem refGiven_c (V : Vw) (d : Device) (key : Int) (w : World) (hV : V.le (vw w)) (hk : SlOf V encI64 1 d.keys.v d.keys.l) (ha : ∃ a n c, d.s.v = .slice a n c) (hc : ∃ a n c, d.cache.v = .slice a n c) (hf : ∃ a n c, d.fenced.v = .slice a n c) :
    Calls Try.prog 115 #[d.val, I key] w fun e w' => e = .returned (.bool (givenB d key)) ∧ Below w.heap.size w w' := by
  obtain ⟨⟨sv, sl⟩, ⟨cv, cl⟩, ⟨kv, kl⟩, nx, ⟨fv, fl⟩⟩ := d
  simp only at *
  obtain ⟨a1, n1, c1, rfl⟩ := ha
  obtain ⟨a2, n2, c2, rfl⟩ := hc
  obtain ⟨a3, n3, c3, rfl⟩ := hf
  obtain ⟨a4, n4, c4, rfl⟩ := sl_shape hk.sl
  have hs := hk.mono hV
  refine enter (E := E0) (O := []) (nl := 0) (V := vw w) [.a (.v (⟨⟨.slice a1 n1 c1, sl⟩, ⟨.slice a2 n2 c2, cl⟩, ⟨.slice a4 n4 c4, kl⟩, nx, ⟨.slice a3 n3 c3, fl⟩⟩ : Device).val), .a (.v (I key))] Try.func115 rfl rfl (mem0 E0 0 w) rfl rfl ?_
  refine c_seq ?_
  refine c_region ?_
  refine o_new tok rfl rfl rfl rfl ?_
  refine o_yield rfl rfl rfl (y_val tok rfl) ?_
  refine o_end [1, 2] rfl ?_
  refine x_then ?_
  refine c_seq ?_
  refine c_region ?_
  refine o_yield rfl rfl rfl (y_val tok rfl) ?_
  refine o_yield rfl rfl rfl (y_val tok rfl) ?_
  refine o_yield rfl rfl rfl (y_val tok rfl) ?_
  refine o_yield rfl rfl rfl (y_val tok rfl) ?_
  refine o_yield rfl rfl rfl (y_quo rfl (fun hg => by decide)) ?_
  refine o_yield rfl rfl rfl (y_val tok rfl) ?_
  refine o_yield rfl rfl rfl (y_val tok rfl) ?_
  refine o_yield rfl rfl rfl (y_val tok rfl) ?_
  refine o_yield rfl rfl rfl (y_val tok rfl) ?_
  refine o_yield rfl rfl rfl (y_val tok rfl) ?_
  refine o_yield rfl rfl rfl (y_val tok rfl) ?_
  refine o_yield rfl rfl rfl (y_rem rfl (fun hg => by decide)) ?_
  refine o_yield rfl rfl rfl (y_val tok rfl) ?_
  refine o_yield rfl rfl rfl (y_val tok rfl) ?_
  refine o_yield rfl rfl rfl (y_len tok rfl (fun hg => hs.sl)) ?_
  refine o_yield rfl rfl rfl (y_val tok rfl) ?_
  refine o_yield rfl rfl rfl (y_val tok rfl) ?_
  refine o_yield rfl rfl rfl (y_val tok rfl) ?_
  refine o_end [4] rfl ?_
  refine x_then ?_
  refine c_ret ?_
  refine b_ret tok rfl ?_
  intro E w' hm _
  refine ⟨?_, hm.below (Vw.le.refl _)⟩
  rfl
end Go.Proofs.Ytflimioplnbopaa

/- A device's first sectors: the document's. -/
set_option linter.unusedVariables false
set_option linter.unusedSimpArgs false
set_option maxRecDepth 100000
namespace Go.Proofs.Ytflimioplnbopaa
open Go Go.Eng Go.RowKit

def fmtTo (g : Geo) (top hd : ByteArray) : Nat → List ByteArray
  | 0 => (List.replicate (totV g).toNat ByteArray.empty).set 0 top
  | i + 1 => (fmtTo g top hd i).set (headV g (i : Int)).toNat hd

theorem fmtTo_len (g : Geo) (top hd : ByteArray) : ∀ i, (fmtTo g top hd i).length = (totV g).toNat
  | 0 => by simp [fmtTo]
  | i + 1 => by rw [fmtTo, List.length_set, fmtTo_len g top hd i]

theorem head_in {g : Geo} (hg : geoB g = true) {i : Nat} (hi : (i : Int) < g.slots) : ∃ q : Nat, headV g (i : Int) = (q : Int) ∧ (q : Int) < totV g := by
  have hf := geo_facts hg
  have hh : headV g (i : Int) = 1 + 2 * g.nodes + g.log + (i : Int) * (1 + g.journal) := by rw [headV, if_pos ⟨hg, by omega, hi⟩]
  have ht : totV g = dataAt g + g.blocks * g.per := by rw [totV, if_pos hg]
  have hd : dataAt g = 1 + 2 * g.nodes + g.log + g.slots * (1 + g.journal) := rfl
  have h1 : 0 ≤ (i : Int) * (1 + g.journal) := Int.mul_nonneg (by omega) (by omega)
  have h2 : ((i : Int) + 1) * (1 + g.journal) ≤ g.slots * (1 + g.journal) := Int.mul_le_mul_of_nonneg_right (by omega) (by omega)
  have h3 : 0 ≤ g.blocks * g.per := Int.mul_nonneg (by omega) (by omega)
  rw [Int.add_mul] at h2
  exact ⟨(headV g (i : Int)).toNat, by omega, by omega⟩

theorem rformat_c (g : Geo) (ok : g.Ok) (hd : ByteArray) (hh : ∀ w : World, Calls Try.prog 19 #[I 0] w fun e w' => e = .returned (.tuple #[S hd, I 0]) ∧ Below w.heap.size w w') (w : World) :
    Calls Try.prog 18 #[g.val] w fun e w' => ((geoB g = true ∧ ∃ v, e = .returned (.tuple #[v, I 0]) ∧ w'.ownsRow w.heap.size 9 1 v (totV g).toNat ((fmtTo g (gbV g) hd g.slots.toNat).flatMap encS)) ∨
      (geoB g = false ∧ e = .returned (.tuple #[.slice none 0 0, I 40]))) ∧ Below w.heap.size w w' := by
  refine enter (E := E0) (O := []) (nl := 0) (V := vw w) [.a (.v g.val)] Try.func18 rfl rfl (mem0 E0 0 w) rfl rfl ?_
  refine c_seq ?_
  refine c_region ?_
  refine o_new tok rfl rfl rfl rfl ?_
  refine o_yield rfl rfl rfl (y_val tok rfl) ?_
  refine o_yield rfl rfl rfl (y_val tok rfl) ?_
  refine o_end [1] rfl ?_
  refine x_then ?_
  refine c_seq ?_
  refine c_region ?_
  refine o_yield rfl rfl rfl (y_val tok rfl) ?_
  refine o_call (.a (.v _)) rfl rfl fnok92 rfl rfl rfl (fun hg E w1 hm => by exact rsbytes_c g ok _) ?_
  refine o_yield rfl rfl rfl (y_val tok rfl) ?_
  refine o_yield rfl rfl rfl (y_val tok rfl) ?_
  refine o_yield rfl rfl rfl (y_val tok rfl) ?_
  refine o_yield rfl rfl rfl (y_val tok rfl) ?_
  refine o_yield rfl rfl rfl (y_val tok rfl) ?_
  refine o_end [1, 4, 5] rfl ?_
  refine x_then ?_
  refine c_seq ?_
  refine c_seq ?_
  refine c_region ?_
  refine o_yield rfl rfl rfl (y_val tok rfl) ?_
  refine o_yield rfl rfl rfl (y_val tok rfl) ?_
  refine o_end [1, 4, 5, 16] rfl ?_
  refine x_then ?_
  refine c_cond rfl (fun h => ?_) (fun h => ?_)
  ·
    simp only [Bool.and_eq_true, Bool.or_eq_true, Bool.not_eq_true', Bool.or_eq_false_iff, Bool.and_eq_false_iff, decide_eq_true_eq, decide_eq_false_iff_not, beq_iff_eq, bne_iff_ne, Bool.not_eq_false', beq_eq_false_iff_ne, bne_eq_false_iff_eq, ne_eq, Decidable.not_not, Int.not_lt, Int.not_le] at h
    refine c_seq ?_
    refine c_region ?_
    refine o_yield rfl rfl rfl (y_val tok rfl) ?_
    refine o_yield rfl rfl rfl (y_val tok rfl) ?_
    refine o_yield rfl rfl rfl (y_val tok rfl) ?_
    refine o_end [2, 3] rfl ?_
    refine x_then ?_
    refine c_ret ?_
    refine x_then_ret ?_
    refine b_ret tok rfl ?_
    intro E w' hm _
    have hg : geoB g = false := by
      cases hq : geoB g with
      | false => rfl
      | true => rw [gbE, if_pos hq] at h; exact absurd rfl h
    refine ⟨.inr ⟨hg, ?_⟩, hm.below (Vw.le.refl _)⟩
    rw [gbE, hg]
    rfl
  ·
    simp only [Bool.and_eq_true, Bool.or_eq_true, Bool.not_eq_true', Bool.or_eq_false_iff, Bool.and_eq_false_iff, decide_eq_true_eq, decide_eq_false_iff_not, beq_iff_eq, bne_iff_ne, Bool.not_eq_false', beq_eq_false_iff_ne, bne_eq_false_iff_eq, ne_eq, Decidable.not_not, Int.not_lt, Int.not_le] at h
    have hg : geoB g = true := by
      cases hq : geoB g with
      | true => rfl
      | false => rw [gbE, hq] at h; simp at h
    clear h
    have hf := geo_facts hg
    have hs := geo_sizes hg
    have htt : totV g = dataAt g + g.blocks * g.per := by rw [totV, if_pos hg]
    obtain ⟨tot, htot⟩ : ∃ t : Nat, totV g = (t : Int) := ⟨(totV g).toNat, by omega⟩
    have htn : (totV g).toNat = tot := by omega
    refine c_skip ?_
    refine x_then ?_
    refine c_seq ?_
    refine c_region ?_
    refine o_call (.a (.v _)) rfl rfl fnok19 rfl rfl rfl (fun hg E w1 hm => by exact hh _) ?_
    refine o_yield rfl rfl rfl (y_val tok rfl) ?_
    refine o_yield rfl rfl rfl (y_val tok rfl) ?_
    refine o_yield rfl rfl rfl (y_val tok rfl) ?_
    refine o_yield rfl rfl rfl (y_val tok rfl) ?_
    refine o_yield rfl rfl rfl (y_val tok rfl) ?_
    refine o_end [1, 4, 6] rfl ?_
    refine x_then ?_
    refine c_seq ?_
    refine c_region ?_
    refine o_yield rfl rfl rfl (y_val tok rfl) ?_
    refine o_call (.a (.v _)) rfl rfl fnok15 rfl rfl rfl (fun hg E w1 hm => by exact refTotal_c g ok _) ?_
    rw [htot]
    have hpos : 0 < tot := by omega
    have htb : tot ≤ 4000 := by omega
    obtain ⟨sl, hsl⟩ : ∃ sl : Nat, g.slots = sl := ⟨g.slots.toNat, by omega⟩
    have hsn : g.slots.toNat = sl := by omega
    refine o_step rfl rfl rfl rfl rfl (s_mk tok tot tot rfl rfl rfl (Nat.le_refl _) (by dsimp only; omega) (by simp only [maxLen]; omega)) (fun _ _ => ?_)
    refine o_yield rfl rfl rfl (y_val tok rfl) ?_
    refine o_end [1, 4, 6, 8] rfl ?_
    refine x_then ?_
    refine c_seq ?_
    refine c_region ?_
    refine o_yield rfl rfl rfl (y_val tok rfl) ?_
    refine o_yield rfl rfl rfl (y_val tok rfl) ?_
    rw [show (repZ tot _ : List Value) = _ from repZ_flat (enc := encS) ByteArray.empty tot]
    refine o_yield rfl rfl rfl (y_own (s := .a (.rel 1 0)) 1 rfl rfl (fun v V' hv => y_idxK tok 0 rfl (by simp) (fun hg => hv) (fun hg => by omega))) ?_
    refine o_stepN rfl rfl rfl rfl (s_rst tok rfl rfl (by intro u hu; simp only [List.mem_singleton] at hu; subst hu; rfl) (by simp only [List.length_singleton]; omega) (by omega)) (fun _ _ => ?_)
    refine o_end [1, 6, 8] rfl ?_
    refine x_then ?_
    refine c_seq ?_
    refine c_seq ?_
    refine c_region ?_
    refine o_yield rfl rfl rfl (y_val tok rfl) ?_
    refine o_end [1, 6, 8, 9] rfl ?_
    refine x_then ?_
    refine c_block ?_
    have hset := overL_set (enc := encS) (sz := 1) (fun _ => rfl) (List.replicate tot ByteArray.empty) 0 (gbV g) (by simpa using hpos)
    have hf0 : (List.replicate tot ByteArray.empty).set 0 (gbV g) = fmtTo g (gbV g) hd 0 := by rw [fmtTo, htn]
    rw [Nat.zero_mul] at hset
    rw [show overL 0 [Value.string _] _ = _ from hset, hf0]
    refine c_loopK [1, 6, 8] [1, 0] rfl rfl (σ := Nat) (fun i => [(9, .a (.v (I i)))]) (fun i => [(1, .row 9 1 tot ((fmtTo g (gbV g) hd i).flatMap encS)), (0, .lit (g.cells.map .v) 23)]) (fun i => i ≤ sl) (fun i => sl - i) (0) (by omega) (by repeat (first | exact SubF.nil | refine SubF.cons rfl ?_)) (by repeat (first | exact SubO.nil | refine SubO.cons rfl ?_)) rfl ?_
    rintro i hi
    refine c_seq ?_
    refine c_seq ?_
    refine c_region ?_
    refine o_yield rfl rfl rfl (y_val tok rfl) ?_
    refine o_yield rfl rfl rfl (y_val tok rfl) ?_
    refine o_yield rfl rfl rfl (y_val tok rfl) ?_
    refine o_yield rfl rfl rfl (y_val tok rfl) ?_
    refine o_end [1, 6, 8, 9, 31] rfl ?_
    refine x_then ?_
    refine c_cond rfl (fun h => ?_) (fun h => ?_)
    ·
      simp only [Bool.and_eq_true, Bool.or_eq_true, Bool.not_eq_true', Bool.or_eq_false_iff, Bool.and_eq_false_iff, decide_eq_true_eq, decide_eq_false_iff_not, beq_iff_eq, bne_iff_ne, Bool.not_eq_false', beq_eq_false_iff_ne, bne_eq_false_iff_eq, ne_eq, Decidable.not_not, Int.not_lt, Int.not_le] at h
      refine c_skip ?_
      refine x_then ?_
      refine c_seq ?_
      refine c_block ?_
      refine c_region ?_
      refine o_yield rfl rfl rfl (y_val tok rfl) ?_
      refine o_yield rfl rfl rfl (y_val tok rfl) ?_
      refine o_yield rfl rfl rfl (y_val tok rfl) ?_
      obtain ⟨q, hq, hqt⟩ := head_in hg (i := i) (by omega)
      have hfl := fmtTo_len g (gbV g) hd i
      refine o_call (.a (.v _)) rfl rfl fnok20 rfl rfl rfl (fun hg E w1 hm => by exact refHead_c g ok i _) ?_
      refine o_yield rfl rfl rfl (y_val tok rfl) ?_
      rw [hq]
      refine o_yield rfl rfl rfl (y_own (s := .a (.rel 1 q)) 1 rfl rfl (fun v V' hv => y_idxK tok q rfl (by simp) (fun hg => hv) (fun hg => by omega))) ?_
      refine o_stepN rfl rfl rfl rfl (s_rst tok rfl rfl (by intro u hu; simp only [List.mem_singleton] at hu; subst hu; rfl) (by simp only [List.length_singleton]; omega) (by omega)) (fun _ _ => ?_)
      refine o_end [1, 6, 8, 9] rfl ?_
      refine x_block ?_
      refine x_then ?_
      refine c_region ?_
      refine o_yield rfl rfl rfl (y_val tok rfl) ?_
      refine o_yield rfl rfl rfl (y_val tok rfl) ?_
      refine o_yield rfl rfl rfl (y_val tok rfl) ?_
      refine o_end [1, 6, 8, 9] rfl ?_
      refine x_then ?_
      have hset := overL_set (enc := encS) (sz := 1) (fun _ => rfl) (fmtTo g (gbV g) hd i) q hd (by rw [hfl]; omega)
      have hfs : (fmtTo g (gbV g) hd i).set q hd = fmtTo g (gbV g) hd (i + 1) := by rw [fmtTo, hq]; simp
      rw [Nat.mul_one, hfs] at hset
      rw [show overL q [Value.string _] _ = _ from hset, wrapI (n := (i : Int) + 1) (by omega) (by omega)]
      refine x_round (i + 1) (by omega) (by first | omega | (dsimp only; omega)) (by repeat (first | exact SubF.nil | refine SubF.cons rfl ?_)) (by repeat (first | exact SubO.nil | refine SubO.cons rfl ?_)) rfl (Vw.le.refl _)
    ·
      simp only [Bool.and_eq_true, Bool.or_eq_true, Bool.not_eq_true', Bool.or_eq_false_iff, Bool.and_eq_false_iff, decide_eq_true_eq, decide_eq_false_iff_not, beq_iff_eq, bne_iff_ne, Bool.not_eq_false', beq_eq_false_iff_ne, bne_eq_false_iff_eq, ne_eq, Decidable.not_not, Int.not_lt, Int.not_le] at h
      refine c_exit ?_
      refine x_then_exit ?_
      refine x_then_exit ?_
      refine x_block_hit ?_
      refine x_then ?_
      refine c_seq ?_
      refine c_region ?_
      refine o_yield rfl rfl rfl (y_val tok rfl) ?_
      refine o_yield rfl rfl rfl (y_val tok rfl) ?_
      refine o_yield rfl rfl rfl (y_val tok rfl) ?_
      refine o_end [2, 3] rfl ?_
      refine x_then ?_
      refine c_ret ?_
      refine b_ret tok rfl ?_
      have his : i = sl := by omega
      subst his
      intro E w' hm _
      refine ⟨.inl ⟨hg, E.κ 1, rfl, ?_⟩, hm.below (Vw.le.refl _)⟩
      rw [Int.toNat_natCast, hsn]
      exact hm.rowFresh (Vw.le.refl _) (l := 1) rfl
end Go.Proofs.Ytflimioplnbopaa
