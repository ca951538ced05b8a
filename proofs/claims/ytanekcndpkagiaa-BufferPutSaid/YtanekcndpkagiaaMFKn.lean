import Derived.Test.YtanekcndpkagiaaMCmt2
import Derived.Test.YtanekcndpkagiaaEng30
import Derived.Lib.SliceRun
/- What rows of blocks tell of a block: the law. -/
set_option linter.unusedVariables false
set_option linter.unusedSimpArgs false
set_option maxRecDepth 100000
namespace Go.Proofs.Ytanekcndpkagiaa
open Go Go.Eng Go.RowKit

theorem geo22_c (w : World) : Calls Try.prog 83 #[] w fun e w' => e = .returned (⟨1, 1, 3, 2, 9, 8, 1, 2⟩ : Geo).val ∧ Below w.heap.size w w' := by
  refine enter (E := E0) (O := []) (nl := 0) (V := vw w) [] Try.func83 rfl rfl (mem0 E0 0 w) rfl rfl ?_
  refine c_seq ?_
  refine c_region ?_
  refine o_new tok rfl rfl rfl rfl ?_
  refine o_end [0] rfl ?_
  refine x_then ?_
  refine c_seq ?_
  refine c_region ?_
  refine o_yield rfl rfl rfl (y_val tok rfl) ?_
  refine o_store tok rfl rfl rfl (by first | exact ⟨trivial, trivial⟩ | (repeat' first | exact trivial | exact rfl | apply And.intro); done | simp [onesP, oneP, lk, Value.oneCell']) ?_
  refine o_end [0] rfl ?_
  refine x_then ?_
  refine c_ret ?_
  refine b_ret tok rfl ?_
  intro E w' hm _
  refine ⟨?_, hm.below (Vw.le.refl _)⟩
  rfl

abbrev geoF : Geo := ⟨1, 1, 3, 2, 9, 8, 1, 2⟩
theorem geoF_ok : geoF.Ok := by constructor <;> simp [R64]
def cS : ByteArray := ⟨#[99]⟩
def xS : ByteArray := ⟨#[120]⟩
def yS : ByteArray := ⟨#[121]⟩
theorem dataF : dataV geoF 1 0 = 23 := by decide

theorem begF_c (w : World) : Calls Try.prog 58 #[geoF.val, I 1] w fun e w' => e = .returned (.tuple #[(⟨1, 0, ⟨.slice none 0 0, []⟩⟩ : Fetching).val, I 0]) ∧ Below w.heap.size w w' := by
  have := fbegin_c geoF geoF_ok 1 w
  rwa [dataF] at this

abbrev actF : ActV := ⟨1, 23, ByteArray.empty, 0⟩
theorem wantF_c (w : World) : Calls Try.prog 63 #[geoF.val, (⟨1, 0, ⟨.slice none 0 0, []⟩⟩ : Fetching).val] w fun e w' => e = .returned actF.val ∧ Below w.heap.size w w' := by
  have h := fwant_c ⟨1, 0, ⟨.slice none 0 0, []⟩⟩ geoF geoF_ok none 0 0 rfl w
  have e : fwantV ⟨1, 0, ⟨.slice none 0 0, []⟩⟩ geoF = actF := by
    have : nextV ⟨1, 0, ⟨.slice none 0 0, []⟩⟩ geoF = 23 := by rw [nextV, if_neg (by decide)]; exact dataF
    rw [fwantV, this]; rfl
  rwa [e] at h

theorem takeF_c (V : Vw) (k k' : Int) (hk : k < 2) (hk' : IntKind.i64.wrap (k + 1) = k') (v : Value) (L : List ByteArray) (got : ByteArray) (hg : got.size ≤ 256) (hn : L.length ≤ 1099511627776) (w : World) (hV : V.le (vw w)) (hs : SlOf V encS 1 v L) :
    Calls Try.prog 67 #[geoF.val, (⟨1, k, ⟨v, L⟩⟩ : Fetching).val, S got] w fun e w' => ∃ x V', e = .returned x ∧ Below w.heap.size w w' ∧ Vext w.heap.size V V' w' ∧ ∃ a n c, x = .tuple #[.agg #[I 1, I k', .slice a n c], I 0] ∧ SlOf V' encS 1 (.slice a n c) (L ++ [got]) := by
  refine (ftake_c V ⟨1, k, ⟨v, L⟩⟩ geoF got w hV hs hn).mono ?_
  rintro e w' ⟨x, V', he, hb, hx, h | h | h⟩
  · omega
  · simp only at h; omega
  · rw [hk'] at h
    exact ⟨x, V', he, hb, hx, h.2.2⟩

theorem catF : catS [abS, cS] = ⟨#[97, 98, 99]⟩ := rfl

theorem wakes22_c (w : World) : Calls Try.prog 16 #[] w fun e w' => e = .returned (.bool true) ∧ Below w.heap.size w w' := by
  refine enter (E := E0) (O := []) (nl := 0) (V := vw w) [] Try.func16 rfl rfl (mem0 E0 0 w) rfl rfl ?_
  refine c_seq ?_
  refine c_region ?_
  refine o_yield rfl rfl rfl (y_val tok rfl) ?_
  refine o_end [] rfl ?_
  refine x_then ?_
  refine c_seq ?_
  refine c_region ?_
  refine o_call (.a (.v _)) rfl rfl fnok83 rfl rfl rfl (fun hg E w1 hm => by exact geo22_c _) ?_
  refine o_call (.a (.v _)) rfl rfl fnok58 rfl rfl rfl (fun hg E w1 hm => by exact begF_c _) ?_
  refine o_yield rfl rfl rfl (y_val tok rfl) ?_
  refine o_yield rfl rfl rfl (y_val tok rfl) ?_
  refine o_yield rfl rfl rfl (y_val tok rfl) ?_
  refine o_new tok rfl rfl rfl rfl ?_
  refine o_store tok rfl rfl rfl (by first | exact ⟨trivial, trivial⟩ | (repeat' first | exact trivial | exact rfl | apply And.intro); done | simp [onesP, oneP, lk, Value.oneCell']) ?_
  refine o_yield rfl rfl rfl (y_val tok rfl) ?_
  refine o_end [1, 2] rfl ?_
  refine x_then ?_
  refine c_seq ?_
  refine k_trim [1, 2] [] 1 rfl rfl (by repeat (first | exact SubF.nil | refine SubF.cons rfl ?_)) (by repeat (first | exact SubO.nil | refine SubO.cons rfl ?_)) rfl ?_
  refine c_heldM (σ := Unit) (fun _ => [(1, .a (.ptr 0 0)), (2, .a (.v (I 0))), (3, .a (.ptr 1 0))]) (fun _ => [(0, .lit [.v (I 1), .v (I 0), .v (.slice none 0 0)] 92), (1, .lit (actF.cells.map .v) 64)]) (2) (fun _ => (vw w)) (fun _ => True) mixed ?_ ?_
  ·
    refine t_take 1 rfl (by kernel_rfl) rfl rfl rfl (y_val tok rfl) rfl ?_
    refine t_go ?_
    refine h_two 0 3 (by kernel_rfl) ?_ ?_
    ·
      refine h_call 0 (.a (.v geoF.val)) rfl rfl rfl fnok83 rfl rfl rfl (fun hg E w1 hm => by exact geo22_c _) ?_
      refine h_two 2 3 (by kernel_rfl) ?_ ?_
      ·
        refine h_call 2 (.a (.v actF.val)) rfl rfl rfl fnok63 rfl rfl rfl (fun hg E w1 hm => by exact wantF_c _) ?_
        refine h_one 3 (by kernel_rfl) ?_
        refine h_new 3 tok rfl rfl rfl rfl rfl rfl ?_
        refine h_one 4 (by kernel_rfl) ?_
        refine h_store 4 tok rfl rfl rfl rfl (by first | exact ⟨trivial, trivial⟩ | (repeat' first | exact trivial | exact rfl | apply And.intro); done | simp [onesP, oneP, lk, Value.oneCell']) (.inr ⟨(by repeat (first | exact SubO.nil | refine SubO.cons rfl ?_)), rfl, Vw.le.refl _⟩) ?_
        refine h_done [1, 2, 3] (by kernel_rfl) rfl ?_
        exact x_meet () trivial (by repeat (first | exact SubF.nil | refine SubF.cons rfl ?_)) (by repeat (first | exact SubO.nil | refine SubO.cons rfl ?_)) rfl (Vw.le.refl _)
      ·
        refine h_new 3 tok rfl rfl rfl rfl rfl rfl ?_
        refine h_one 2 (by kernel_rfl) ?_
        refine h_call 2 (.a (.v actF.val)) rfl rfl rfl fnok63 rfl rfl rfl (fun hg E w1 hm => by exact wantF_c _) ?_
        refine h_one 4 (by kernel_rfl) ?_
        refine h_store 4 tok rfl rfl rfl rfl (by first | exact ⟨trivial, trivial⟩ | (repeat' first | exact trivial | exact rfl | apply And.intro); done | simp [onesP, oneP, lk, Value.oneCell']) (.inr ⟨(by repeat (first | exact SubO.nil | refine SubO.cons rfl ?_)), rfl, Vw.le.refl _⟩) ?_
        refine h_done [1, 2, 3] (by kernel_rfl) rfl ?_
        exact x_meet () trivial (by repeat (first | exact SubF.nil | refine SubF.cons rfl ?_)) (by repeat (first | exact SubO.nil | refine SubO.cons rfl ?_)) rfl (Vw.le.refl _)
    ·
      refine h_new 3 tok rfl rfl rfl rfl rfl rfl ?_
      refine h_one 0 (by kernel_rfl) ?_
      refine h_call 0 (.a (.v geoF.val)) rfl rfl rfl fnok83 rfl rfl rfl (fun hg E w1 hm => by exact geo22_c _) ?_
      refine h_one 2 (by kernel_rfl) ?_
      refine h_call 2 (.a (.v actF.val)) rfl rfl rfl fnok63 rfl rfl rfl (fun hg E w1 hm => by exact wantF_c _) ?_
      refine h_one 4 (by kernel_rfl) ?_
      refine h_store 4 tok rfl rfl rfl rfl (by first | exact ⟨trivial, trivial⟩ | (repeat' first | exact trivial | exact rfl | apply And.intro); done | simp [onesP, oneP, lk, Value.oneCell']) (.inr ⟨(by repeat (first | exact SubO.nil | refine SubO.cons rfl ?_)), rfl, Vw.le.refl _⟩) ?_
      refine h_done [1, 2, 3] (by kernel_rfl) rfl ?_
      exact x_meet () trivial (by repeat (first | exact SubF.nil | refine SubF.cons rfl ?_)) (by repeat (first | exact SubO.nil | refine SubO.cons rfl ?_)) rfl (Vw.le.refl _)
  rintro ⟨⟩ -
  refine x_then ?_
  refine c_seq ?_
  refine c_heldMS [6] (σ := Value × Vw) (fun x => [(1, .a (.ptr 0 0)), (2, .a (.v (I 0))), (3, .a (.ptr 1 0)), (4, .a (.v (I 0)))]) (fun x => [(0, .lit [.v (I 1), .v (I 1), .v x.1] 92), (1, .lit (actF.cells.map .v) 64)]) (2) (fun x => x.2) (fun x => (vw w).le x.2 ∧ SlOf x.2 encS 1 x.1 [abS]) mixed rfl (by repeat (first | exact SubO.nil | refine SubO.cons rfl ?_)) rfl ?_ ?_
  ·
    refine t_takeD 1 rfl (by kernel_rfl) rfl rfl rfl (y_val tok rfl) rfl ?_
    refine t_go ?_
    refine h_one 0 (by kernel_rfl) ?_
    refine h_call 0 (.a (.v geoF.val)) rfl rfl rfl fnok83 rfl rfl rfl (fun hg E w1 hm => by exact geo22_c _) ?_
    refine h_one 2 (by kernel_rfl) ?_
    refine h_callV 2 (fun x V' => ∃ a n c, x = .tuple #[.agg #[I 1, I 1, .slice a n c], I 0] ∧ SlOf V' encS 1 (.slice a n c) [abS]) rfl rfl rfl fnok67 rfl rfl (fun hg E w1 hm => by exact takeF_c (vw w) 0 1 (by decide) rfl (.slice none 0 0) [] abS (by simp only [abS, cS]; decide) (by simp) _ hm.leV (slNil _ encS 1 0 (fun _ => rfl))) ?_
    rintro x V' hle hx
    obtain ⟨a', n', c', rfl, hs'⟩ := hx rfl
    refine h_one 3 (by kernel_rfl) ?_
    refine h_yield 3 rfl rfl rfl rfl (y_val tok rfl) ?_
    refine h_two 4 5 (by kernel_rfl) ?_ ?_
    ·
      refine h_yield 4 rfl rfl rfl rfl (y_val tok rfl) ?_
      refine h_two 5 6 (by kernel_rfl) ?_ ?_
      ·
        refine h_yield 5 rfl rfl rfl rfl (y_val tok rfl) ?_
        refine h_one 6 (by kernel_rfl) ?_
        refine h_store 6 tok rfl rfl rfl rfl (by first | exact ⟨trivial, trivial⟩ | (repeat' first | exact trivial | exact rfl | apply And.intro); done | simp [onesP, oneP, lk, Value.oneCell']) (.inl rfl) ?_
        refine h_one 7 (by kernel_rfl) ?_
        refine h_yield 7 rfl rfl rfl rfl (y_val tok rfl) ?_
        refine h_done [1, 2, 3, 4] (by kernel_rfl) rfl ?_
        exact x_meet (⟨.slice a' n' c', V'⟩) (⟨hle, hs'⟩) (by repeat (first | exact SubF.nil | refine SubF.cons rfl ?_)) (by repeat (first | exact SubO.nil | refine SubO.cons rfl ?_)) rfl (Vw.le.refl _)
      ·
        refine h_store 6 tok rfl rfl rfl rfl (by first | exact ⟨trivial, trivial⟩ | (repeat' first | exact trivial | exact rfl | apply And.intro); done | simp [onesP, oneP, lk, Value.oneCell']) (.inl rfl) ?_
        refine h_one 5 (by kernel_rfl) ?_
        refine h_yield 5 rfl rfl rfl rfl (y_val tok rfl) ?_
        refine h_one 7 (by kernel_rfl) ?_
        refine h_yield 7 rfl rfl rfl rfl (y_val tok rfl) ?_
        refine h_done [1, 2, 3, 4] (by kernel_rfl) rfl ?_
        exact x_meet (⟨.slice a' n' c', V'⟩) (⟨hle, hs'⟩) (by repeat (first | exact SubF.nil | refine SubF.cons rfl ?_)) (by repeat (first | exact SubO.nil | refine SubO.cons rfl ?_)) rfl (Vw.le.refl _)
    ·
      refine h_yield 5 rfl rfl rfl rfl (y_val tok rfl) ?_
      refine h_one 4 (by kernel_rfl) ?_
      refine h_yield 4 rfl rfl rfl rfl (y_val tok rfl) ?_
      refine h_one 6 (by kernel_rfl) ?_
      refine h_store 6 tok rfl rfl rfl rfl (by first | exact ⟨trivial, trivial⟩ | (repeat' first | exact trivial | exact rfl | apply And.intro); done | simp [onesP, oneP, lk, Value.oneCell']) (.inl rfl) ?_
      refine h_one 7 (by kernel_rfl) ?_
      refine h_yield 7 rfl rfl rfl rfl (y_val tok rfl) ?_
      refine h_done [1, 2, 3, 4] (by kernel_rfl) rfl ?_
      exact x_meet (⟨.slice a' n' c', V'⟩) (⟨hle, hs'⟩) (by repeat (first | exact SubF.nil | refine SubF.cons rfl ?_)) (by repeat (first | exact SubO.nil | refine SubO.cons rfl ?_)) rfl (Vw.le.refl _)
  rintro ⟨x4, V4⟩ ⟨hle4, hs4⟩
  dsimp only
  refine x_then ?_
  refine c_seq ?_
  obtain ⟨a4, n4, c4, rfl⟩ := sl_shape hs4.sl
  refine c_heldMS [6] (σ := Value × Vw) (fun x => [(1, .a (.ptr 0 0)), (2, .a (.v (I 0))), (3, .a (.ptr 1 0)), (4, .a (.v (I 0))), (5, .a (.v (I 0)))]) (fun x => [(0, .lit [.v (I 1), .v (I 2), .v x.1] 92), (1, .lit (actF.cells.map .v) 64)]) (2) (fun x => x.2) (fun x => V4.le x.2 ∧ SlOf x.2 encS 1 x.1 [abS, cS]) mixed rfl (by repeat (first | exact SubO.nil | refine SubO.cons rfl ?_)) rfl ?_ ?_
  ·
    refine t_takeD 1 rfl (by kernel_rfl) rfl rfl rfl (y_val tok rfl) rfl ?_
    refine t_go ?_
    refine h_one 0 (by kernel_rfl) ?_
    refine h_call 0 (.a (.v geoF.val)) rfl rfl rfl fnok83 rfl rfl rfl (fun hg E w1 hm => by exact geo22_c _) ?_
    refine h_one 2 (by kernel_rfl) ?_
    refine h_callV 2 (fun x V' => ∃ a n c, x = .tuple #[.agg #[I 1, I 2, .slice a n c], I 0] ∧ SlOf V' encS 1 (.slice a n c) [abS, cS]) rfl rfl rfl fnok67 rfl rfl (fun hg E w1 hm => by exact takeF_c V4 1 2 (by decide) rfl (.slice a4 n4 c4) [abS] cS (by simp only [abS, cS]; decide) (by simp) _ hm.leV hs4) ?_
    rintro x V' hle hx
    obtain ⟨a', n', c', rfl, hs'⟩ := hx rfl
    refine h_one 3 (by kernel_rfl) ?_
    refine h_yield 3 rfl rfl rfl rfl (y_val tok rfl) ?_
    refine h_two 4 5 (by kernel_rfl) ?_ ?_
    ·
      refine h_yield 4 rfl rfl rfl rfl (y_val tok rfl) ?_
      refine h_two 5 6 (by kernel_rfl) ?_ ?_
      ·
        refine h_yield 5 rfl rfl rfl rfl (y_val tok rfl) ?_
        refine h_one 6 (by kernel_rfl) ?_
        refine h_store 6 tok rfl rfl rfl rfl (by first | exact ⟨trivial, trivial⟩ | (repeat' first | exact trivial | exact rfl | apply And.intro); done | simp [onesP, oneP, lk, Value.oneCell']) (.inl rfl) ?_
        refine h_one 7 (by kernel_rfl) ?_
        refine h_yield 7 rfl rfl rfl rfl (y_val tok rfl) ?_
        refine h_done [1, 2, 3, 4, 5] (by kernel_rfl) rfl ?_
        exact x_meet (⟨.slice a' n' c', V'⟩) (⟨hle, hs'⟩) (by repeat (first | exact SubF.nil | refine SubF.cons rfl ?_)) (by repeat (first | exact SubO.nil | refine SubO.cons rfl ?_)) rfl (Vw.le.refl _)
      ·
        refine h_store 6 tok rfl rfl rfl rfl (by first | exact ⟨trivial, trivial⟩ | (repeat' first | exact trivial | exact rfl | apply And.intro); done | simp [onesP, oneP, lk, Value.oneCell']) (.inl rfl) ?_
        refine h_one 5 (by kernel_rfl) ?_
        refine h_yield 5 rfl rfl rfl rfl (y_val tok rfl) ?_
        refine h_one 7 (by kernel_rfl) ?_
        refine h_yield 7 rfl rfl rfl rfl (y_val tok rfl) ?_
        refine h_done [1, 2, 3, 4, 5] (by kernel_rfl) rfl ?_
        exact x_meet (⟨.slice a' n' c', V'⟩) (⟨hle, hs'⟩) (by repeat (first | exact SubF.nil | refine SubF.cons rfl ?_)) (by repeat (first | exact SubO.nil | refine SubO.cons rfl ?_)) rfl (Vw.le.refl _)
    ·
      refine h_yield 5 rfl rfl rfl rfl (y_val tok rfl) ?_
      refine h_one 4 (by kernel_rfl) ?_
      refine h_yield 4 rfl rfl rfl rfl (y_val tok rfl) ?_
      refine h_one 6 (by kernel_rfl) ?_
      refine h_store 6 tok rfl rfl rfl rfl (by first | exact ⟨trivial, trivial⟩ | (repeat' first | exact trivial | exact rfl | apply And.intro); done | simp [onesP, oneP, lk, Value.oneCell']) (.inl rfl) ?_
      refine h_one 7 (by kernel_rfl) ?_
      refine h_yield 7 rfl rfl rfl rfl (y_val tok rfl) ?_
      refine h_done [1, 2, 3, 4, 5] (by kernel_rfl) rfl ?_
      exact x_meet (⟨.slice a' n' c', V'⟩) (⟨hle, hs'⟩) (by repeat (first | exact SubF.nil | refine SubF.cons rfl ?_)) (by repeat (first | exact SubO.nil | refine SubO.cons rfl ?_)) rfl (Vw.le.refl _)
  rintro ⟨x5, V5⟩ ⟨hle5, hs5⟩
  dsimp only
  refine x_then ?_
  refine c_seq ?_
  refine c_region ?_
  refine o_yield rfl rfl rfl (y_val tok rfl) ?_
  obtain ⟨a5, n5, c5, rfl⟩ := sl_shape hs5.sl
  refine o_bs tok rfl rfl rfl rfl (fun b1 W1 hlw1 hb1 => ?_)
  refine o_yield rfl rfl rfl (y_val tok rfl) ?_
  refine o_bs tok rfl rfl rfl rfl (fun b2 W2 hlw2 hb2 => ?_)
  refine o_bs tok rfl rfl rfl rfl (fun b3 W3 hlw3 hb3 => ?_)
  have hk1 : SlOf W3 Block.cells 2 (.slice (some ⟨b1, 0, none⟩) 1 1) [⟨1, xS⟩] := (SlOf.ofBlock (enc := Block.cells) (sz := 2) (l := [⟨1, xS⟩]) (hb1 rfl) rfl (fun _ => rfl) (Nat.le_refl _)).mono (hlw2.trans hlw3)
  have hk2 : SlOf W3 Block.cells 2 (.slice (some ⟨b2, 0, none⟩) 1 1) [⟨1, yS⟩] := (SlOf.ofBlock (enc := Block.cells) (sz := 2) (l := [⟨1, yS⟩]) (hb2 rfl) rfl (fun _ => rfl) (Nat.le_refl _)).mono hlw3
  have hk3 : SlOf W3 Sl.enc 1 (.slice (some ⟨b3, 0, none⟩) 3 3) [(⟨.slice none 0 0, []⟩ : Sl Block), ⟨.slice (some ⟨b1, 0, none⟩) 1 1, [⟨1, xS⟩]⟩, ⟨.slice (some ⟨b2, 0, none⟩) 1 1, [⟨1, yS⟩]⟩] := SlOf.ofBlock (enc := Sl.enc) (sz := 1) (l := [(⟨.slice none 0 0, []⟩ : Sl Block), ⟨.slice (some ⟨b1, 0, none⟩) 1 1, [⟨1, xS⟩]⟩, ⟨.slice (some ⟨b2, 0, none⟩) 1 1, [⟨1, yS⟩]⟩]) (hb3 rfl) rfl (fun _ => rfl) (Nat.le_refl _)
  have hall : ∀ r ∈ [(⟨.slice none 0 0, []⟩ : Sl Block), ⟨.slice (some ⟨b1, 0, none⟩) 1 1, [⟨1, xS⟩]⟩, ⟨.slice (some ⟨b2, 0, none⟩) 1 1, [⟨1, yS⟩]⟩], SlOf W3 Block.cells 2 r.v r.l ∧ r.l.length ≤ 4398046511104 := by
    intro r hr
    simp only [List.mem_cons, List.not_mem_nil, or_false] at hr
    rcases hr with rfl | rfl | rfl
    · exact ⟨slNil _ _ _ _ (fun _ => rfl), by simp⟩
    · exact ⟨hk1, by simp⟩
    · exact ⟨hk2, by simp⟩
  have hkn : knownB [(⟨.slice none 0 0, []⟩ : Sl Block), ⟨.slice (some ⟨b1, 0, none⟩) 1 1, [⟨1, xS⟩]⟩, ⟨.slice (some ⟨b2, 0, none⟩) 1 1, [⟨1, yS⟩]⟩] 1 = (xS, true) := rfl
  refine o_call (.a (.v _)) rfl rfl fnok17 rfl rfl rfl (fun hg E w1 hm => by exact known_c W3 _ [(⟨.slice none 0 0, []⟩ : Sl Block), ⟨.slice (some ⟨b1, 0, none⟩) 1 1, [⟨1, xS⟩]⟩, ⟨.slice (some ⟨b2, 0, none⟩) 1 1, [⟨1, yS⟩]⟩] 1 _ hm.leV hk3 hall (by simp)) ?_
  refine o_yield rfl rfl rfl (y_val tok rfl) ?_
  refine o_yield rfl rfl rfl (y_val tok rfl) ?_
  refine o_yield rfl rfl rfl (y_val tok rfl) ?_
  refine o_yield rfl rfl rfl (y_val tok rfl) ?_
  refine o_yield rfl rfl rfl (y_val tok rfl) ?_
  refine o_end [1, 2, 3, 4, 5, 6, 7] rfl ?_
  refine x_then ?_
  refine c_seq ?_
  refine c_draw mixed (by kernel_rfl) ?_
  refine d_yield rfl rfl rfl (y_val tok rfl) rfl ?_
  refine d_yield rfl rfl rfl (y_val tok rfl) rfl ?_
  refine d_yield rfl rfl rfl (y_val tok rfl) rfl ?_
  refine d_yield rfl rfl rfl (y_val tok rfl) rfl ?_
  refine d_yield rfl rfl rfl (y_val tok rfl) rfl ?_
  refine d_yield rfl rfl rfl (y_val tok rfl) rfl ?_
  refine d_yield rfl rfl rfl (y_val tok rfl) rfl ?_
  refine d_yield rfl rfl rfl (y_val tok rfl) rfl ?_
  refine d_yield rfl rfl rfl (y_val tok rfl) rfl ?_
  refine d_yield rfl rfl rfl (y_val tok rfl) rfl ?_
  refine d_call (.a (.v _)) rfl rfl fnok83 rfl rfl rfl (fun hg E w1 hm => by exact geo22_c _) ?_
  refine d_call (.a (.v _)) rfl rfl fnok31 rfl rfl rfl (fun hg E w1 hm => by exact refData_c geoF geoF_ok 1 0 _) ?_
  refine d_yield rfl rfl rfl (y_val tok rfl) rfl ?_
  refine d_yield rfl rfl rfl (y_val tok rfl) rfl ?_
  refine d_yield rfl rfl rfl (y_val tok rfl) rfl ?_
  refine d_yield rfl rfl rfl (y_val tok rfl) rfl ?_
  refine d_yield rfl rfl rfl (y_val tok rfl) rfl ?_
  refine d_yield rfl rfl rfl (y_val tok rfl) rfl ?_
  refine d_yield rfl rfl rfl (y_val tok rfl) rfl ?_
  refine d_yield rfl rfl rfl (y_val tok rfl) rfl ?_
  refine d_yield rfl rfl rfl (y_val tok rfl) rfl ?_
  refine d_yield rfl rfl rfl (y_val tok rfl) rfl ?_
  refine d_yield rfl rfl rfl (y_val tok rfl) rfl ?_
  refine d_call (.a (.v _)) rfl rfl fnok83 rfl rfl rfl (fun hg E w1 hm => by exact geo22_c _) ?_
  refine d_yield rfl rfl rfl (y_val tok rfl) rfl ?_
  refine d_call (.a (.v _)) rfl rfl fnok61 rfl rfl rfl (fun hg E w1 hm => by exact fover_c ⟨1, 2, ⟨.slice a5 n5 c5, [abS, cS]⟩⟩ geoF _ _ _ rfl _) ?_
  refine d_yield rfl rfl rfl (y_val tok rfl) rfl ?_
  refine d_yield rfl rfl rfl (y_val tok rfl) rfl ?_
  refine d_yield rfl rfl rfl (y_val tok rfl) rfl ?_
  refine d_call (.a (.v _)) rfl rfl fnok65 rfl rfl rfl (fun hg E w1 hm => by exact ftext_c W3 ⟨1, 2, ⟨.slice a5 n5 c5, [abS, cS]⟩⟩ _ hm.leV (hs5.mono (hlw1.trans (hlw2.trans hlw3))) (by simp) (by simp only [catL, abS, cS]; decide)) ?_
  refine d_yield rfl rfl rfl (y_val tok rfl) rfl ?_
  refine d_yield rfl rfl rfl (y_val tok rfl) rfl ?_
  refine d_yield rfl rfl rfl (y_val tok rfl) rfl ?_
  refine d_yield rfl rfl rfl (y_val tok rfl) rfl ?_
  refine d_yield rfl rfl rfl (y_val tok rfl) rfl ?_
  refine d_yield rfl rfl rfl (y_val tok rfl) rfl ?_
  refine d_yield rfl rfl rfl (y_val tok rfl) rfl ?_
  refine d_yield rfl rfl rfl (y_val tok rfl) rfl ?_
  refine d_yield rfl rfl rfl (y_val tok rfl) rfl ?_
  refine d_yield rfl rfl rfl (y_val tok rfl) rfl ?_
  refine d_end [0] rfl ?_
  refine x_then ?_
  refine c_ret ?_
  refine b_ret tok rfl ?_
  intro E w' hm _
  refine ⟨?_, hm.below ((hle4.trans (hle5.trans (hlw1.trans (hlw2.trans hlw3)))))⟩
  rw [hkn, dataF]
  have hd : decide (geoF.per ≤ 2) = true := rfl
  simp only [hd, catF, xS]
  simp
  rfl

theorem getB_nil (k : Int) : getB [] k = (ByteArray.empty, false) := rfl

theorem fetchKnown_law (w : World) {v0 v1 v2 : Value} (R0 : ∃ n : Int, v0 = I n ∧ R64 n) (R1 : ∃ l : List Block, SlOf (vw w) Block.cells 2 v1 l ∧ l.length ≤ maxLen ∧ ∀ a ∈ l, Block.Ok a) (R2 : ∃ l : List Block, SlOf (vw w) Block.cells 2 v2 l ∧ l.length ≤ maxLen ∧ ∀ a ∈ l, Block.Ok a) :
    Calls Try.prog 3 #[v0, v1, v2] w fun e w' => e = .returned (.bool true) ∧ Below w.heap.size w w' := by
  obtain ⟨k, rfl, _⟩ := R0
  obtain ⟨la, hA, hal, _⟩ := R1
  obtain ⟨lb, hB, hbl, _⟩ := R2
  obtain ⟨a1, n1, c1, rfl⟩ := sl_shape hA.sl
  obtain ⟨a2, n2, c2, rfl⟩ := sl_shape hB.sl
  refine enter (E := E0) (O := []) (nl := 0) (V := vw w) [.a (.v (I k)), .a (.v (.slice a1 n1 c1)), .a (.v (.slice a2 n2 c2))] Try.func3 rfl rfl (mem0 E0 0 w) rfl rfl ?_
  refine c_seq ?_
  refine c_region ?_
  refine o_yield rfl rfl rfl (y_val tok rfl) ?_
  refine o_end [0, 1, 2] rfl ?_
  refine x_then ?_
  refine c_seq ?_
  refine c_seq ?_
  refine c_region ?_
  refine o_yield rfl rfl rfl (y_val tok rfl) ?_
  refine o_call (.a (.v _)) rfl rfl fnok15 rfl rfl rfl (fun hg E w1 hm => by exact great_c _ _ la _ hm.leV hA hal) ?_
  refine o_yield rfl rfl rfl (y_val tok rfl) ?_
  refine o_yield rfl rfl rfl (y_val tok rfl) ?_
  refine o_call (.a (.v _)) rfl rfl fnok15 rfl rfl rfl (fun hg E w1 hm => by exact great_c _ _ lb _ hm.leV hB hbl) ?_
  refine o_yield rfl rfl rfl (y_val tok rfl) ?_
  refine o_end [0, 1, 2, 20] rfl ?_
  refine x_then ?_
  refine c_cond rfl (fun h => ?_) (fun h => ?_)
  ·
    simp only [Bool.and_eq_true, Bool.or_eq_true, Bool.not_eq_true', Bool.or_eq_false_iff, Bool.and_eq_false_iff, decide_eq_true_eq, decide_eq_false_iff_not, beq_iff_eq, bne_iff_ne, Bool.not_eq_false', beq_eq_false_iff_ne, bne_eq_false_iff_eq, ne_eq, Decidable.not_not, Int.not_lt, Int.not_le] at h
    refine c_seq ?_
    refine c_region ?_
    refine o_call (.a (.v _)) rfl rfl fnok16 rfl rfl rfl (fun hg E w1 hm => by exact wakes22_c _) ?_
    refine o_yield rfl rfl rfl (y_val tok rfl) ?_
    refine o_end [6] rfl ?_
    refine x_then ?_
    refine c_ret ?_
    refine x_then_ret ?_
    refine b_ret tok rfl ?_
    intro E w' hm _
    refine ⟨?_, hm.below (Vw.le.refl _)⟩
    rfl
  ·
    simp only [Bool.and_eq_true, Bool.or_eq_true, Bool.not_eq_true', Bool.or_eq_false_iff, Bool.and_eq_false_iff, decide_eq_true_eq, decide_eq_false_iff_not, beq_iff_eq, bne_iff_ne, Bool.not_eq_false', beq_eq_false_iff_ne, bne_eq_false_iff_eq, ne_eq, Decidable.not_not, Int.not_lt, Int.not_le] at h
    have hga : greatB la = false := by
      cases hq : greatB la with
      | false => rfl
      | true => rw [hq] at h; exact absurd h (by simp)
    have hgb : greatB lb = false := by
      cases hq : greatB lb with
      | false => rfl
      | true => rw [hga, hq] at h; exact absurd h (by simp)
    clear h
    have ha := great_no hga
    have hb := great_no hgb
    refine c_skip ?_
    refine x_then ?_
    refine c_seq ?_
    refine c_region ?_
    refine o_yield rfl rfl rfl (y_val tok rfl) ?_
    refine o_yield rfl rfl rfl (y_val tok rfl) ?_
    refine o_bs tok rfl rfl rfl rfl (fun b1 W1 hlw1 hb1 => ?_)
    have hA1 := hA.mono hlw1
    have hB1 := hB.mono hlw1
    have hk1 : SlOf W1 Sl.enc 1 (.slice (some ⟨b1, 0, none⟩) 1 1) [(⟨.slice a1 n1 c1, la⟩ : Sl Block)] := SlOf.ofBlock (enc := Sl.enc) (sz := 1) (l := [(⟨.slice a1 n1 c1, la⟩ : Sl Block)]) (hb1 rfl) rfl (fun _ => rfl) (Nat.le_refl _)
    refine o_call (.a (.v _)) rfl rfl fnok17 rfl rfl rfl (fun hg E w1 hm => by exact known_c W1 _ [(⟨.slice a1 n1 c1, la⟩ : Sl Block)] k _ hm.leV hk1 (by simp only [List.mem_cons, List.not_mem_nil, or_false]; rintro r rfl; exact ⟨hA1, by simp only; omega⟩) (by simp)) ?_
    refine o_yield rfl rfl rfl (y_val tok rfl) ?_
    refine o_yield rfl rfl rfl (y_val tok rfl) ?_
    refine o_yield rfl rfl rfl (y_val tok rfl) ?_
    refine o_yield rfl rfl rfl (y_val tok rfl) ?_
    refine o_yield rfl rfl rfl (y_val tok rfl) ?_
    refine o_end [0, 1, 2, 7, 8] rfl ?_
    refine x_then ?_
    refine c_seq ?_
    refine c_region ?_
    refine o_yield rfl rfl rfl (y_val tok rfl) ?_
    refine o_yield rfl rfl rfl (y_val tok rfl) ?_
    refine o_bs tok rfl rfl rfl rfl (fun b2 W2 hlw2 hb2 => ?_)
    have hA2 := hA1.mono hlw2
    have hB2 := hB1.mono hlw2
    have hk2 : SlOf W2 Sl.enc 1 (.slice (some ⟨b2, 0, none⟩) 1 1) [(⟨.slice a2 n2 c2, lb⟩ : Sl Block)] := SlOf.ofBlock (enc := Sl.enc) (sz := 1) (l := [(⟨.slice a2 n2 c2, lb⟩ : Sl Block)]) (hb2 rfl) rfl (fun _ => rfl) (Nat.le_refl _)
    refine o_call (.a (.v _)) rfl rfl fnok17 rfl rfl rfl (fun hg E w1 hm => by exact known_c W2 _ [(⟨.slice a2 n2 c2, lb⟩ : Sl Block)] k _ hm.leV hk2 (by simp only [List.mem_cons, List.not_mem_nil, or_false]; rintro r rfl; exact ⟨hB2, by simp only; omega⟩) (by simp)) ?_
    refine o_yield rfl rfl rfl (y_val tok rfl) ?_
    refine o_yield rfl rfl rfl (y_val tok rfl) ?_
    refine o_yield rfl rfl rfl (y_val tok rfl) ?_
    refine o_yield rfl rfl rfl (y_val tok rfl) ?_
    refine o_yield rfl rfl rfl (y_val tok rfl) ?_
    refine o_end [0, 1, 2, 7, 8, 9, 10] rfl ?_
    refine x_then ?_
    refine c_seq ?_
    refine c_region ?_
    refine o_yield rfl rfl rfl (y_val tok rfl) ?_
    refine o_yield rfl rfl rfl (y_val tok rfl) ?_
    refine o_yield rfl rfl rfl (y_val tok rfl) ?_
    refine o_bs tok rfl rfl rfl rfl (fun b3 W3 hlw3 hb3 => ?_)
    have hA3 := hA2.mono hlw3
    have hB3 := hB2.mono hlw3
    have hk3 : SlOf W3 Sl.enc 1 (.slice (some ⟨b3, 0, none⟩) 4 4) [(⟨.slice none 0 0, []⟩ : Sl Block), ⟨.slice a1 n1 c1, la⟩, ⟨.slice none 0 0, []⟩, ⟨.slice a2 n2 c2, lb⟩] := SlOf.ofBlock (enc := Sl.enc) (sz := 1) (l := [(⟨.slice none 0 0, []⟩ : Sl Block), ⟨.slice a1 n1 c1, la⟩, ⟨.slice none 0 0, []⟩, ⟨.slice a2 n2 c2, lb⟩]) (hb3 rfl) rfl (fun _ => rfl) (Nat.le_refl _)
    have hall : ∀ r ∈ [(⟨.slice none 0 0, []⟩ : Sl Block), ⟨.slice a1 n1 c1, la⟩, ⟨.slice none 0 0, []⟩, ⟨.slice a2 n2 c2, lb⟩], SlOf W3 Block.cells 2 r.v r.l ∧ r.l.length ≤ 4398046511104 := by
      intro r hr
      simp only [List.mem_cons, List.not_mem_nil, or_false] at hr
      rcases hr with rfl | rfl | rfl | rfl
      · exact ⟨slNil _ _ _ _ (fun _ => rfl), by simp⟩
      · exact ⟨hA3, by simp only; omega⟩
      · exact ⟨slNil _ _ _ _ (fun _ => rfl), by simp⟩
      · exact ⟨hB3, by simp only; omega⟩
    have hn0 : knownB [] k = (ByteArray.empty, false) := rfl
    have ke : knownB [(⟨.slice none 0 0, []⟩ : Sl Block), ⟨.slice a1 n1 c1, la⟩, ⟨.slice none 0 0, []⟩, ⟨.slice a2 n2 c2, lb⟩] k = if (knownB [(⟨.slice a1 n1 c1, la⟩ : Sl Block)] k).2 = true then knownB [(⟨.slice a1 n1 c1, la⟩ : Sl Block)] k else knownB [(⟨.slice a2 n2 c2, lb⟩ : Sl Block)] k := by
      simp only [knownB, getB_nil, Bool.false_eq_true, if_false]
      by_cases h1 : (getB la k).2 = true <;> simp [h1]
    have kn : (knownB [(⟨.slice a1 n1 c1, la⟩ : Sl Block)] k).2 = false → (knownB [(⟨.slice a1 n1 c1, la⟩ : Sl Block)] k).1 = ByteArray.empty := by
      simp only [knownB]
      by_cases h1 : (getB la k).2 = true <;> simp [h1]
    refine o_call (.a (.v _)) rfl rfl fnok17 rfl rfl rfl (fun hg E w1 hm => by exact known_c W3 _ [(⟨.slice none 0 0, []⟩ : Sl Block), ⟨.slice a1 n1 c1, la⟩, ⟨.slice none 0 0, []⟩, ⟨.slice a2 n2 c2, lb⟩] k _ hm.leV hk3 hall (by simp)) ?_
    refine o_yield rfl rfl rfl (y_val tok rfl) ?_
    refine o_yield rfl rfl rfl (y_val tok rfl) ?_
    refine o_yield rfl rfl rfl (y_val tok rfl) ?_
    refine o_yield rfl rfl rfl (y_val tok rfl) ?_
    refine o_yield rfl rfl rfl (y_val tok rfl) ?_
    refine o_end [0, 7, 8, 9, 10, 11, 12] rfl ?_
    refine x_then ?_
    refine c_seq ?_
    refine c_seq ?_
    refine c_region ?_
    refine o_yield rfl rfl rfl (y_val tok rfl) ?_
    refine o_end [0, 7, 9, 10, 11, 12, 44] rfl ?_
    refine x_then ?_
    refine c_cond rfl (fun h => ?_) (fun h => ?_)
    rw [ke]
    ·
      refine c_seq ?_
      refine c_region ?_
      refine o_yield rfl rfl rfl (y_val tok rfl) ?_
      refine o_yield rfl rfl rfl (y_val tok rfl) ?_
      refine o_yield rfl rfl rfl (y_val tok rfl) ?_
      refine o_yield rfl rfl rfl (y_val tok rfl) ?_
      refine o_yield rfl rfl rfl (y_val tok rfl) ?_
      refine o_yield rfl rfl rfl (y_val tok rfl) ?_
      refine o_yield rfl rfl rfl (y_val tok rfl) ?_
      rw [if_pos h]
      refine o_call (.a (.v _)) rfl rfl fnok16 rfl rfl rfl (fun hg E w1 hm => by exact wakes22_c _) ?_
      refine o_yield rfl rfl rfl (y_val tok rfl) ?_
      refine o_yield rfl rfl rfl (y_val tok rfl) ?_
      refine o_end [6] rfl ?_
      refine x_then ?_
      refine c_ret ?_
      refine x_then_ret ?_
      refine b_ret tok rfl ?_
      intro E w' hm _
      refine ⟨?_, hm.below ((hlw1.trans (hlw2.trans hlw3)))⟩
      simp [h]
      rfl
    ·
      refine c_skip ?_
      refine x_then ?_
      refine c_seq ?_
      refine c_region ?_
      refine o_yield rfl rfl rfl (y_val tok rfl) ?_
      have h0 : (knownB [(⟨.slice a1 n1 c1, la⟩ : Sl Block)] k).2 = false := by simpa using h
      refine o_call (.a (.v _)) rfl rfl fnok17 rfl rfl rfl (fun hg E w1 hm => by exact known_c W3 _ [] k _ hm.leV (slNil _ _ _ _ (fun _ => rfl)) (by simp) (by simp)) ?_
      refine o_yield rfl rfl rfl (y_val tok rfl) ?_
      refine o_yield rfl rfl rfl (y_val tok rfl) ?_
      refine o_yield rfl rfl rfl (y_val tok rfl) ?_
      refine o_yield rfl rfl rfl (y_val tok rfl) ?_
      refine o_yield rfl rfl rfl (y_val tok rfl) ?_
      refine o_end [7, 9, 10, 11, 12, 14] rfl ?_
      refine x_then ?_
      refine c_seq ?_
      refine c_region ?_
      refine o_yield rfl rfl rfl (y_val tok rfl) ?_
      refine o_yield rfl rfl rfl (y_val tok rfl) ?_
      refine o_yield rfl rfl rfl (y_val tok rfl) ?_
      refine o_yield rfl rfl rfl (y_val tok rfl) ?_
      refine o_yield rfl rfl rfl (y_val tok rfl) ?_
      refine o_yield rfl rfl rfl (y_val tok rfl) ?_
      refine o_yield rfl rfl rfl (y_val tok rfl) ?_
      refine o_yield rfl rfl rfl (y_val tok rfl) ?_
      refine o_yield rfl rfl rfl (y_val tok rfl) ?_
      refine o_yield rfl rfl rfl (y_val tok rfl) ?_
      refine o_yield rfl rfl rfl (y_val tok rfl) ?_
      refine o_yield rfl rfl rfl (y_val tok rfl) ?_
      refine o_yield rfl rfl rfl (y_val tok rfl) ?_
      refine o_yield rfl rfl rfl (y_val tok rfl) ?_
      refine o_yield rfl rfl rfl (y_val tok rfl) ?_
      refine o_yield rfl rfl rfl (y_val tok rfl) ?_
      refine o_yield rfl rfl rfl (y_val tok rfl) ?_
      refine o_call (.a (.v _)) rfl rfl fnok16 rfl rfl rfl (fun hg E w1 hm => by exact wakes22_c _) ?_
      refine o_yield rfl rfl rfl (y_val tok rfl) ?_
      refine o_yield rfl rfl rfl (y_val tok rfl) ?_
      refine o_end [6] rfl ?_
      refine x_then ?_
      refine c_ret ?_
      refine b_ret tok rfl ?_
      intro E w' hm _
      refine ⟨?_, hm.below ((hlw1.trans (hlw2.trans hlw3)))⟩
      rw [kn h0, hn0]
      simp
      rw [ke, if_neg (by rw [h0]; simp)]
      simp
      rfl
end Go.Proofs.Ytanekcndpkagiaa

/- slices.Insert of one block. -/
set_option linter.unusedVariables false
set_option linter.unusedSimpArgs false
set_option maxRecDepth 100000
namespace Go.Proofs.Ytanekcndpkagiaa
open Go Go.Eng Go.RowKit

def insAt (l : List Block) (i : Nat) (x : Block) : List Block := l.take i ++ x :: l.drop i

theorem block_flat (l : List Block) : (l.flatMap Block.cells).length = l.length * 2 := by
  induction l with
  | nil => rfl
  | cons a r ih => rw [List.flatMap_cons, List.length_append, ih, List.length_cons]; simp [Block.cells]; omega

theorem block_ones (l : List Block) : ∀ u ∈ l.flatMap Block.cells, u.oneCell' = true := by
  intro u hu
  obtain ⟨x, _, hx⟩ := List.mem_flatMap.1 hu
  simp only [Block.cells, List.mem_cons, List.not_mem_nil, or_false] at hx
  rcases hx with rfl | rfl <;> rfl

theorem sl_plain {g lo hi c sz m : Nat} (h : lo < c) : sliceV (.slice (some ⟨g, 0, none⟩) m c) lo hi sz = .slice (some ⟨g, lo * sz, none⟩) (hi - lo) (c - lo) := by
  simp only [sliceV]
  rw [if_neg (by omega)]
  simp [Addr.add_lit]

theorem overL_app (A B tl : List Value) (off : Nat) (h : A.length = off) : overL off B (A ++ tl) = A ++ B ++ tl.drop B.length := by
  subst h
  simp [overL, List.drop_append, Nat.add_sub_cancel_left, List.drop_eq_nil_of_le]

theorem cur_take {cur : List Value} {l : List Block} {i : Nat} (h : cur.take (l.length * 2) = l.flatMap Block.cells) (hi : i ≤ l.length) : cur.take (i * 2) = (l.take i).flatMap Block.cells := by
  rw [← flatMap_take (enc := Block.cells) (sz := 2) (fun _ => rfl), ← h, List.take_take]
  congr 1
  omega

theorem cur_drop {cur : List Value} {l : List Block} {i : Nat} (h : cur.take (l.length * 2) = l.flatMap Block.cells) (hi : i ≤ l.length) : (cur.drop (i * 2)).take ((l.length - i) * 2) = (l.drop i).flatMap Block.cells := by
  rw [← flatMap_drop (enc := Block.cells) (sz := 2) (fun _ => rfl), ← h, List.drop_take]
  congr 1
  omega

theorem ins_flat (l : List Block) (i : Nat) (x : Block) : (insAt l i x).flatMap Block.cells = (l.take i).flatMap Block.cells ++ [x].flatMap Block.cells ++ (l.drop i).flatMap Block.cells := by
  simp [insAt]

theorem insGrow_c (g c i : Nat) (cur : List Value) (l : List Block) (x : Block) (xv : Value) (w : World) (hg : w.heap[g]? = some (.cells cur.toArray 34 (0, 0))) (hcl : cur.length = c * 2) (hcur : cur.take (l.length * 2) = l.flatMap Block.cells)
    (hx0 : SlOf ((vw w).del g) Block.cells 2 xv [x]) (hi : i < l.length) (hn : l.length ≤ 1048576) (hlc : l.length = c) :
    Calls Try.prog 145 #[.slice (some ⟨g, 0, none⟩) l.length c, I i, xv] w fun e w' => ∃ v', e = .returned v' ∧ Go.Eng.Touch (· = g) w w' ∧ w'.ownsRow w.heap.size 34 2 v' (l.length + 1) ((insAt l i x).flatMap Block.cells) := by
  obtain ⟨xa, xn, xc, rfl⟩ := sl_shape hx0.sl
  have hm1 := (mem0 E0 0 w).addLit (b := g) (e := 34) (cs := cur.map .v) (by rw [(den_plain E0 cur).1]; exact hg) ((den_plain E0 cur).2 _)
  have hm2 := (hm1.addPin 0 g (by simp [Env.setρ]) (by omega)).addSize
  have hs := hx0
  clear hm1
  have hw1 : IntKind.i64.wrap ((l.length : Int) + ([x].length : Int)) = ((l.length + 1 : Nat) : Int) := by rw [wrapI] <;> simp <;> omega
  have hw2 : IntKind.i64.wrap (((l.length + 1 : Nat) : Int) - i) = ((l.length + 1 - i : Nat) : Int) := by rw [wrapI] <;> omega
  have hw3 : IntKind.i64.wrap ((i : Int) + ([x].length : Int)) = ((i + 1 : Nat) : Int) := by rw [wrapI] <;> simp <;> omega
  refine enter [.a (.v (.slice (some ⟨g, 0, none⟩) l.length c)), .a (.v (I i)), .a (.v (.slice xa xn xc))] Try.func145 rfl rfl (hm2) rfl rfl ?_
  refine c_seq ?_
  refine c_region ?_
  refine o_yield rfl rfl rfl (y_val tok rfl) ?_
  refine o_end [0, 1, 2] rfl ?_
  refine x_then ?_
  refine c_seq ?_
  refine c_region ?_
  refine o_yield rfl rfl rfl (y_val tok rfl) ?_
  refine o_yield rfl rfl rfl (y_val tok rfl) ?_
  refine o_yield rfl rfl rfl (y_slP tok (.slice (some ⟨g, i * 2, none⟩) (l.length - i) (c - i)) rfl (fun hg => by simp; omega) (fun hg => by simp only [Option.getD, Int.toNat_natCast]; exact sl_plain (by omega))) ?_
  refine o_end [0, 1, 2] rfl ?_
  refine x_then ?_
  refine c_seq ?_
  refine c_region ?_
  refine o_yield rfl rfl rfl (y_val tok rfl) ?_
  refine o_yield rfl rfl rfl (y_len tok rfl (fun hg => hs.sl)) ?_
  refine o_yield rfl rfl rfl (y_val tok rfl) ?_
  refine o_end [0, 1, 2, 7] rfl ?_
  refine x_then ?_
  refine c_seq ?_
  refine c_seq ?_
  refine c_region ?_
  refine o_yield rfl rfl rfl (y_val tok rfl) ?_
  refine o_yield rfl rfl rfl (y_val tok rfl) ?_
  refine o_end [0, 1, 2, 7, 16] rfl ?_
  refine x_then ?_
  refine c_cond rfl (fun h => ?_) (fun h => ?_)
  ·
    simp only [Bool.and_eq_true, Bool.or_eq_true, Bool.not_eq_true', Bool.or_eq_false_iff, Bool.and_eq_false_iff, decide_eq_true_eq, decide_eq_false_iff_not, beq_iff_eq, bne_iff_ne, Bool.not_eq_false', beq_eq_false_iff_ne, bne_eq_false_iff_eq, ne_eq, Decidable.not_not, Int.not_lt, Int.not_le] at h
    exfalso
    simp at h
  ·
    simp only [Bool.and_eq_true, Bool.or_eq_true, Bool.not_eq_true', Bool.or_eq_false_iff, Bool.and_eq_false_iff, decide_eq_true_eq, decide_eq_false_iff_not, beq_iff_eq, bne_iff_ne, Bool.not_eq_false', beq_eq_false_iff_ne, bne_eq_false_iff_eq, ne_eq, Decidable.not_not, Int.not_lt, Int.not_le] at h
    refine c_skip ?_
    refine x_then ?_
    refine c_seq ?_
    refine c_region ?_
    refine o_yield rfl rfl rfl (y_val tok rfl) ?_
    refine o_yield rfl rfl rfl (y_lenP tok rfl) ?_
    refine o_yield rfl rfl rfl (y_val tok rfl) ?_
    refine o_end [0, 1, 2, 7, 8] rfl ?_
    refine x_then ?_
    refine c_seq ?_
    refine c_seq ?_
    refine c_region ?_
    refine o_yield rfl rfl rfl (y_val tok rfl) ?_
    refine o_yield rfl rfl rfl (y_val tok rfl) ?_
    refine o_yield rfl rfl rfl (y_val tok rfl) ?_
    refine o_end [0, 1, 2, 7, 8, 22] rfl ?_
    refine x_then ?_
    refine c_cond rfl (fun h => ?_) (fun h => ?_)
    ·
      simp only [Bool.and_eq_true, Bool.or_eq_true, Bool.not_eq_true', Bool.or_eq_false_iff, Bool.and_eq_false_iff, decide_eq_true_eq, decide_eq_false_iff_not, beq_iff_eq, bne_iff_ne, Bool.not_eq_false', beq_eq_false_iff_ne, bne_eq_false_iff_eq, ne_eq, Decidable.not_not, Int.not_lt, Int.not_le] at h
      exfalso
      omega
    ·
      simp only [Bool.and_eq_true, Bool.or_eq_true, Bool.not_eq_true', Bool.or_eq_false_iff, Bool.and_eq_false_iff, decide_eq_true_eq, decide_eq_false_iff_not, beq_iff_eq, bne_iff_ne, Bool.not_eq_false', beq_eq_false_iff_ne, bne_eq_false_iff_eq, ne_eq, Decidable.not_not, Int.not_lt, Int.not_le] at h
      clear h
      refine c_skip ?_
      refine x_then ?_
      refine c_seq ?_
      refine c_seq ?_
      refine c_region ?_
      refine o_yield rfl rfl rfl (y_val tok rfl) ?_
      refine o_yield rfl rfl rfl (y_val tok rfl) ?_
      refine o_yield rfl rfl rfl (y_val tok rfl) ?_
      refine o_yield rfl rfl rfl (y_val tok rfl) ?_
      refine o_yield rfl rfl rfl (y_cap tok rfl) ?_
      refine o_yield rfl rfl rfl (y_val tok rfl) ?_
      refine o_end [0, 1, 2, 7, 8, 31] rfl ?_
      refine x_then ?_
      refine c_cond rfl (fun h => ?_) (fun h => ?_)
      ·
        simp only [Bool.and_eq_true, Bool.or_eq_true, Bool.not_eq_true', Bool.or_eq_false_iff, Bool.and_eq_false_iff, decide_eq_true_eq, decide_eq_false_iff_not, beq_iff_eq, bne_iff_ne, Bool.not_eq_false', beq_eq_false_iff_ne, bne_eq_false_iff_eq, ne_eq, Decidable.not_not, Int.not_lt, Int.not_le] at h
        rw [hw1] at h
        clear h
        refine c_seq ?_
        refine c_region ?_
        refine o_yield rfl rfl rfl (y_val tok rfl) ?_
        refine o_yield rfl rfl rfl (y_val tok rfl) ?_
        rw [hw1]
        refine o_yield rfl rfl rfl (y_slP tok (.slice (some ⟨g, 0, none⟩) i c) rfl (fun hg => by simp; omega) (fun hg => by simp only [Option.getD, Int.toNat_natCast]; simp [sliceV, Addr.add])) ?_
        refine o_yield rfl rfl rfl (y_val tok rfl) ?_
        refine o_yield rfl rfl rfl (y_val tok rfl) ?_
        refine o_yield rfl rfl rfl (y_val tok rfl) ?_
        refine o_yield rfl rfl rfl (y_val tok rfl) ?_
        refine o_yield rfl rfl rfl (y_val tok rfl) ?_
        rw [hw1, hw2]
        refine o_step rfl rfl rfl rfl rfl (s_azL (l := 0) (q := 1) (cur := cur) tok rfl rfl rfl Try.underlying3 rfl rfl (by omega) (by decide) (by omega) (by omega) (by show i * 2 ≤ _; omega) (by show (i + (l.length + 1 - i)) * 24 ≤ _; omega) (by simp only [maxLen]; omega)) (fun y hy => ?_)
        obtain ⟨bn, G, tl⟩ := y
        obtain ⟨hG1, hG2, hG3⟩ := hy
        dsimp only at hG1 hG2 hG3 ⊢
        rw [show i + (l.length + 1 - i) = l.length + 1 by omega] at hG1 ⊢
        refine o_yield rfl rfl rfl (y_val tok rfl) ?_
        refine o_end [0, 1, 2, 7, 9] rfl ?_
        refine x_then ?_
        refine c_seq ?_
        refine c_region ?_
        refine o_yield rfl rfl rfl (y_val tok rfl) ?_
        refine o_yield rfl rfl rfl (y_val tok rfl) ?_
        refine o_yield rfl rfl rfl (y_slP tok (.slice (some ⟨bn, i * 2, none⟩) (l.length + 1 - i) (G - i)) rfl (fun hg => by simp; omega) (fun hg => by simp only [Option.getD, Int.toNat_natCast]; exact sl_plain (by omega))) ?_
        refine o_yield rfl rfl rfl (y_val tok rfl) ?_
        refine o_step rfl rfl rfl rfl rfl (s_cpL (l := 3) (q := 4) (cur := cur.take (i * 2) ++ tl) (news := [x].flatMap Block.cells) tok rfl rfl rfl rfl (fun E w1 hm => hs.sl.src hm.get) (block_ones [x]) (by simp; omega) (by show i * 2 + 1 * 2 ≤ _; simp; omega)) (fun _ _ => ?_)
        refine o_end [0, 1, 7, 9] rfl ?_
        refine x_then ?_
        refine c_seq ?_
        refine c_heldS [8] mixed rfl (by repeat (first | exact SubO.nil | refine SubO.cons rfl ?_)) (by first | rfl | simp [okCels, allOk_plain]) ?_
        refine t_takeD 0 rfl (by kernel_rfl) rfl rfl rfl (y_val tok rfl) rfl ?_
        refine t_takeD 1 rfl (by kernel_rfl) rfl rfl rfl (y_val tok rfl) rfl ?_
        refine t_takeD 2 rfl (by kernel_rfl) rfl rfl rfl (y_val tok rfl) rfl ?_
        refine t_takeD 3 rfl (by kernel_rfl) rfl rfl rfl (y_val tok rfl) rfl ?_
        rw [hw3]
        refine t_takeD 4 rfl (by kernel_rfl) rfl rfl rfl (y_slP tok (.slice (some ⟨bn, (i + 1) * 2, none⟩) (l.length + 1 - (i + 1)) (G - (i + 1))) rfl (fun hg => by simp; omega) (fun hg => by simp only [Option.getD, Int.toNat_natCast]; exact sl_plain (by omega))) rfl ?_
        refine t_takeD 5 rfl (by kernel_rfl) rfl rfl rfl (y_val tok rfl) rfl ?_
        refine t_takeD 6 rfl (by kernel_rfl) rfl rfl rfl (y_val tok rfl) rfl ?_
        refine t_takeD 7 rfl (by kernel_rfl) rfl rfl rfl (y_slP tok (.slice (some ⟨g, i * 2, none⟩) (l.length - i) (c - i)) rfl (fun hg => by simp; omega) (fun hg => by simp only [Option.getD, Int.toNat_natCast]; exact sl_plain (by omega))) rfl ?_
        refine t_go ?_
        refine h_one 8 (by kernel_rfl) ?_
        have hA : (cur.take (i * 2)).length = i * 2 := by rw [List.length_take]; omega
        rw [overL_app _ _ _ _ hA]
        have hB := cur_drop hcur (Nat.le_of_lt hi)
        have hBl : ((l.drop i).flatMap Block.cells).length = (l.length - i) * 2 := by rw [block_flat, List.length_drop]
        refine h_to 8 rfl rfl rfl rfl rfl rfl (s_cpL (l := 3) (q := 4) (k := l.length - i) (cur := cur.take (i * 2) ++ [x].flatMap Block.cells ++ tl.drop 2) (news := (l.drop i).flatMap Block.cells) tok rfl rfl rfl rfl (fun E w1 hm => by rw [← hB]; exact hm.srcL (l := 0) (q := 1) rfl rfl (by show i * 2 + (l.length - i) * 2 ≤ _; omega) (by omega)) (block_ones _) (by omega) (by show (i + 1) * 2 + (l.length - i) * 2 ≤ _; simp; omega)) (.inl rfl) (fun _ _ => ?_)
        refine h_done [9] (by kernel_rfl) rfl ?_
        refine x_then ?_
        refine c_seq ?_
        refine c_region ?_
        refine o_yield rfl rfl rfl (y_val tok rfl) ?_
        refine o_yield rfl rfl rfl (y_val tok rfl) ?_
        refine o_end [6] rfl ?_
        refine x_then ?_
        refine c_ret ?_
        refine x_then_ret ?_
        refine b_ret tok rfl ?_
        rw [overL_app _ _ _ _ (by simp; omega)]
        intro E w' hm _
        have hpn := (hm.pin 4 3 _ rfl).1
        have hl3 := hm.lit 3 _ _ rfl
        rw [(den_plain E _).1, hpn] at hl3
        have hne : bn ≠ g := fun hc => by
          have := hm.sep 3 0 _ _ g rfl rfl (by simp [blk, hpn, hc]) (by simp [blk, (hm.pin 1 0 _ rfl).1])
          cases this
        have hge : w.heap.size ≤ bn := by
          have := hm.off 3 _ bn rfl (by simp [blk, hpn])
          simp only [Vw.del] at this
          rw [if_neg hne] at this
          exact Array.getElem?_eq_none_iff.1 this
        refine ⟨_, rfl, hm.touch (Vw.le.refl _) (fun k o hk hS => by simp only [Vw.del]; rw [if_neg hS]; exact hk) ⟨rfl, rfl, rfl⟩ (hm.big 2 _ rfl), ?_⟩
        refine ⟨by rw [block_flat]; simp [insAt]; omega, .inr ⟨bn, G, _, rfl, hge, hl3, hG1, hG2, ?_, ?_⟩⟩
        · simp [hBl]; omega
        · rw [ins_flat, ← cur_take hcur (Nat.le_of_lt hi)]
          have : (cur.take (i * 2) ++ [x].flatMap Block.cells ++ (l.drop i).flatMap Block.cells).length = (l.length + 1) * 2 := by simp [hBl]; omega
          rw [← this]
          exact List.take_left
      ·
        simp only [Bool.and_eq_true, Bool.or_eq_true, Bool.not_eq_true', Bool.or_eq_false_iff, Bool.and_eq_false_iff, decide_eq_true_eq, decide_eq_false_iff_not, beq_iff_eq, bne_iff_ne, Bool.not_eq_false', beq_eq_false_iff_ne, bne_eq_false_iff_eq, ne_eq, Decidable.not_not, Int.not_lt, Int.not_le] at h
        exfalso
        rw [hw1] at h
        omega

theorem ovl_run (g xb off la ca lb cb e e' : Nat) (cs cur : Array Value) (w : World) (hne : xb ≠ g) (hb : w.heap[xb]? = some (.cells cs e (0, 0))) (hg : w.heap[g]? = some (.cells cur e' (0, 0))) (hk : cur.size ≠ 0) :
    (callFunc 179 #[.slice (some ⟨xb, 0, none⟩) la ca, .slice (some ⟨g, off, none⟩) lb cb]).run Try.prog w = .ok (.value (.bool false)) w := by
  rw [run_callFunc_extern Try.func179 (by kernel_rfl) (by kernel_rfl) (by kernel_rfl) (e := Extern.SlicesOverlaps.overlaps #[22, 22] #[4]) (by kernel_rfl),
    Lib.run_overlaps_apart w 22 4 34 Try.underlying22 2 (fun w => Try.sizeOf34 w) ⟨xb, 0, none⟩ ⟨g, off, none⟩ la ca lb cb hne e e' cs.size cur.size (by simp [World.shape?, hb]) (by simp [World.shape?, hg]) hk (by simp [World.frozen?, hb]) (by simp [World.frozen?, hb])]
  rfl

theorem insShift_c (g c i xb : Nat) (cur : List Value) (l : List Block) (x : Block) (w : World) (hg : w.heap[g]? = some (.cells cur.toArray 34 (0, 0))) (hcl : cur.length = c * 2) (hcur : cur.take (l.length * 2) = l.flatMap Block.cells)
    (hxb : ((vw w).del g).get xb = some (.cells x.cells.toArray 34 (0, 0))) (hi : i < l.length) (hn : l.length ≤ 1048576) (hlc : l.length + 1 ≤ c) (hcm : c ≤ maxLen) :
    Calls Try.prog 145 #[.slice (some ⟨g, 0, none⟩) l.length c, I i, .slice (some ⟨xb, 0, none⟩) 1 1] w fun e w' => ∃ v', e = .returned v' ∧ Go.Eng.Touch (· = g) w w' ∧ w'.ownsRow 0 34 2 v' (l.length + 1) ((insAt l i x).flatMap Block.cells) ∧ v'.ownBlock = some g := by
  have hx0 : SlOf ((vw w).del g) Block.cells 2 (.slice (some ⟨xb, 0, none⟩) 1 1) [x] := SlOf.ofBlock (enc := Block.cells) (sz := 2) (l := [x]) hxb (by simp) (fun _ => rfl) (Nat.le_refl _)
  have hm1 := (mem0 E0 0 w).addLit (b := g) (e := 34) (cs := cur.map .v) (by rw [(den_plain E0 cur).1]; exact hg) ((den_plain E0 cur).2 _)
  have hm2 := (hm1.addPin 0 g (by simp [Env.setρ]) (by omega)).addSize
  have hs := hx0
  have hne : xb ≠ g := fun h => by subst h; simp [Vw.del] at hxb
  clear hm1
  have hw1 : IntKind.i64.wrap ((l.length : Int) + ([x].length : Int)) = ((l.length + 1 : Nat) : Int) := by rw [wrapI] <;> simp <;> omega
  have hw3 : IntKind.i64.wrap ((i : Int) + ([x].length : Int)) = ((i + 1 : Nat) : Int) := by rw [wrapI] <;> simp <;> omega
  refine enter [.a (.v (.slice (some ⟨g, 0, none⟩) l.length c)), .a (.v (I i)), .a (.v (.slice (some ⟨xb, 0, none⟩) 1 1))] Try.func145 rfl rfl (hm2) rfl rfl ?_
  refine c_seq ?_
  refine c_region ?_
  refine o_yield rfl rfl rfl (y_val tok rfl) ?_
  refine o_end [0, 1, 2] rfl ?_
  refine x_then ?_
  refine c_seq ?_
  refine c_region ?_
  refine o_yield rfl rfl rfl (y_val tok rfl) ?_
  refine o_yield rfl rfl rfl (y_val tok rfl) ?_
  refine o_yield rfl rfl rfl (y_slP tok (.slice (some ⟨g, i * 2, none⟩) (l.length - i) (c - i)) rfl (fun hg => by simp; omega) (fun hg => by simp only [Option.getD, Int.toNat_natCast]; exact sl_plain (by omega))) ?_
  refine o_end [0, 1, 2] rfl ?_
  refine x_then ?_
  refine c_seq ?_
  refine c_region ?_
  refine o_yield rfl rfl rfl (y_val tok rfl) ?_
  refine o_yield rfl rfl rfl (y_len tok rfl (fun hg => hs.sl)) ?_
  refine o_yield rfl rfl rfl (y_val tok rfl) ?_
  refine o_end [0, 1, 2, 7] rfl ?_
  refine x_then ?_
  refine c_seq ?_
  refine c_seq ?_
  refine c_region ?_
  refine o_yield rfl rfl rfl (y_val tok rfl) ?_
  refine o_yield rfl rfl rfl (y_val tok rfl) ?_
  refine o_end [0, 1, 2, 7, 16] rfl ?_
  refine x_then ?_
  refine c_cond rfl (fun h => ?_) (fun h => ?_)
  ·
    simp only [Bool.and_eq_true, Bool.or_eq_true, Bool.not_eq_true', Bool.or_eq_false_iff, Bool.and_eq_false_iff, decide_eq_true_eq, decide_eq_false_iff_not, beq_iff_eq, bne_iff_ne, Bool.not_eq_false', beq_eq_false_iff_ne, bne_eq_false_iff_eq, ne_eq, Decidable.not_not, Int.not_lt, Int.not_le] at h
    exfalso
    simp at h
  ·
    simp only [Bool.and_eq_true, Bool.or_eq_true, Bool.not_eq_true', Bool.or_eq_false_iff, Bool.and_eq_false_iff, decide_eq_true_eq, decide_eq_false_iff_not, beq_iff_eq, bne_iff_ne, Bool.not_eq_false', beq_eq_false_iff_ne, bne_eq_false_iff_eq, ne_eq, Decidable.not_not, Int.not_lt, Int.not_le] at h
    refine c_skip ?_
    refine x_then ?_
    refine c_seq ?_
    refine c_region ?_
    refine o_yield rfl rfl rfl (y_val tok rfl) ?_
    refine o_yield rfl rfl rfl (y_lenP tok rfl) ?_
    refine o_yield rfl rfl rfl (y_val tok rfl) ?_
    refine o_end [0, 1, 2, 7, 8] rfl ?_
    refine x_then ?_
    refine c_seq ?_
    refine c_seq ?_
    refine c_region ?_
    refine o_yield rfl rfl rfl (y_val tok rfl) ?_
    refine o_yield rfl rfl rfl (y_val tok rfl) ?_
    refine o_yield rfl rfl rfl (y_val tok rfl) ?_
    refine o_end [0, 1, 2, 7, 8, 22] rfl ?_
    refine x_then ?_
    refine c_cond rfl (fun h => ?_) (fun h => ?_)
    ·
      simp only [Bool.and_eq_true, Bool.or_eq_true, Bool.not_eq_true', Bool.or_eq_false_iff, Bool.and_eq_false_iff, decide_eq_true_eq, decide_eq_false_iff_not, beq_iff_eq, bne_iff_ne, Bool.not_eq_false', beq_eq_false_iff_ne, bne_eq_false_iff_eq, ne_eq, Decidable.not_not, Int.not_lt, Int.not_le] at h
      exfalso
      omega
    ·
      simp only [Bool.and_eq_true, Bool.or_eq_true, Bool.not_eq_true', Bool.or_eq_false_iff, Bool.and_eq_false_iff, decide_eq_true_eq, decide_eq_false_iff_not, beq_iff_eq, bne_iff_ne, Bool.not_eq_false', beq_eq_false_iff_ne, bne_eq_false_iff_eq, ne_eq, Decidable.not_not, Int.not_lt, Int.not_le] at h
      clear h
      refine c_skip ?_
      refine x_then ?_
      refine c_seq ?_
      refine c_seq ?_
      refine c_region ?_
      refine o_yield rfl rfl rfl (y_val tok rfl) ?_
      refine o_yield rfl rfl rfl (y_val tok rfl) ?_
      refine o_yield rfl rfl rfl (y_val tok rfl) ?_
      refine o_yield rfl rfl rfl (y_val tok rfl) ?_
      refine o_yield rfl rfl rfl (y_cap tok rfl) ?_
      refine o_yield rfl rfl rfl (y_val tok rfl) ?_
      refine o_end [0, 1, 2, 7, 8, 31] rfl ?_
      refine x_then ?_
      refine c_cond rfl (fun h => ?_) (fun h => ?_)
      ·
        simp only [Bool.and_eq_true, Bool.or_eq_true, Bool.not_eq_true', Bool.or_eq_false_iff, Bool.and_eq_false_iff, decide_eq_true_eq, decide_eq_false_iff_not, beq_iff_eq, bne_iff_ne, Bool.not_eq_false', beq_eq_false_iff_ne, bne_eq_false_iff_eq, ne_eq, Decidable.not_not, Int.not_lt, Int.not_le] at h
        exfalso
        rw [hw1] at h
        omega
      ·
        simp only [Bool.and_eq_true, Bool.or_eq_true, Bool.not_eq_true', Bool.or_eq_false_iff, Bool.and_eq_false_iff, decide_eq_true_eq, decide_eq_false_iff_not, beq_iff_eq, bne_iff_ne, Bool.not_eq_false', beq_eq_false_iff_ne, bne_eq_false_iff_eq, ne_eq, Decidable.not_not, Int.not_lt, Int.not_le] at h
        rw [hw1] at h
        clear h
        refine c_skip ?_
        refine x_then ?_
        refine c_seq ?_
        refine c_region ?_
        refine o_yield rfl rfl rfl (y_val tok rfl) ?_
        refine o_yield rfl rfl rfl (y_val tok rfl) ?_
        refine o_yield rfl rfl rfl (y_val tok rfl) ?_
        refine o_yield rfl rfl rfl (y_val tok rfl) ?_
        rw [hw1]
        refine o_yield rfl rfl rfl (y_slP tok (.slice (some ⟨g, 0, none⟩) (l.length + 1) c) rfl (fun hg => by simp; omega) (fun hg => by simp [sliceV, Addr.add])) ?_
        refine o_yield rfl rfl rfl (y_val tok rfl) ?_
        refine o_end [0, 1, 2, 7, 8] rfl ?_
        refine x_then ?_
        refine c_seq ?_
        refine c_seq ?_
        refine c_region ?_
        refine o_yield rfl rfl rfl (y_val tok rfl) ?_
        refine o_yield rfl rfl rfl (y_val tok rfl) ?_
        refine o_yield rfl rfl rfl (y_val tok rfl) ?_
        refine o_yield rfl rfl rfl (y_val tok rfl) ?_
        refine o_yield rfl rfl rfl (y_val tok rfl) ?_
        rw [hw3]
        refine o_yield rfl rfl rfl (y_slP tok (.slice (some ⟨g, (i + 1) * 2, none⟩) (l.length + 1 - (i + 1)) (c - (i + 1))) rfl (fun hg => by simp; omega) (fun hg => by simp only [Option.getD, Int.toNat_natCast]; exact sl_plain (by omega))) ?_
        refine o_yield rfl rfl rfl (y_ext (.a (.v (.bool false))) rfl rfl (fun hgt E w1 hm => by have hl0 := hm.lit 0 _ _ rfl; rw [(hm.pin 1 0 _ rfl).1] at hl0; exact ovl_run g xb _ _ _ _ _ _ _ _ _ w1 hne (hm.get _ _ hxb) hl0 (by rw [List.size_toArray, List.length_map, List.length_map]; omega))) ?_
        refine o_yield rfl rfl rfl (y_val tok rfl) ?_
        refine o_end [0, 1, 2, 7, 8, 68] rfl ?_
        refine x_then ?_
        refine c_cond rfl (fun h => ?_) (fun h => ?_)
        ·
          simp only [Bool.and_eq_true, Bool.or_eq_true, Bool.not_eq_true', Bool.or_eq_false_iff, Bool.and_eq_false_iff, decide_eq_true_eq, decide_eq_false_iff_not, beq_iff_eq, bne_iff_ne, Bool.not_eq_false', beq_eq_false_iff_ne, bne_eq_false_iff_eq, ne_eq, Decidable.not_not, Int.not_lt, Int.not_le] at h
          clear h
          have hB := cur_drop hcur (Nat.le_of_lt hi)
          have hBl : ((l.drop i).flatMap Block.cells).length = (l.length - i) * 2 := by rw [block_flat, List.length_drop]
          refine c_seq ?_
          refine c_heldS [8] mixed rfl (by repeat (first | exact SubO.nil | refine SubO.cons rfl ?_)) (by first | rfl | simp [okCels, allOk_plain]) ?_
          refine t_takeD 0 rfl (by kernel_rfl) rfl rfl rfl (y_val tok rfl) rfl ?_
          refine t_takeD 1 rfl (by kernel_rfl) rfl rfl rfl (y_val tok rfl) rfl ?_
          refine t_takeD 2 rfl (by kernel_rfl) rfl rfl rfl (y_val tok rfl) rfl ?_
          refine t_takeD 3 rfl (by kernel_rfl) rfl rfl rfl (y_val tok rfl) rfl ?_
          rw [hw3]
          refine t_takeD 4 rfl (by kernel_rfl) rfl rfl rfl (y_slP tok (.slice (some ⟨g, (i + 1) * 2, none⟩) (l.length + 1 - (i + 1)) (c - (i + 1))) rfl (fun hg => by simp; omega) (fun hg => by simp only [Option.getD, Int.toNat_natCast]; exact sl_plain (by omega))) rfl ?_
          refine t_takeD 5 rfl (by kernel_rfl) rfl rfl rfl (y_val tok rfl) rfl ?_
          refine t_takeD 6 rfl (by kernel_rfl) rfl rfl rfl (y_val tok rfl) rfl ?_
          refine t_takeD 7 rfl (by kernel_rfl) rfl rfl rfl (y_slP tok (.slice (some ⟨g, i * 2, none⟩) (l.length + 1 - i) (c - i)) rfl (fun hg => by simp; omega) (fun hg => by simp only [Option.getD, Int.toNat_natCast]; exact sl_plain (by omega))) rfl ?_
          refine t_go ?_
          refine h_one 8 (by kernel_rfl) ?_
          rw [show l.length + 1 - (i + 1) = l.length - i by omega]
          refine h_to 8 rfl rfl rfl rfl rfl rfl (s_cpS (l := 0) (q := 1) (cur := cur) tok ((l.drop i).flatMap Block.cells) rfl rfl rfl rfl hB (block_ones _) (by omega) (by show (i + 1) * 2 + (l.length - i) * 2 ≤ _; omega) (by show i * 2 + (l.length - i) * 2 ≤ _; omega)) (.inl rfl) (fun _ _ => ?_)
          refine h_done [0, 1, 2] (by kernel_rfl) rfl ?_
          refine x_then ?_
          refine c_seq ?_
          refine c_region ?_
          refine o_yield rfl rfl rfl (y_val tok rfl) ?_
          refine o_yield rfl rfl rfl (y_val tok rfl) ?_
          have hT : overL ((i + 1) * 2) ((l.drop i).flatMap Block.cells) cur = cur.take (i * 2) ++ ((cur.drop (i * 2)).take 2 ++ ((l.drop i).flatMap Block.cells ++ cur.drop ((i + 1) * 2 + (l.length - i) * 2))) := by
            have e1 : cur.take ((i + 1) * 2) = cur.take (i * 2) ++ (cur.drop (i * 2)).take 2 := by
              rw [← List.take_add]
              congr 1
              omega
            rw [overL, hBl, e1]
            simp only [List.append_assoc]
          have hA : (cur.take (i * 2)).length = i * 2 := by rw [List.length_take]; omega
          have h2 : ((cur.drop (i * 2)).take 2).length = 2 := by rw [List.length_take, List.length_drop]; omega
          have hX : ([x].flatMap Block.cells).length = 2 := by simp
          rw [hT]
          refine o_yield rfl rfl rfl (y_slP tok (.slice (some ⟨g, i * 2, none⟩) (l.length + 1 - i) (c - i)) rfl (fun hg => by simp; omega) (fun hg => by simp only [Option.getD, Int.toNat_natCast]; exact sl_plain (by omega))) ?_
          refine o_yield rfl rfl rfl (y_val tok rfl) ?_
          refine o_step rfl rfl rfl rfl rfl (s_cpL (l := 0) (q := 1) (cur := cur.take (i * 2) ++ ((cur.drop (i * 2)).take 2 ++ ((l.drop i).flatMap Block.cells ++ cur.drop ((i + 1) * 2 + (l.length - i) * 2)))) (news := [x].flatMap Block.cells) tok rfl rfl rfl rfl (fun E w1 hm => hs.sl.src hm.get) (block_ones [x]) (by simp; omega) (by show i * 2 + 1 * 2 ≤ _; rw [List.length_append, hA, List.length_append, h2]; omega)) (fun _ _ => ?_)
          refine o_end [0] rfl ?_
          refine x_then ?_
          refine c_seq ?_
          refine c_region ?_
          refine o_yield rfl rfl rfl (y_val tok rfl) ?_
          refine o_yield rfl rfl rfl (y_val tok rfl) ?_
          refine o_end [6] rfl ?_
          refine x_then ?_
          refine c_ret ?_
          refine x_then_ret ?_
          refine b_ret tok rfl ?_
          rw [overL_app _ _ _ _ hA, hX, List.drop_left' h2]
          intro E w' hm _
          have hl0 := hm.lit 0 _ _ rfl
          rw [(den_plain E _).1, (hm.pin 1 0 _ rfl).1] at hl0
          refine ⟨_, rfl, hm.touch (Vw.le.refl _) (fun k o hk hS => by simp only [Vw.del]; rw [if_neg hS]; exact hk) ⟨rfl, rfl, rfl⟩ (hm.big 2 _ rfl), ?_, rfl⟩
          have hlen : (cur.take (i * 2) ++ [x].flatMap Block.cells ++ (l.drop i).flatMap Block.cells).length = (l.length + 1) * 2 := by rw [List.length_append, List.length_append, hA, hX, hBl]; omega
          refine ⟨by rw [block_flat]; simp [insAt]; omega, .inr ⟨g, c, _, rfl, Nat.zero_le _, hl0, hlc, hcm, ?_, ?_⟩⟩
          · rw [List.size_toArray, ← List.append_assoc, List.length_append, hlen, List.length_drop]; omega
          · rw [ins_flat, ← cur_take hcur (Nat.le_of_lt hi), ← hlen, ← List.append_assoc]
            exact List.take_left
        ·
          simp only [Bool.and_eq_true, Bool.or_eq_true, Bool.not_eq_true', Bool.or_eq_false_iff, Bool.and_eq_false_iff, decide_eq_true_eq, decide_eq_false_iff_not, beq_iff_eq, bne_iff_ne, Bool.not_eq_false', beq_eq_false_iff_ne, bne_eq_false_iff_eq, ne_eq, Decidable.not_not, Int.not_lt, Int.not_le] at h
          exfalso
          simp at h

theorem insEnd_c (xb : Nat) (v : Value) (l : List Block) (x : Block) (w : World) (hr : w.ownsRow 0 34 2 v l.length (l.flatMap Block.cells)) (hxb : ((vw w).delO v.ownBlock).get xb = some (.cells x.cells.toArray 34 (0, 0))) (hn : l.length ≤ 1048576) :
    Calls Try.prog 145 #[v, I l.length, .slice (some ⟨xb, 0, none⟩) 1 1] w fun e w' => ∃ v', e = .returned v' ∧ Go.Eng.Touch (fun k => v.ownBlock = some k) w w' ∧ w'.ownsRow 0 34 2 v' (l.length + 1) ((l ++ [x]).flatMap Block.cells) ∧ (v'.ownBlock = v.ownBlock ∨ ∀ k, v'.ownBlock = some k → w.heap.size ≤ k) := by
  have hx0 : SlOf ((vw w).delO v.ownBlock) Block.cells 2 (.slice (some ⟨xb, 0, none⟩) 1 1) [x] := SlOf.ofBlock (enc := Block.cells) (sz := 2) (l := [x]) hxb (by simp) (fun _ => rfl) (Nat.le_refl _)
  have hV : ∀ k, v.ownBlock = some k → ((vw w).get k).isSome = true := fun k h => by
    have := (hr.lt k h).2
    simp [vw, this]
  have hm1 := (mem0 E0 0 w).addRow hr hV
  have hm2 := (hm1.addKeep 0 (by omega)).addSize
  have hs := hx0
  have hget : ∀ k, v.ownBlock ≠ some k → ((vw w).delO v.ownBlock).get k = w.heap[k]? := fun k h => by
    cases hv : v.ownBlock with
    | none => rfl
    | some b =>
      simp only [Vw.delO, Vw.del, vw]
      rw [if_neg (fun e => h (by rw [hv, e]))]
  obtain ⟨a, c, hv, hlc⟩ : ∃ a c, v = .slice a l.length c ∧ l.length ≤ c := by
    rcases hr.2 with ⟨h1, h2⟩ | ⟨g, cap, cur, h1, _, _, h2, _⟩
    · exact ⟨none, 0, by rw [h1, h2], by omega⟩
    · exact ⟨_, cap, h1, h2⟩
  have hκ : (E0.setκ 0 v).κ 0 = v := by simp [Env.setκ]
  rw [hκ] at hm2
  generalize hV0 : (vw w).delO v.ownBlock = V0 at hm2 hs hget
  have hos : V0.os = w.os ∧ V0.tape = w.tape ∧ V0.output = w.output := by
    rw [← hV0]
    cases v.ownBlock <;> exact ⟨rfl, rfl, rfl⟩
  have key0 : ∀ k, V0.get k = none → k < w.heap.size → v.ownBlock = some k := fun k hg hlt => by
    by_cases h2 : v.ownBlock = some k
    · exact h2
    · rw [hget k h2] at hg
      simp [hlt] at hg
  clear hm1 hV0 hx0 hxb hκ hV
  subst hv
  generalize hown : (Value.slice a l.length c).ownBlock = ob at *
  generalize hE : E0.setκ 0 (.slice a l.length c) = E1 at hm2
  refine enter [.a (.v (.slice a l.length c)), .a (.v (I l.length)), .a (.v (.slice (some ⟨xb, 0, none⟩) 1 1))] Try.func145 rfl rfl (hm2) rfl rfl ?_
  refine c_seq ?_
  refine c_region ?_
  refine o_yield rfl rfl rfl (y_val tok rfl) ?_
  refine o_end [0, 1, 2] rfl ?_
  refine x_then ?_
  refine c_seq ?_
  refine c_region ?_
  refine o_yield rfl rfl rfl (y_val tok rfl) ?_
  refine o_yield rfl rfl rfl (y_val tok rfl) ?_
  refine o_yield rfl rfl rfl (y_slP tok _ rfl (fun hg => by simp; omega) (fun hg => rfl)) ?_
  refine o_end [0, 1, 2] rfl ?_
  refine x_then ?_
  refine c_seq ?_
  refine c_region ?_
  refine o_yield rfl rfl rfl (y_val tok rfl) ?_
  refine o_yield rfl rfl rfl (y_len tok rfl (fun hg => hs.sl)) ?_
  refine o_yield rfl rfl rfl (y_val tok rfl) ?_
  refine o_end [0, 1, 2, 7] rfl ?_
  refine x_then ?_
  refine c_seq ?_
  refine c_seq ?_
  refine c_region ?_
  refine o_yield rfl rfl rfl (y_val tok rfl) ?_
  refine o_yield rfl rfl rfl (y_val tok rfl) ?_
  refine o_end [0, 1, 2, 7, 16] rfl ?_
  refine x_then ?_
  refine c_cond rfl (fun h => ?_) (fun h => ?_)
  ·
    simp only [Bool.and_eq_true, Bool.or_eq_true, Bool.not_eq_true', Bool.or_eq_false_iff, Bool.and_eq_false_iff, decide_eq_true_eq, decide_eq_false_iff_not, beq_iff_eq, bne_iff_ne, Bool.not_eq_false', beq_eq_false_iff_ne, bne_eq_false_iff_eq, ne_eq, Decidable.not_not, Int.not_lt, Int.not_le] at h
    exfalso
    simp at h
  ·
    simp only [Bool.and_eq_true, Bool.or_eq_true, Bool.not_eq_true', Bool.or_eq_false_iff, Bool.and_eq_false_iff, decide_eq_true_eq, decide_eq_false_iff_not, beq_iff_eq, bne_iff_ne, Bool.not_eq_false', beq_eq_false_iff_ne, bne_eq_false_iff_eq, ne_eq, Decidable.not_not, Int.not_lt, Int.not_le] at h
    refine c_skip ?_
    refine x_then ?_
    refine c_seq ?_
    refine c_region ?_
    refine o_yield rfl rfl rfl (y_val tok rfl) ?_
    refine o_yield rfl rfl rfl (y_lenP tok rfl) ?_
    refine o_yield rfl rfl rfl (y_val tok rfl) ?_
    refine o_end [0, 1, 2, 7, 8] rfl ?_
    refine x_then ?_
    refine c_seq ?_
    refine c_seq ?_
    refine c_region ?_
    refine o_yield rfl rfl rfl (y_val tok rfl) ?_
    refine o_yield rfl rfl rfl (y_val tok rfl) ?_
    refine o_yield rfl rfl rfl (y_val tok rfl) ?_
    refine o_end [0, 1, 2, 7, 8, 22] rfl ?_
    refine x_then ?_
    refine c_cond rfl (fun h => ?_) (fun h => ?_)
    ·
      simp only [Bool.and_eq_true, Bool.or_eq_true, Bool.not_eq_true', Bool.or_eq_false_iff, Bool.and_eq_false_iff, decide_eq_true_eq, decide_eq_false_iff_not, beq_iff_eq, bne_iff_ne, Bool.not_eq_false', beq_eq_false_iff_ne, bne_eq_false_iff_eq, ne_eq, Decidable.not_not, Int.not_lt, Int.not_le] at h
      refine c_seq ?_
      refine c_region ?_
      refine o_yield rfl rfl rfl (y_val tok rfl) ?_
      refine o_yield rfl rfl rfl (y_val tok rfl) ?_
      refine o_step rfl rfl rfl rfl rfl (s_apP (l := 0) (q := 1) tok ([x].flatMap Block.cells) rfl rfl rfl rfl rfl rfl (fun E w1 hm => hs.sl.src hm.get) (block_ones [x]) (by show (l.length + [x].length) * 24 ≤ _; simp; omega) (by simp [maxLen]; omega)) (fun _ _ => ?_)
      refine o_yield rfl rfl rfl (y_val tok rfl) ?_
      refine o_end [6] rfl ?_
      refine x_then ?_
      refine c_ret ?_
      refine x_then_ret ?_
      refine b_ret tok rfl ?_
      intro E' w' hm _
      refine ⟨_, rfl, ?_, ?_, ?_⟩
      · exact hm.touch (Vw.le.refl _) (fun k o hk hS => by rw [hget k hS]; exact hk) hos (hm.big 2 _ rfl)
      · have := hm.row 3 _ _ _ _ rfl
        rw [← List.flatMap_append] at this
        exact this
      · cases hv' : (E'.κ 3).ownBlock with
        | none => exact .inr (fun k h => by rw [show (E'.κ 3).ownBlock = some k from h] at hv'; cases hv')
        | some k =>
          by_cases hlt : k < w.heap.size
          · have := key0 k (hm.off 3 _ k rfl (by simpa [blk] using hv')) hlt
            exact .inl (hv'.trans this.symm)
          · exact .inr (fun k' h => by rw [show (E'.κ 3).ownBlock = some k' from h] at hv'; cases hv'; omega)
    ·
      simp only [Bool.and_eq_true, Bool.or_eq_true, Bool.not_eq_true', Bool.or_eq_false_iff, Bool.and_eq_false_iff, decide_eq_true_eq, decide_eq_false_iff_not, beq_iff_eq, bne_iff_ne, Bool.not_eq_false', beq_eq_false_iff_ne, bne_eq_false_iff_eq, ne_eq, Decidable.not_not, Int.not_lt, Int.not_le] at h
      exfalso
      simp at h

theorem insAt_end (l : List Block) (x : Block) : insAt l l.length x = l ++ [x] := by simp [insAt]

theorem insert_c (xb i : Nat) (v : Value) (l : List Block) (x : Block) (w : World) (hr : w.ownsRow 0 34 2 v l.length (l.flatMap Block.cells)) (hxb : ((vw w).delO v.ownBlock).get xb = some (.cells x.cells.toArray 34 (0, 0))) (hi : i ≤ l.length) (hn : l.length ≤ 1048576) :
    Calls Try.prog 145 #[v, I i, .slice (some ⟨xb, 0, none⟩) 1 1] w fun e w' => ∃ v', e = .returned v' ∧ Go.Eng.Touch (fun k => v.ownBlock = some k) w w' ∧ w'.ownsRow 0 34 2 v' (l.length + 1) ((insAt l i x).flatMap Block.cells) ∧ (v'.ownBlock = v.ownBlock ∨ ∀ k, v'.ownBlock = some k → w.heap.size ≤ k) := by
  by_cases hil : i = l.length
  · subst hil
    rw [insAt_end]
    exact insEnd_c xb v l x w hr hxb hn
  · have hlt : i < l.length := by omega
    rcases hr.2 with ⟨h1, h2⟩ | ⟨g, c, cur, rfl, _, hg, hnc, hcm, hcs, hcur⟩
    · omega
    · have hob : (Value.slice (some ⟨g, 0, none⟩) l.length c).ownBlock = some g := rfl
      have hxb' : ((vw w).del g).get xb = some (.cells x.cells.toArray 34 (0, 0)) := hxb
      have hg' : w.heap[g]? = some (.cells cur.toList.toArray 34 (0, 0)) := by simpa using hg
      by_cases hroom : l.length + 1 ≤ c
      · refine (insShift_c g c i xb cur.toList l x w hg' (by simpa using hcs) hcur hxb' hlt hn hroom hcm).mono ?_
        rintro e w' ⟨v', he, ht, ho, hb⟩
        refine ⟨v', he, ?_, ho, .inl (hb.trans hob.symm)⟩
        refine ht.mono ?_
        intro k hk
        rw [hob, hk]
      · have hx0 : SlOf ((vw w).del g) Block.cells 2 (.slice (some ⟨xb, 0, none⟩) 1 1) [x] := SlOf.ofBlock (enc := Block.cells) (sz := 2) (l := [x]) hxb' (by simp) (fun _ => rfl) (Nat.le_refl _)
        refine (insGrow_c g c i cur.toList l x _ w hg' (by simpa using hcs) hcur hx0 hlt hn (by omega)).mono ?_
        rintro e w' ⟨v', he, ht, ho⟩
        refine ⟨v', he, ?_, ?_, .inr ?_⟩
        · refine ht.mono ?_
          intro k hk
          rw [hob, hk]
        · refine ⟨ho.1, ?_⟩
          rcases ho.2 with h | ⟨g', c', cur', h1, _, h2⟩
          · exact .inl h
          · exact .inr ⟨g', c', cur', h1, Nat.zero_le _, h2⟩
        · intro k hk
          rcases ho.2 with ⟨h, _⟩ | ⟨g', c', cur', h1, hge, _⟩
          · rw [h] at hk; cases hk
          · rw [h1] at hk
            cases hk
            exact hge
end Go.Proofs.Ytanekcndpkagiaa

/- Blocks put into a row: the program's. -/
set_option linter.unusedVariables false
set_option linter.unusedSimpArgs false
set_option maxRecDepth 100000
namespace Go.Proofs.Ytanekcndpkagiaa
open Go Go.Eng Go.RowKit

theorem idxB_cases (pr : Block → Bool) : ∀ (l : List Block) (i : Nat), idxB pr l i = -1 ∨ ∃ k : Nat, idxB pr l i = ((i + k : Nat) : Int) ∧ k < l.length
  | [], i => .inl rfl
  | b :: r, i => by
    rw [idxB]
    by_cases h : pr b = true
    · rw [if_pos h]; exact .inr ⟨0, rfl, by simp⟩
    · rw [if_neg h]
      rcases idxB_cases pr r (i + 1) with h1 | ⟨k, h1, h2⟩
      · exact .inl h1
      · exact .inr ⟨k + 1, by rw [h1]; congr 1; omega, by simpa using h2⟩

def putB (l : List Block) (x : Block) : List Block :=
  if 0 ≤ idxB (fun y => y.n == x.n) l 0 then l.set (idxB (fun y => y.n == x.n) l 0).toNat x
  else insAt l (if idxB (fun y => decide (x.n < y.n)) l 0 < 0 then l.length else (idxB (fun y => decide (x.n < y.n)) l 0).toNat) x

def putP (l more : List Block) : List Block := more.foldl putB l

theorem putB_len (l : List Block) (x : Block) : (putB l x).length ≤ l.length + 1 := by
  unfold putB
  split
  · simp
  · simp only [insAt, List.length_append, List.length_cons, List.length_take, List.length_drop]; omega

theorem putP_len : ∀ (more l : List Block), (putP l more).length ≤ l.length + more.length
  | [], l => by simp [putP]
  | x :: r, l => by
    have := putP_len r (putB l x)
    have := putB_len l x
    simp only [putP, List.foldl_cons, List.length_cons] at *
    omega

theorem putP_snoc (l more : List Block) (x : Block) : putP l (more ++ [x]) = putB (putP l more) x := by simp [putP]

theorem hasG_c (sv : Value) (l : List Block) (k : Int) (b e0 : Nat) (tl : List Value) (w : World) (hb : w.heap[b]? = some (.cells (sv :: tl).toArray e0 (0, 0))) (hs : SlOf ((vw w).del b) Block.cells 2 sv l) (hn : l.length ≤ 4398046511104) :
    Calls Try.prog 89 #[.pointer (some ⟨b, 0, none⟩), I k] w fun e w' => e = .returned (I (idxB (fun x => x.n == k) l 0)) ∧ Below w.heap.size w w' := by
  refine enter1 [.a (.ptr 0 0), .a (.v (I k))] hb Try.func89 rfl rfl rfl rfl ?_
  refine c_seq ?_
  refine c_region ?_
  refine o_new tok rfl rfl rfl rfl ?_
  refine o_yield rfl rfl rfl (y_val tok rfl) ?_
  refine o_end [0, 3] rfl ?_
  refine x_then ?_
  refine c_seq ?_
  refine c_region ?_
  refine o_yield rfl rfl rfl (y_val tok rfl) ?_
  refine o_yield rfl rfl rfl (y_val tok rfl) ?_
  refine o_yield rfl rfl rfl (y_val tok rfl) ?_
  refine o_yield rfl rfl rfl (y_val tok rfl) ?_
  refine o_yield rfl rfl rfl (y_val tok rfl) ?_
  refine o_call (.a (.v _)) rfl rfl fnok143 rfl rfl rfl (fun hg E w1 hm => by exact indexB_c (vw w1) _ sv (fun x => x.n == k) l _ (Vw.le.refl _) (hs.mono hm.leV) hn (fun x w' hle => ⟨146, _, rfl, fnok146, hasFn_c x k _ w' (hle.get _ _ (hm.lit 3 _ _ rfl))⟩)) ?_
  refine o_yield rfl rfl rfl (y_val tok rfl) ?_
  refine o_end [4] rfl ?_
  refine x_then ?_
  refine c_ret ?_
  refine b_ret tok rfl ?_
  intro E w' hm _
  exact ⟨rfl, below1 hb hm (Vw.le.refl _) rfl rfl rfl⟩

theorem gtFn_c (x y : Block) (bk : Nat) (w : World) (hk : w.heap[bk]? = some (.cells x.cells.toArray 34 (0, 0))) :
    Calls Try.prog 144 #[y.val, .pointer (some ⟨bk, 0, none⟩)] w fun e w' => e = .returned (.bool (decide (x.n < y.n))) ∧ Below w.heap.size w w' := by
  refine enter1 [.a (.v y.val), .a (.ptr 0 0)] hk Try.func144 rfl rfl rfl rfl ?_
  refine c_seq ?_
  refine c_region ?_
  refine o_new tok rfl rfl rfl rfl ?_
  refine o_yield rfl rfl rfl (y_val tok rfl) ?_
  refine o_end [1, 2] rfl ?_
  refine x_then ?_
  refine c_seq ?_
  refine c_region ?_
  refine o_yield rfl rfl rfl (y_val tok rfl) ?_
  refine o_yield rfl rfl rfl (y_val tok rfl) ?_
  refine o_yield rfl rfl rfl (y_val tok rfl) ?_
  refine o_yield rfl rfl rfl (y_val tok rfl) ?_
  refine o_yield rfl rfl rfl (y_val tok rfl) ?_
  refine o_yield rfl rfl rfl (y_val tok rfl) ?_
  refine o_end [3] rfl ?_
  refine x_then ?_
  refine c_ret ?_
  refine b_ret tok rfl ?_
  intro E w' hm _
  exact ⟨rfl, below1 hk hm (Vw.le.refl _) rfl rfl rfl⟩

section
variable {o : Oper} {n : Nat} {F : Frame0} {C : List Nat} {O : Own} {nl : Nat} {V : Vw}

theorem insAt_len {l : List Block} {i : Nat} {x : Block} (h : i ≤ l.length) : (insAt l i x).length = l.length + 1 := by
  simp only [insAt, List.length_append, List.length_cons, List.length_take, List.length_drop]; omega

/-- A block put into a row of one's own. -/
theorem s_ins {p : List (Nat × Bool)} (r i xb : Nat) (l : List Block) (x : Block) (hv : evalC F p o.op = some (145, [.a (.row r), .a (.v (I i)), .a (.v (.slice (some ⟨xb, 0, none⟩) 1 1))]))
    (hl : lk O r = some (.row 34 2 l.length (l.flatMap Block.cells))) (hxb : V.get xb = some (.cells x.cells.toArray 34 (0, 0))) (hi : i ≤ l.length) (hn : l.length ≤ 1048576) :
    StepTo Try.prog o p n F C O nl V (σ := Unit) (fun _ => True) (fun _ => .a (.row nl)) (fun _ => (nl, .row 34 2 (insAt l i x).length ((insAt l i x).flatMap Block.cells)) :: (r, .gone) :: O) (nl + 1) (fun _ => V) := by
  constructor
  intro E a w hf hgv hm K Q hK
  obtain ⟨hr, _⟩ := evalC_sound hf hgv hv fnok145 w
  unfold Oper.wp
  rw [hr, Oper.upon_enter]
  have hrow := hm.row _ _ _ _ _ hl
  have hne : (E.κ r).ownBlock ≠ some xb := fun h => by
    have := hm.off r _ xb hl (by simpa [blk] using h)
    rw [hxb] at this; cases this
  have hx' : ((vw w).delO (E.κ r).ownBlock).get xb = some (.cells x.cells.toArray 34 (0, 0)) := by
    have h0 : ((vw w).delO (E.κ r).ownBlock).get xb = w.heap[xb]? := by
      cases hv : (E.κ r).ownBlock with
      | none => rfl
      | some b =>
        simp only [Vw.delO, Vw.del, vw]
        rw [if_neg (fun e => hne (by rw [hv, e]))]
    rw [h0]; exact hm.get _ _ hxb
  refine (insert_c xb i (E.κ r) l x w hrow hx' hi hn).mono ?_
  rintro e w' ⟨v', rfl, ht, hown, hbk⟩
  have hgr : w.grownBy w' (E.κ r).ownBlock := ⟨ht.os, ht.tape, ht.output, ht.size, fun k hk hne => ht.block k hk (fun h => hne h.symm)⟩
  rw [← insAt_len (x := x) hi] at hown
  have := hK () (E.setκ nl v') w' trivial (Env.agree_setκ E v') (hm.growO hl hown hgr hbk) (by simp [SV.ok, A.ok, blt_iff])
  show K (a.put o.dst v') _
  simpa [SV.den, A.den, Env.setκ] using this
end
end Go.Proofs.Ytanekcndpkagiaa

/- The walk of row.put. -/
set_option linter.unusedVariables false
set_option linter.unusedSimpArgs false
set_option maxRecDepth 100000
namespace Go.Proofs.Ytanekcndpkagiaa
open Go Go.Eng Go.RowKit

theorem rput_c (v lv : Value) (l more : List Block) (b e0 : Nat) (g : Geo) (w : World) (hb : w.heap[b]? = some (.cells (v :: g.cells).toArray e0 (0, 0))) (hr : w.ownsRow 0 34 2 v l.length (l.flatMap Block.cells)) (d : v.ownBlock ≠ some b)
    (hl0 : SlOf (((vw w).delO v.ownBlock).del b) Block.cells 2 lv more) (hn : l.length + more.length ≤ 1048576) :
    Calls Try.prog 88 #[.pointer (some ⟨b, 0, none⟩), lv] w fun e w' => e = .returned (.tuple #[]) ∧ ∃ v', Go.Eng.Touch (fun k => k = b ∨ v.ownBlock = some k) w w' ∧ w'.heap[b]? = some (.cells (v' :: g.cells).toArray e0 (0, 0)) ∧
      w'.ownsRow 0 34 2 v' (putP l more).length ((putP l more).flatMap Block.cells) ∧ (v'.ownBlock = v.ownBlock ∨ ∀ k, v'.ownBlock = some k → w.heap.size ≤ k) := by
  have hV : ∀ k, v.ownBlock = some k → ((vw w).get k).isSome = true := fun k h => by
    have := (hr.lt k h).2
    simp [vw, this]
  have hm1 := (mem0 E0 0 w).addRow hr hV
  have get1 : ∀ k, v.ownBlock ≠ some k → ((vw w).delO v.ownBlock).get k = w.heap[k]? := fun k h => by
    cases hv : v.ownBlock with
    | none => rfl
    | some b =>
      simp only [Vw.delO, Vw.del, vw]
      rw [if_neg (fun e => h (by rw [hv, e]))]
  have hm2 := hm1.addLit (b := b) (e := e0) (cs := .row 0 :: g.cells.map .v) (by rw [get1 b d, hb, List.map_cons, (den_plain _ g.cells).1]; simp [A.den, Env.setκ]) (by simp only [allOk, A.ok, blt_iff, Bool.and_eq_true]; exact ⟨by omega, (den_plain E0 g.cells).2 _⟩)
  have hm3 := (hm2.addPin 1 b (by simp [Env.setρ]) (by omega)).addSize
  have get2 : ∀ k, v.ownBlock ≠ some k → k ≠ b → (((vw w).delO v.ownBlock).del b).get k = w.heap[k]? := fun k h h' => by
    simp only [Vw.del]
    rw [if_neg h', ← get1 k h]
  generalize hV0 : (((vw w).delO v.ownBlock).del b) = V0 at hm3 hl0 get2
  have hos : V0.os = w.os ∧ V0.tape = w.tape ∧ V0.output = w.output := by
    rw [← hV0]
    cases v.ownBlock <;> exact ⟨rfl, rfl, rfl⟩
  have key0 : ∀ k, V0.get k = none → k < w.heap.size → k = b ∨ v.ownBlock = some k := fun k hg hlt => by
    by_cases h1 : k = b
    · exact .inl h1
    · by_cases h2 : v.ownBlock = some k
      · exact .inr h2
      · rw [get2 k h2 h1] at hg
        simp [hlt] at hg
  clear hm1 hm2 hV0
  obtain ⟨E, hE⟩ : ∃ E, E = (E0.setκ 0 v).setρ 1 b := ⟨_, rfl⟩
  have hbE : E.ρ 1 = b := by rw [hE]; simp [Env.setρ]
  have hvE : E.κ 0 = v := by rw [hE]; simp [Env.setρ, Env.setκ]
  rw [← hE] at hm3
  clear hE
  subst hbE hvE
  have hs := hl0
  have e0p : putP l (more.take 0) = l := by simp [putP]
  refine enter [.a (.ptr 1 0), .a (.v lv)] Try.func88 rfl rfl (hm3) rfl rfl ?_
  refine c_seq ?_
  refine c_region ?_
  refine o_yield rfl rfl rfl (y_val tok rfl) ?_
  refine o_yield rfl rfl rfl (y_len tok rfl (fun hg => hs.sl)) ?_
  refine o_yield rfl rfl rfl (y_val tok rfl) ?_
  refine o_end [0, 8, 9, 10] rfl ?_
  refine x_then ?_
  refine c_block ?_
  refine c_loopK [0, 8, 9] [2, 3, 1, 0] rfl rfl (σ := Nat) (fun i => [(10, .a (.v (I i)))]) (fun i => [(2, .pin 1 (E.ρ 1)), (3, .size w.heap.size), (1, .lit (.row 0 :: g.cells.map .v) e0), (0, .row 34 2 (putP l (more.take i)).length ((putP l (more.take i)).flatMap Block.cells))]) (fun i => i ≤ more.length) (fun i => more.length - i) (0) (by omega) (by repeat (first | exact SubF.nil | refine SubF.cons rfl ?_ | refine SubF.cons (by simp only [e0p]; first | done | rfl) ?_)) (by repeat (first | exact SubO.nil | refine SubO.cons rfl ?_ | refine SubO.cons (by simp only [e0p]; first | done | rfl) ?_)) rfl ?_
  rintro i hi
  refine c_seq ?_
  refine c_region ?_
  refine o_yield rfl rfl rfl (y_val tok rfl) ?_
  refine o_end [0, 8, 9, 10, 11] rfl ?_
  refine x_then ?_
  refine c_seq ?_
  refine c_cond rfl (fun h => ?_) (fun h => ?_)
  ·
    simp only [Bool.and_eq_true, Bool.or_eq_true, Bool.not_eq_true', Bool.or_eq_false_iff, Bool.and_eq_false_iff, decide_eq_true_eq, decide_eq_false_iff_not, beq_iff_eq, bne_iff_ne, Bool.not_eq_false', beq_eq_false_iff_ne, bne_eq_false_iff_eq, ne_eq, Decidable.not_not, Int.not_lt, Int.not_le] at h
    refine c_skip ?_
    refine x_then ?_
    refine c_seq ?_
    refine c_block ?_
    refine c_seq ?_
    refine c_region ?_
    have hlen := putP_len (more.take i) l
    have hti : (more.take i).length = i := by rw [List.length_take]; omega
    generalize hL : putP l (more.take i) = L at *
    obtain ⟨x, h_x⟩ := hs.at (k := i) (by omega)
    have hlt_x := lt_of_at h_x
    refine o_yield rfl rfl rfl (y_idx tok rfl (fun hg => hs.sl) (fun hg => ⟨by omega, by omega⟩)) ?_
    refine o_yield rfl rfl rfl (y_lel tok (i) 0 (x) rfl (fun hg => hs) (fun hg => h_x) rfl rfl) ?_
    refine o_new tok rfl rfl rfl rfl ?_
    refine o_store tok rfl rfl rfl (by first | exact ⟨trivial, trivial⟩ | (repeat' first | exact trivial | exact rfl | apply And.intro); done | simp [onesP, oneP, lk, Value.oneCell']) ?_
    refine o_end [0, 5, 8, 9, 10] rfl ?_
    refine x_then ?_
    refine c_seq ?_
    refine c_seq ?_
    refine c_region ?_
    refine o_yield rfl rfl rfl (y_val tok rfl) ?_
    refine o_yield rfl rfl rfl (y_val tok rfl) ?_
    refine o_yield rfl rfl rfl (y_val tok rfl) ?_
    have hsn : putP l (more.take (i + 1)) = putB L x := by rw [take_succ_at h_x, putP_snoc, hL]
    refine o_call (.a (.v _)) rfl rfl fnok89 rfl rfl rfl (fun hg E w1 hm => by exact hasG_c _ L x.n _ e0 g.cells _ (by have := hm.lit 1 _ _ rfl; rw [List.map_cons, (den_plain _ g.cells).1] at this; exact this) (hm.rowOfDel (enc := Block.cells) 0 rfl rfl (fun _ => rfl)) (by omega)) ?_
    refine o_yield rfl rfl rfl (y_val tok rfl) ?_
    refine o_end [0, 5, 6, 8, 9, 10] rfl ?_
    refine x_then ?_
    refine c_seq ?_
    refine c_region ?_
    refine o_yield rfl rfl rfl (y_val tok rfl) ?_
    refine o_yield rfl rfl rfl (y_val tok rfl) ?_
    refine o_end [0, 5, 6, 8, 9, 10, 19] rfl ?_
    refine x_then ?_
    refine c_cond rfl (fun h => ?_) (fun h => ?_)
    ·
      simp only [Bool.and_eq_true, Bool.or_eq_true, Bool.not_eq_true', Bool.or_eq_false_iff, Bool.and_eq_false_iff, decide_eq_true_eq, decide_eq_false_iff_not, beq_iff_eq, bne_iff_ne, Bool.not_eq_false', beq_eq_false_iff_ne, bne_eq_false_iff_eq, ne_eq, Decidable.not_not, Int.not_lt, Int.not_le] at h
      obtain ⟨k, hq, hk⟩ : ∃ k : Nat, idxB (fun y => y.n == x.n) L 0 = (k : Int) ∧ k < L.length := by
        rcases idxB_cases (fun y => y.n == x.n) L 0 with h1 | ⟨k, h1, h2⟩
        · omega
        · exact ⟨k, by rw [h1]; simp, h2⟩
      have hput : putB L x = L.set k x := by unfold putB; rw [if_pos h, hq]; simp
      clear h
      rw [hq]
      refine c_seq ?_
      refine c_heldS [7] mixed rfl (by repeat (first | exact SubO.nil | refine SubO.cons rfl ?_)) (by first | rfl | simp [okCels, allOk_plain]) ?_
      refine t_takeD 0 rfl (by kernel_rfl) rfl rfl rfl (y_val tok rfl) rfl ?_
      refine t_takeD 1 rfl (by kernel_rfl) rfl rfl rfl (y_val tok rfl) rfl ?_
      refine t_takeD 2 rfl (by kernel_rfl) rfl rfl rfl (y_val tok rfl) rfl ?_
      refine t_takeD 3 rfl (by kernel_rfl) rfl rfl rfl (y_val tok rfl) rfl ?_
      refine t_takeD 4 rfl (by kernel_rfl) rfl rfl rfl (y_val tok rfl) rfl ?_
      refine t_takeD 5 rfl (by kernel_rfl) rfl rfl rfl (y_val tok rfl) rfl ?_
      refine t_takeD 6 rfl (by kernel_rfl) rfl rfl rfl (y_own (s := .a (.rel 0 (k * 2))) 0 rfl rfl (fun v V' hv => y_idxK tok (k * 2) rfl (by simp) (fun hg => hv) (fun hg => by omega))) rfl ?_
      refine t_go ?_
      refine h_one 7 (by kernel_rfl) ?_
      refine h_toN 7 rfl rfl rfl rfl rfl (s_rst tok rfl rfl (by simpa using block_ones [x]) (by show k * 2 + 2 ≤ _; omega) (by omega)) (.inl rfl) (fun _ _ => ?_)
      refine h_done [0, 8, 9, 10] (by kernel_rfl) rfl ?_
      refine x_then ?_
      refine c_exit ?_
      refine x_then_exit ?_
      refine x_block_hit ?_
      refine x_then ?_
      refine c_region ?_
      refine o_yield rfl rfl rfl (y_val tok rfl) ?_
      refine o_yield rfl rfl rfl (y_val tok rfl) ?_
      refine o_end [0, 8, 9, 10] rfl ?_
      refine x_then ?_
      have hset := overL_set (enc := Block.cells) (sz := 2) (fun _ => rfl) L k x hk
      rw [show overL (k * 2) _ _ = _ from hset, show L.length = (L.set k x).length by simp, ← hput, ← hsn, wrapI (n := (i : Int) + 1) (by omega) (by omega)]
      refine x_round (i + 1) (by omega) (by first | omega | (dsimp only; omega)) (by repeat (first | exact SubF.nil | refine SubF.cons rfl ?_)) (by repeat (first | exact SubO.nil | refine SubO.cons rfl ?_)) rfl (Vw.le.refl _)
    ·
      simp only [Bool.and_eq_true, Bool.or_eq_true, Bool.not_eq_true', Bool.or_eq_false_iff, Bool.and_eq_false_iff, decide_eq_true_eq, decide_eq_false_iff_not, beq_iff_eq, bne_iff_ne, Bool.not_eq_false', beq_eq_false_iff_ne, bne_eq_false_iff_eq, ne_eq, Decidable.not_not, Int.not_lt, Int.not_le] at h
      have h0 := h
      clear h
      refine c_skip ?_
      refine x_then ?_
      refine c_seq ?_
      refine c_region ?_
      refine o_yield rfl rfl rfl (y_val tok rfl) ?_
      refine o_yield rfl rfl rfl (y_val tok rfl) ?_
      refine o_yield rfl rfl rfl (y_val tok rfl) ?_
      refine o_yield rfl rfl rfl (y_val tok rfl) ?_
      refine o_yield rfl rfl rfl (y_val tok rfl) ?_
      refine o_call (.a (.v _)) rfl rfl fnok143 rfl rfl rfl (fun hg E w1 hm => by exact indexB_c (vw w1) _ _ (fun y => decide (x.n < y.n)) L _ (Vw.le.refl _) (hm.rowOf 0 rfl (fun _ => rfl)) (by omega) (fun y w' hle => ⟨144, _, rfl, fnok144, gtFn_c x y _ w' (hle.get _ _ (hm.lit 4 _ _ rfl))⟩)) ?_
      refine o_yield rfl rfl rfl (y_val tok rfl) ?_
      refine o_end [0, 5, 7, 8, 9, 10] rfl ?_
      refine x_then ?_
      refine c_seq ?_
      refine c_seq ?_
      refine c_region ?_
      refine o_yield rfl rfl rfl (y_val tok rfl) ?_
      refine o_yield rfl rfl rfl (y_val tok rfl) ?_
      refine o_end [0, 5, 7, 8, 9, 10, 34] rfl ?_
      refine x_then ?_
      refine c_cond rfl (fun h => ?_) (fun h => ?_)
      ·
        simp only [Bool.and_eq_true, Bool.or_eq_true, Bool.not_eq_true', Bool.or_eq_false_iff, Bool.and_eq_false_iff, decide_eq_true_eq, decide_eq_false_iff_not, beq_iff_eq, bne_iff_ne, Bool.not_eq_false', beq_eq_false_iff_ne, bne_eq_false_iff_eq, ne_eq, Decidable.not_not, Int.not_lt, Int.not_le] at h
        refine c_region ?_
        refine o_yield rfl rfl rfl (y_val tok rfl) ?_
        refine o_yield rfl rfl rfl (y_val tok rfl) ?_
        refine o_yield rfl rfl rfl (y_val tok rfl) ?_
        refine o_yield rfl rfl rfl (y_val tok rfl) ?_
        have hput : putB L x = insAt L L.length x := by unfold putB; rw [if_neg (by omega), if_pos h]
        refine o_yield rfl rfl rfl (y_own (s := .a (.v (.int .i64 L.length))) 0 rfl rfl (fun v V' hs => y_len tok rfl (fun hg => hs))) ?_
        refine o_yield rfl rfl rfl (y_val tok rfl) ?_
        refine o_end [0, 5, 7, 8, 9, 10] rfl ?_
        refine x_then ?_
        refine c_held [11] ([(4, .lit (x.cells.map .v) 34), (3, .size w.heap.size), (2, .pin 1 (E.ρ 1)), (1, .lit (.row 0 :: g.cells.map .v) e0)]) mixed (by repeat (first | exact SubO.nil | refine SubO.cons rfl ?_)) (by first | rfl | simp [okCels, allOk_plain]) ?_
        refine t_takeD 0 rfl (by kernel_rfl) rfl rfl rfl (y_val tok rfl) rfl ?_
        refine t_takeD 1 rfl (by kernel_rfl) rfl rfl rfl (y_val tok rfl) rfl ?_
        refine t_takeD 2 rfl (by kernel_rfl) rfl rfl rfl (y_val tok rfl) rfl ?_
        refine t_takeD 3 rfl (by kernel_rfl) rfl rfl rfl (y_val tok rfl) rfl ?_
        refine t_takeD 4 rfl (by kernel_rfl) rfl rfl rfl (y_val tok rfl) rfl ?_
        refine t_takeD 5 rfl (by kernel_rfl) rfl rfl rfl (y_val tok rfl) rfl ?_
        refine t_takeD 6 rfl (by kernel_rfl) rfl rfl rfl (y_val tok rfl) rfl ?_
        refine t_go ?_
        refine h_one 7 (by kernel_rfl) ?_
        refine h_bs 7 tok rfl rfl rfl rfl rfl (fun b1 V1 hle1 hb1 => ?_)
        refine h_one 8 (by kernel_rfl) ?_
        refine h_to 8 rfl rfl rfl rfl rfl rfl (s_ins 0 L.length b1 L x rfl rfl (hb1 rfl) (Nat.le_refl _) (by omega)) (.inr fun _ _ => ⟨(by repeat (first | exact SubO.nil | refine SubO.cons rfl ?_)), rfl, (by first | exact Vw.le.refl _ | assumption)⟩) (fun _ _ => ?_)
        refine h_one 9 (by kernel_rfl) ?_
        refine h_yield 9 rfl rfl rfl rfl (y_val tok rfl) ?_
        refine h_one 10 (by kernel_rfl) ?_
        refine h_yield 10 rfl rfl rfl rfl (y_val tok rfl) ?_
        refine h_one 11 (by kernel_rfl) ?_
        refine h_store 11 tok rfl rfl rfl rfl (by first | exact ⟨trivial, trivial⟩ | (repeat' first | exact trivial | exact rfl | apply And.intro); done | simp [onesP, oneP, lk, Value.oneCell']) (.inl rfl) ?_
        refine h_done [0, 8, 9, 10] (by kernel_rfl) rfl ?_
        refine x_block ?_
        refine x_then ?_
        refine c_region ?_
        refine o_yield rfl rfl rfl (y_val tok rfl) ?_
        refine o_yield rfl rfl rfl (y_val tok rfl) ?_
        refine o_end [0, 8, 9, 10] rfl ?_
        refine x_then ?_
        rw [wrapI (n := (i : Int) + 1) (by omega) (by omega), ← hput, ← hsn]
        refine k_swap 0 5 rfl ?_
        refine x_round (i + 1) (by omega) (by first | omega | (dsimp only; omega)) (by repeat (first | exact SubF.nil | refine SubF.cons rfl ?_)) (by repeat (first | exact SubO.nil | refine SubO.cons rfl ?_)) rfl (hle1)
      ·
        simp only [Bool.and_eq_true, Bool.or_eq_true, Bool.not_eq_true', Bool.or_eq_false_iff, Bool.and_eq_false_iff, decide_eq_true_eq, decide_eq_false_iff_not, beq_iff_eq, bne_iff_ne, Bool.not_eq_false', beq_eq_false_iff_ne, bne_eq_false_iff_eq, ne_eq, Decidable.not_not, Int.not_lt, Int.not_le] at h
        obtain ⟨k, hq, hk⟩ : ∃ k : Nat, idxB (fun y => decide (x.n < y.n)) L 0 = (k : Int) ∧ k < L.length := by
          rcases idxB_cases (fun y => decide (x.n < y.n)) L 0 with h1 | ⟨k, h1, h2⟩
          · omega
          · exact ⟨k, by rw [h1]; simp, h2⟩
        have hput : putB L x = insAt L k x := by unfold putB; rw [if_neg (by omega), if_neg (by omega), hq]; simp
        rw [hq]
        clear h
        refine c_skip ?_
        refine x_then ?_
        refine c_held [11] ([(4, .lit (x.cells.map .v) 34), (3, .size w.heap.size), (2, .pin 1 (E.ρ 1)), (1, .lit (.row 0 :: g.cells.map .v) e0)]) mixed (by repeat (first | exact SubO.nil | refine SubO.cons rfl ?_)) (by first | rfl | simp [okCels, allOk_plain]) ?_
        refine t_takeD 0 rfl (by kernel_rfl) rfl rfl rfl (y_val tok rfl) rfl ?_
        refine t_takeD 1 rfl (by kernel_rfl) rfl rfl rfl (y_val tok rfl) rfl ?_
        refine t_takeD 2 rfl (by kernel_rfl) rfl rfl rfl (y_val tok rfl) rfl ?_
        refine t_takeD 3 rfl (by kernel_rfl) rfl rfl rfl (y_val tok rfl) rfl ?_
        refine t_takeD 4 rfl (by kernel_rfl) rfl rfl rfl (y_val tok rfl) rfl ?_
        refine t_takeD 5 rfl (by kernel_rfl) rfl rfl rfl (y_val tok rfl) rfl ?_
        refine t_takeD 6 rfl (by kernel_rfl) rfl rfl rfl (y_val tok rfl) rfl ?_
        refine t_go ?_
        refine h_one 7 (by kernel_rfl) ?_
        refine h_bs 7 tok rfl rfl rfl rfl rfl (fun b1 V1 hle1 hb1 => ?_)
        refine h_one 8 (by kernel_rfl) ?_
        refine h_to 8 rfl rfl rfl rfl rfl rfl (s_ins 0 k b1 L x rfl rfl (hb1 rfl) (Nat.le_of_lt hk) (by omega)) (.inr fun _ _ => ⟨(by repeat (first | exact SubO.nil | refine SubO.cons rfl ?_)), rfl, (by first | exact Vw.le.refl _ | assumption)⟩) (fun _ _ => ?_)
        refine h_one 9 (by kernel_rfl) ?_
        refine h_yield 9 rfl rfl rfl rfl (y_val tok rfl) ?_
        refine h_one 10 (by kernel_rfl) ?_
        refine h_yield 10 rfl rfl rfl rfl (y_val tok rfl) ?_
        refine h_one 11 (by kernel_rfl) ?_
        refine h_store 11 tok rfl rfl rfl rfl (by first | exact ⟨trivial, trivial⟩ | (repeat' first | exact trivial | exact rfl | apply And.intro); done | simp [onesP, oneP, lk, Value.oneCell']) (.inl rfl) ?_
        refine h_done [0, 8, 9, 10] (by kernel_rfl) rfl ?_
        refine x_block ?_
        refine x_then ?_
        refine c_region ?_
        refine o_yield rfl rfl rfl (y_val tok rfl) ?_
        refine o_yield rfl rfl rfl (y_val tok rfl) ?_
        refine o_end [0, 8, 9, 10] rfl ?_
        refine x_then ?_
        rw [wrapI (n := (i : Int) + 1) (by omega) (by omega), ← hput, ← hsn]
        refine k_swap 0 5 rfl ?_
        refine x_round (i + 1) (by omega) (by first | omega | (dsimp only; omega)) (by repeat (first | exact SubF.nil | refine SubF.cons rfl ?_)) (by repeat (first | exact SubO.nil | refine SubO.cons rfl ?_)) rfl (hle1)
  ·
    simp only [Bool.and_eq_true, Bool.or_eq_true, Bool.not_eq_true', Bool.or_eq_false_iff, Bool.and_eq_false_iff, decide_eq_true_eq, decide_eq_false_iff_not, beq_iff_eq, bne_iff_ne, Bool.not_eq_false', beq_eq_false_iff_ne, bne_eq_false_iff_eq, ne_eq, Decidable.not_not, Int.not_lt, Int.not_le] at h
    refine c_exit ?_
    refine x_then_exit ?_
    refine x_then_exit ?_
    refine x_block_hit ?_
    refine b_end tok rfl ?_
    have him : i = more.length := by omega
    subst him
    rw [List.take_length]
    intro E' w' hm _
    refine ⟨rfl, E'.κ 0, ?_, ?_, hm.row 0 _ _ _ _ rfl, ?_⟩
    · exact hm.touch (Vw.le.refl _) (fun k o hk hS => by rw [get2 k (fun h => hS (.inr h)) (fun h => hS (.inl h))]; exact hk) hos (hm.big 3 _ rfl)
    · have := hm.lit 1 _ _ rfl
      rw [List.map_cons, (den_plain _ g.cells).1, (hm.pin 2 1 _ rfl).1] at this
      exact this
    · cases hv' : (E'.κ 0).ownBlock with
      | none => exact .inr (fun k h => by cases h)
      | some k =>
        by_cases hlt : k < w.heap.size
        · rcases key0 k (hm.off 0 _ k rfl (by simpa [blk] using hv')) hlt with h | h
          · have := hm.sep 0 1 _ _ k rfl rfl (by simpa [blk] using hv') (by simp [blk, (hm.pin 2 1 _ rfl).1, h])
            cases this
          · exact .inl h.symm
        · exact .inr (fun k' h => by cases h; omega)
end Go.Proofs.Ytanekcndpkagiaa

/- Rows cloned, put, merged: the program's. -/
set_option linter.unusedVariables false
set_option linter.unusedSimpArgs false
set_option maxRecDepth 100000
namespace Go.Proofs.Ytanekcndpkagiaa
open Go Go.Eng Go.RowKit

theorem nilEq (a : Option Addr) (n c : Nat) (w : World) {ox oy : Operand} : (do eqGuard .eql 22 ox oy (.slice a n c) (.slice none 0 0); binOp .eql 22 (.slice a n c) (.slice none 0 0) : Sem Value).run Try.prog w = .ok (.bool a.isNone) w := by
  have hg : (eqGuard .eql 22 ox oy (.slice a n c) (.slice none 0 0)).run Try.prog w = .ok () w := by simp [eqGuard]
  rw [Sem.run_bind, hg]
  simp only [Result.andThen_ok]
  exact Lib.run_eql_slice_nil w 22 34 a n c 0 0 Try.underlying22

theorem clone_c (V : Vw) (sv : Value) (l : List Block) (w : World) (hV : V.le (vw w)) (hs0 : SlOf V Block.cells 2 sv l) (hn : l.length ≤ 1048576) :
    Calls Try.prog 87 #[sv] w fun e w' => ∃ v', e = .returned v' ∧ w'.ownsRow w.heap.size 34 2 v' l.length (l.flatMap Block.cells) ∧ Below w.heap.size w w' := by
  obtain ⟨a, n, c, rfl⟩ := sl_shape hs0.sl
  have hs := hs0.mono hV
  refine enter (E := E0) (O := []) (nl := 0) (V := vw w) [.a (.v (.slice a n c))] Try.func87 rfl rfl (mem0 E0 0 w) rfl rfl ?_
  refine c_seq ?_
  refine c_region ?_
  refine o_yield rfl rfl rfl (y_val tok rfl) ?_
  refine o_end [0] rfl ?_
  refine x_then ?_
  refine c_seq ?_
  refine c_seq ?_
  refine c_region ?_
  refine o_yield rfl rfl rfl (y_val tok rfl) ?_
  refine o_yield rfl rfl rfl (y_seq (.bool a.isNone) rfl (fun E w => nilEq a n c w)) ?_
  refine o_end [0, 4] rfl ?_
  refine x_then ?_
  refine c_cond rfl (fun h => ?_) (fun h => ?_)
  ·
    refine c_seq ?_
    refine c_region ?_
    refine o_yield rfl rfl rfl (y_val tok rfl) ?_
    refine o_end [2] rfl ?_
    refine x_then ?_
    refine c_ret ?_
    refine x_then_ret ?_
    refine b_ret tok rfl ?_
    intro E w' hm _
    have hnil : l = [] := by
      rcases hs0.sl.2 with ⟨a', c', h1, h2⟩ | ⟨b, off, cap, cs, e, f, h1, _⟩
      · exact List.eq_nil_of_length_eq_zero h2
      · cases h1; cases h
    subst hnil
    exact ⟨_, rfl, World.ownsRow_nil w' w.heap.size _ _, hm.below (Vw.le.refl _)⟩
  ·
    refine c_skip ?_
    refine x_then ?_
    refine c_seq ?_
    refine c_region ?_
    clear h
    refine o_step rfl rfl rfl rfl rfl (s_bs tok 2 rfl rfl rfl) (fun _ _ => ?_)
    refine o_yield rfl rfl rfl (y_val tok rfl) ?_
    refine o_step rfl rfl rfl rfl rfl (s_app (l := 0) (e := 34) (sz := 2) (by_ := 24) (m := 0) (k := l.length) (x := .a (.v (.slice a n c))) (olds := []) tok (l.flatMap Block.cells) rfl (fun E w1 hm => hs.sl.src hm.get) (fun _ _ _ => block_ones l) (by omega)) (fun _ _ => ?_)
    refine o_yield rfl rfl rfl (y_val tok rfl) ?_
    refine o_end [2] rfl ?_
    refine x_then ?_
    refine c_ret ?_
    refine b_ret tok rfl ?_
    intro E w' hm _
    refine ⟨_, rfl, ?_, hm.below (Vw.le.refl _)⟩
    have := hm.rowFresh (Vw.le.refl _) (l := 1) rfl
    rw [Nat.zero_add, List.nil_append] at this
    exact this

section
variable {o : Oper} {n : Nat} {F : Frame0} {C : List Nat} {O : Own} {nl : Nat} {V : Vw}

/-- Blocks put into a row of one's own, in the caller's labels. -/
theorem s_rput {p : List (Nat × Bool)} (lo r e0 : Nat) (g : Geo) (l more : List Block) (lv : Value) (hv : evalC F p o.op = some (88, [.a (.ptr lo 0), .a (.v lv)])) (hlo : lk O lo = some (.lit (.row r :: g.cells.map .v) e0))
    (hr : lk O r = some (.row 34 2 l.length (l.flatMap Block.cells))) (hs : SlOf V Block.cells 2 lv more) (hn : l.length + more.length ≤ 1048576) :
    StepTo Try.prog o p n F C O nl V (σ := Unit) (fun _ => True) (fun _ => .tup []) (fun _ => (lo, .lit (.row nl :: g.cells.map .v) e0) :: (nl, .row 34 2 (putP l more).length ((putP l more).flatMap Block.cells)) :: (r, .gone) :: O) (nl + 1) (fun _ => V) := by
  constructor
  intro E a w hf hgv hm K Q hK
  obtain ⟨hrr, _⟩ := evalC_sound hf hgv hv fnok88 w
  unfold Oper.wp
  rw [hrr, Oper.upon_enter]
  have hrow := hm.row _ _ _ _ _ hr
  have hb := hm.lit _ _ _ hlo
  rw [List.map_cons, (den_plain E g.cells).1] at hb
  have hd : (E.κ r).ownBlock ≠ some (E.ρ lo) := fun h => by
    have := hm.sep r lo _ _ (E.ρ lo) hr hlo (by simpa [blk] using h) rfl
    subst this
    rw [hr] at hlo
    cases hlo
  have hle : V.le (((vw w).delO (E.κ r).ownBlock).del (E.ρ lo)) := by
    refine ⟨fun k ob hk => ?_, ?_, ?_, ?_⟩
    · have h1 : k ≠ E.ρ lo := fun h => by
        have := hm.off lo _ (E.ρ lo) hlo rfl
        rw [← h, hk] at this
        cases this
      have h2 : (E.κ r).ownBlock ≠ some k := fun h => by
        have := hm.off r _ k hr (by simpa [blk] using h)
        rw [hk] at this
        cases this
      simp only [Vw.del]
      rw [if_neg h1]
      cases hv : (E.κ r).ownBlock with
      | none => exact hm.get k ob hk
      | some b =>
        simp only [Vw.delO, Vw.del, vw]
        rw [if_neg (fun e => h2 (by rw [hv, e]))]
        exact hm.get k ob hk
    all_goals (cases hv : (E.κ r).ownBlock with
      | none => first | exact hm.os | exact hm.tape | exact hm.output
      | some b => first | exact hm.os | exact hm.tape | exact hm.output)
  refine (rput_c (E.κ r) lv l more (E.ρ lo) e0 g w hb hrow hd (hs.mono hle) hn).mono ?_
  rintro e w' ⟨rfl, v', ht, hc, hown, hbk⟩
  refine hK () (E.setκ nl v') w' trivial (Env.agree_setκ E v') ?_ rfl
  refine hm.regrow (cs' := .row nl :: g.cells.map .v) hlo hr ht (by simp only [allOk, A.ok, blt_iff, Bool.and_eq_true]; exact ⟨by omega, (den_plain E0 g.cells).2 _⟩) ?_ hown hbk
  rw [List.map_cons, (den_plain _ g.cells).1]
  simpa [A.den, Env.setκ] using hc
end

theorem bufPut_c (V : Vw) (sv lv : Value) (l more : List Block) (w : World) (hV : V.le (vw w)) (hs0 : SlOf V Block.cells 2 sv l) (hl0 : SlOf V Block.cells 2 lv more) (hn : l.length + more.length ≤ 1048576) :
    Calls Try.prog 21 #[sv, lv] w fun e w' => ∃ v', e = .returned v' ∧ w'.ownsRow w.heap.size 34 2 v' (putP l more).length ((putP l more).flatMap Block.cells) ∧ Below w.heap.size w w' := by
  obtain ⟨a, n, c, rfl⟩ := sl_shape hs0.sl
  obtain ⟨a2, n2, c2, rfl⟩ := sl_shape hl0.sl
  have hs := hs0.mono hV
  have hl := hl0.mono hV
  refine enter (E := E0) (O := []) (nl := 0) (V := vw w) [.a (.v (.slice a n c)), .a (.v (.slice a2 n2 c2))] Try.func21 rfl rfl (mem0 E0 0 w) rfl rfl ?_
  refine c_seq ?_
  refine c_region ?_
  refine o_yield rfl rfl rfl (y_val tok rfl) ?_
  refine o_end [0, 1] rfl ?_
  refine x_then ?_
  refine c_seq ?_
  refine c_region ?_
  refine o_yield rfl rfl rfl (y_val tok rfl) ?_
  refine o_step rfl rfl rfl rfl rfl (s_callRow 34 2 l.length (l.flatMap Block.cells) rfl fnok87 (fun E w1 hm => clone_c (vw w) _ l w1 hm.leV hs (by omega))) (fun _ _ => ?_)
  refine o_yield rfl rfl rfl (y_val tok rfl) ?_
  refine o_yield rfl rfl rfl (y_val tok rfl) ?_
  refine o_new tok rfl rfl rfl rfl ?_
  refine o_yield rfl rfl rfl (y_val tok rfl) ?_
  refine o_end [1, 5] rfl ?_
  refine x_then ?_
  refine c_seq ?_
  refine c_region ?_
  refine o_yield rfl rfl rfl (y_val tok rfl) ?_
  refine o_yield rfl rfl rfl (y_val tok rfl) ?_
  refine o_yield rfl rfl rfl (y_val tok rfl) ?_
  refine o_yield rfl rfl rfl (y_val tok rfl) ?_
  refine o_step rfl rfl rfl rfl rfl (s_rput 1 0 _ ⟨0, 0, 0, 0, 0, 0, 0, 0⟩ l more _ rfl rfl rfl hl hn) (fun _ _ => ?_)
  refine o_end [5] rfl ?_
  refine x_then ?_
  refine c_seq ?_
  refine c_region ?_
  refine o_yield rfl rfl rfl (y_val tok rfl) ?_
  refine o_yield rfl rfl rfl (y_val tok rfl) ?_
  refine o_yield rfl rfl rfl (y_val tok rfl) ?_
  refine o_yield rfl rfl rfl (y_val tok rfl) ?_
  refine o_yield rfl rfl rfl (y_val tok rfl) ?_
  refine o_yield rfl rfl rfl (y_val tok rfl) ?_
  refine o_end [4] rfl ?_
  refine x_then ?_
  refine c_ret ?_
  refine b_ret tok rfl ?_
  intro E w' hm _
  exact ⟨_, rfl, hm.rowFresh (Vw.le.refl _) (l := 2) rfl, hm.below (Vw.le.refl _)⟩

theorem bufMerge_c (V : Vw) (sv lv : Value) (l more : List Block) (w : World) (hV : V.le (vw w)) (hs0 : SlOf V Block.cells 2 sv l) (hl0 : SlOf V Block.cells 2 lv more) (hn : l.length + more.length ≤ 1048576) :
    Calls Try.prog 26 #[sv, lv] w fun e w' => ∃ v', e = .returned v' ∧ w'.ownsRow w.heap.size 34 2 v' (putP l more).length ((putP l more).flatMap Block.cells) ∧ Below w.heap.size w w' := by
  obtain ⟨a, n, c, rfl⟩ := sl_shape hs0.sl
  obtain ⟨a2, n2, c2, rfl⟩ := sl_shape hl0.sl
  have hs := hs0.mono hV
  have hl := hl0.mono hV
  refine enter (E := E0) (O := []) (nl := 0) (V := vw w) [.a (.v (.slice a n c)), .a (.v (.slice a2 n2 c2))] Try.func26 rfl rfl (mem0 E0 0 w) rfl rfl ?_
  refine c_seq ?_
  refine c_region ?_
  refine o_yield rfl rfl rfl (y_val tok rfl) ?_
  refine o_end [0, 1] rfl ?_
  refine x_then ?_
  refine c_seq ?_
  refine c_region ?_
  refine o_yield rfl rfl rfl (y_val tok rfl) ?_
  refine o_yield rfl rfl rfl (y_val tok rfl) ?_
  refine o_step rfl rfl rfl rfl rfl (s_callRow 34 2 (putP l more).length ((putP l more).flatMap Block.cells) rfl fnok21 (fun E w1 hm => bufPut_c (vw w) _ _ l more w1 hm.leV hs hl hn)) (fun _ _ => ?_)
  refine o_yield rfl rfl rfl (y_val tok rfl) ?_
  refine o_end [4] rfl ?_
  refine x_then ?_
  refine c_ret ?_
  refine b_ret tok rfl ?_
  intro E w' hm _
  exact ⟨_, rfl, hm.rowFresh (Vw.le.refl _) (l := 0) rfl, hm.below (Vw.le.refl _)⟩
end Go.Proofs.Ytanekcndpkagiaa

/- What the document says of 300 bytes. -/
set_option linter.unusedVariables false
set_option linter.unusedSimpArgs false
set_option maxRecDepth 100000
namespace Go.Proofs.Ytanekcndpkagiaa
open Go Go.Eng Go.RowKit

theorem geo18_c (w : World) : Calls Try.prog 86 #[] w fun e w' => e = .returned (⟨1, 1, 3, 2, 9, 8, 1, 2⟩ : Geo).val ∧ Below w.heap.size w w' := by
  refine enter (E := E0) (O := []) (nl := 0) (V := vw w) [] Try.func86 rfl rfl (mem0 E0 0 w) rfl rfl ?_
  refine c_seq ?_
  refine c_region ?_
  refine o_new tok rfl rfl rfl rfl ?_
  refine o_end [0] rfl ?_
  refine x_then ?_
  refine c_seq ?_
  refine c_region ?_
  refine o_yield rfl rfl rfl (y_val tok rfl) ?_
  refine o_store tok rfl rfl rfl (by first | exact ⟨trivial, trivial⟩ | (repeat' first | exact trivial | exact rfl | apply And.intro); done | simp [onesP, oneP, lk, Value.oneCell']) ?_
  refine o_end [0] rfl ?_
  refine x_then ?_
  refine c_ret ?_
  refine b_ret tok rfl ?_
  intro E w' hm _
  refine ⟨?_, hm.below (Vw.le.refl _)⟩
  rfl

theorem piece_size (text : ByteArray) (k : Nat) : (pieceAt text k).size = min (text.size - k * 256) 256 := by
  rw [pieceAt, headOf, ByteArray.size_extract, rest_size]
  omega

theorem pieces_cV (V : Vw) (g : Geo) (ok : g.Ok) (text : ByteArray) (w : World) (hV : V.le (vw w)) (ht : text.size ≤ maxLen) (hg : geoB g = true) (hle : (text.size : Int) ≤ g.per * 256) :
    Calls Try.prog 27 #[g.val, S text] w fun e w' => ∃ x V', e = .returned x ∧ Below w.heap.size w w' ∧ Vext w.heap.size V V' w' ∧ ∃ a n c, x = .tuple #[.slice a n c, I 0] ∧ SlOf V' encS 1 (.slice a n c) (pieceL g.per.toNat text) := by
  refine (pieces_c g ok text w ht).mono ?_
  rintro e w' ⟨h | h | h, hb⟩
  · obtain ⟨_, _, v, rfl, hrow⟩ := h
    obtain ⟨V', hx, hsl⟩ := ownsRow_vext hV hb hrow
    obtain ⟨a, n, c, rfl⟩ := sl_shape hsl
    exact ⟨_, V', rfl, hb, hx, a, n, c, rfl, hsl, fun _ => rfl⟩
  · rw [hg] at h; cases h.1
  · omega

theorem bufPut_cV (V : Vw) (sv lv : Value) (l more : List Block) (w : World) (hV : V.le (vw w)) (hs0 : SlOf V Block.cells 2 sv l) (hl0 : SlOf V Block.cells 2 lv more) (hn : l.length + more.length ≤ 1048576) :
    Calls Try.prog 21 #[sv, lv] w fun e w' => ∃ x V', e = .returned x ∧ Below w.heap.size w w' ∧ Vext w.heap.size V V' w' ∧ ∃ a n c, x = .slice a n c ∧ SlOf V' Block.cells 2 (.slice a n c) (putP l more) := by
  refine (bufPut_c V sv lv l more w hV hs0 hl0 hn).mono ?_
  rintro e w' ⟨v', rfl, hrow, hb⟩
  obtain ⟨V', hx, hsl⟩ := ownsRow_vext hV hb hrow
  obtain ⟨a, n, c, rfl⟩ := sl_shape hsl
  exact ⟨_, V', rfl, hb, hx, a, n, c, rfl, hsl, fun _ => rfl⟩

abbrev aB : Block := ⟨0, ⟨#[97]⟩⟩
abbrev bB : Block := ⟨2, ⟨#[98]⟩⟩
abbrev cB : Block := ⟨2, cS⟩
theorem put18 : putP [] [bB, aB, cB] = [aB, cB] := rfl
theorem pcs18 (text : ByteArray) (h : text.size = 300) : ∃ p0 p1, pieceL 2 text = [p0, p1] ∧ p0.size = 256 ∧ p1.size = 44 :=
  ⟨pieceAt text 0, pieceAt text 1, rfl, by rw [piece_size, h]; rfl, by rw [piece_size, h]; rfl⟩

theorem pcs18_c (V : Vw) (text : ByteArray) (h : text.size = 300) (w : World) (hV : V.le (vw w)) :
    Calls Try.prog 27 #[geoF.val, S text] w fun e w' => ∃ x V', e = .returned x ∧ Below w.heap.size w w' ∧ Vext w.heap.size V V' w' ∧ ∃ a n c p0 p1, x = .tuple #[.slice a n c, I 0] ∧ SlOf V' encS 1 (.slice a n c) [p0, p1] ∧ p0.size = 256 ∧ p1.size = 44 := by
  refine (pieces_cV V geoF geoF_ok text w hV (by rw [h]; decide) rfl (by rw [h]; decide)).mono ?_
  rintro e w' ⟨x, V', he, hb, hx, a, n, c, hxx, hsl⟩
  obtain ⟨p0, p1, hp, h0, h1⟩ := pcs18 text h
  rw [show geoF.per.toNat = 2 from rfl, hp] at hsl
  exact ⟨x, V', he, hb, hx, a, n, c, p0, p1, hxx, hsl, h0, h1⟩

theorem fit1 : fitsV geoF 0 5 = 180 := by decide
theorem fit2 : fitsV geoF 7 1 = 190 := by decide

theorem wakes18_c (w : World) : Calls Try.prog 19 #[] w fun e w' => e = .returned (.bool true) ∧ Below w.heap.size w w' := by
  obtain ⟨L, hL, hz⟩ : ∃ L : List UInt8, L.length = 300 ∧ repZ L.length [Value.int .u8 0] = L.flatMap encByte := ⟨List.replicate 300 0, by simp, by rw [List.length_replicate]; exact repZ_flat (enc := encByte) (0 : UInt8) 300⟩
  have hsz : (strOf L).size = 300 := by rw [strOf_size, hL]
  refine enter (E := E0) (O := []) (nl := 0) (V := vw w) [] Try.func19 rfl rfl (mem0 E0 0 w) rfl rfl ?_
  refine c_seq ?_
  refine c_region ?_
  refine o_yield rfl rfl rfl (y_val tok rfl) ?_
  refine o_end [] rfl ?_
  refine x_then ?_
  refine c_seq ?_
  refine c_heldM (σ := Value × Vw) (fun x => [(1, .a (.v x.1)), (2, .a (.v (I 0)))]) (fun x => []) (1) (fun x => x.2) (fun x => (vw w).le x.2 ∧ ∃ p0 p1, SlOf x.2 encS 1 x.1 [p0, p1] ∧ p0.size = 256 ∧ p1.size = 44) mixed ?_ ?_
  ·
    refine t_go ?_
    refine h_two 0 1 (by kernel_rfl) ?_ ?_
    ·
      refine h_call 0 (.a (.v geoF.val)) rfl rfl rfl fnok86 rfl rfl rfl (fun hg E w1 hm => by exact geo18_c _) ?_
      refine h_one 1 (by kernel_rfl) ?_
      refine h_to 1 rfl rfl rfl rfl rfl rfl (s_mk tok L.length L.length rfl (by rw [hL]; rfl) (by rw [hL]; rfl) (Nat.le_refl _) (by rw [hL]; decide) (by rw [hL]; decide)) (.inr fun _ _ => ⟨SubO.nil, rfl, Vw.le.refl _⟩) (fun _ _ => ?_)
      rw [show (repZ L.length _ : List Value) = _ from hz]
      refine h_one 2 (by kernel_rfl) ?_
      refine h_yield 2 rfl rfl rfl rfl (y_own (s := .a (.v (.string (strOf L)))) 0 rfl rfl (fun v V' hs => y_b2s tok L rfl (fun hg => hs))) ?_
      refine h_one 3 (by kernel_rfl) ?_
      refine h_callV 3 (fun x V' => ∃ a n c p0 p1, x = .tuple #[.slice a n c, I 0] ∧ SlOf V' encS 1 (.slice a n c) [p0, p1] ∧ p0.size = 256 ∧ p1.size = 44) rfl rfl rfl fnok27 rfl rfl (fun hg E w1 hm => by exact pcs18_c (vw w) (strOf L) hsz _ hm.leV) ?_
      rintro x V' hle hx
      obtain ⟨a', n', c', p0, p1, rfl, hs', hp0, hp1⟩ := hx rfl
      refine h_one 4 (by kernel_rfl) ?_
      refine h_yield 4 rfl rfl rfl rfl (y_val tok rfl) ?_
      refine h_two 5 6 (by kernel_rfl) ?_ ?_
      ·
        refine h_yield 5 rfl rfl rfl rfl (y_val tok rfl) ?_
        refine h_two 6 7 (by kernel_rfl) ?_ ?_
        ·
          refine h_yield 6 rfl rfl rfl rfl (y_val tok rfl) ?_
          refine h_one 7 (by kernel_rfl) ?_
          refine h_yield 7 rfl rfl rfl rfl (y_val tok rfl) ?_
          refine h_one 8 (by kernel_rfl) ?_
          refine h_yield 8 rfl rfl rfl rfl (y_val tok rfl) ?_
          refine h_done [1, 2] (by kernel_rfl) rfl ?_
          exact x_meet (⟨.slice a' n' c', V'⟩) (⟨hle, p0, p1, hs', hp0, hp1⟩) (by repeat (first | exact SubF.nil | refine SubF.cons rfl ?_)) (by repeat (first | exact SubO.nil | refine SubO.cons rfl ?_)) rfl (Vw.le.refl _)
        ·
          refine h_yield 7 rfl rfl rfl rfl (y_val tok rfl) ?_
          refine h_one 6 (by kernel_rfl) ?_
          refine h_yield 6 rfl rfl rfl rfl (y_val tok rfl) ?_
          refine h_one 8 (by kernel_rfl) ?_
          refine h_yield 8 rfl rfl rfl rfl (y_val tok rfl) ?_
          refine h_done [1, 2] (by kernel_rfl) rfl ?_
          exact x_meet (⟨.slice a' n' c', V'⟩) (⟨hle, p0, p1, hs', hp0, hp1⟩) (by repeat (first | exact SubF.nil | refine SubF.cons rfl ?_)) (by repeat (first | exact SubO.nil | refine SubO.cons rfl ?_)) rfl (Vw.le.refl _)
      ·
        refine h_yield 6 rfl rfl rfl rfl (y_val tok rfl) ?_
        refine h_one 5 (by kernel_rfl) ?_
        refine h_yield 5 rfl rfl rfl rfl (y_val tok rfl) ?_
        refine h_one 7 (by kernel_rfl) ?_
        refine h_yield 7 rfl rfl rfl rfl (y_val tok rfl) ?_
        refine h_one 8 (by kernel_rfl) ?_
        refine h_yield 8 rfl rfl rfl rfl (y_val tok rfl) ?_
        refine h_done [1, 2] (by kernel_rfl) rfl ?_
        exact x_meet (⟨.slice a' n' c', V'⟩) (⟨hle, p0, p1, hs', hp0, hp1⟩) (by repeat (first | exact SubF.nil | refine SubF.cons rfl ?_)) (by repeat (first | exact SubO.nil | refine SubO.cons rfl ?_)) rfl (Vw.le.refl _)
    ·
      refine h_to 1 rfl rfl rfl rfl rfl rfl (s_mk tok L.length L.length rfl (by rw [hL]; rfl) (by rw [hL]; rfl) (Nat.le_refl _) (by rw [hL]; decide) (by rw [hL]; decide)) (.inr fun _ _ => ⟨SubO.nil, rfl, Vw.le.refl _⟩) (fun _ _ => ?_)
      rw [show (repZ L.length _ : List Value) = _ from hz]
      refine h_two 0 2 (by kernel_rfl) ?_ ?_
      ·
        refine h_call 0 (.a (.v geoF.val)) rfl rfl rfl fnok86 rfl rfl rfl (fun hg E w1 hm => by exact geo18_c _) ?_
        refine h_one 2 (by kernel_rfl) ?_
        refine h_yield 2 rfl rfl rfl rfl (y_own (s := .a (.v (.string (strOf L)))) 0 rfl rfl (fun v V' hs => y_b2s tok L rfl (fun hg => hs))) ?_
        refine h_one 3 (by kernel_rfl) ?_
        refine h_callV 3 (fun x V' => ∃ a n c p0 p1, x = .tuple #[.slice a n c, I 0] ∧ SlOf V' encS 1 (.slice a n c) [p0, p1] ∧ p0.size = 256 ∧ p1.size = 44) rfl rfl rfl fnok27 rfl rfl (fun hg E w1 hm => by exact pcs18_c (vw w) (strOf L) hsz _ hm.leV) ?_
        rintro x V' hle hx
        obtain ⟨a', n', c', p0, p1, rfl, hs', hp0, hp1⟩ := hx rfl
        refine h_one 4 (by kernel_rfl) ?_
        refine h_yield 4 rfl rfl rfl rfl (y_val tok rfl) ?_
        refine h_two 5 6 (by kernel_rfl) ?_ ?_
        ·
          refine h_yield 5 rfl rfl rfl rfl (y_val tok rfl) ?_
          refine h_two 6 7 (by kernel_rfl) ?_ ?_
          ·
            refine h_yield 6 rfl rfl rfl rfl (y_val tok rfl) ?_
            refine h_one 7 (by kernel_rfl) ?_
            refine h_yield 7 rfl rfl rfl rfl (y_val tok rfl) ?_
            refine h_one 8 (by kernel_rfl) ?_
            refine h_yield 8 rfl rfl rfl rfl (y_val tok rfl) ?_
            refine h_done [1, 2] (by kernel_rfl) rfl ?_
            exact x_meet (⟨.slice a' n' c', V'⟩) (⟨hle, p0, p1, hs', hp0, hp1⟩) (by repeat (first | exact SubF.nil | refine SubF.cons rfl ?_)) (by repeat (first | exact SubO.nil | refine SubO.cons rfl ?_)) rfl (Vw.le.refl _)
          ·
            refine h_yield 7 rfl rfl rfl rfl (y_val tok rfl) ?_
            refine h_one 6 (by kernel_rfl) ?_
            refine h_yield 6 rfl rfl rfl rfl (y_val tok rfl) ?_
            refine h_one 8 (by kernel_rfl) ?_
            refine h_yield 8 rfl rfl rfl rfl (y_val tok rfl) ?_
            refine h_done [1, 2] (by kernel_rfl) rfl ?_
            exact x_meet (⟨.slice a' n' c', V'⟩) (⟨hle, p0, p1, hs', hp0, hp1⟩) (by repeat (first | exact SubF.nil | refine SubF.cons rfl ?_)) (by repeat (first | exact SubO.nil | refine SubO.cons rfl ?_)) rfl (Vw.le.refl _)
        ·
          refine h_yield 6 rfl rfl rfl rfl (y_val tok rfl) ?_
          refine h_one 5 (by kernel_rfl) ?_
          refine h_yield 5 rfl rfl rfl rfl (y_val tok rfl) ?_
          refine h_one 7 (by kernel_rfl) ?_
          refine h_yield 7 rfl rfl rfl rfl (y_val tok rfl) ?_
          refine h_one 8 (by kernel_rfl) ?_
          refine h_yield 8 rfl rfl rfl rfl (y_val tok rfl) ?_
          refine h_done [1, 2] (by kernel_rfl) rfl ?_
          exact x_meet (⟨.slice a' n' c', V'⟩) (⟨hle, p0, p1, hs', hp0, hp1⟩) (by repeat (first | exact SubF.nil | refine SubF.cons rfl ?_)) (by repeat (first | exact SubO.nil | refine SubO.cons rfl ?_)) rfl (Vw.le.refl _)
      ·
        refine h_yield 2 rfl rfl rfl rfl (y_own (s := .a (.v (.string (strOf L)))) 0 rfl rfl (fun v V' hs => y_b2s tok L rfl (fun hg => hs))) ?_
        refine h_one 0 (by kernel_rfl) ?_
        refine h_call 0 (.a (.v geoF.val)) rfl rfl rfl fnok86 rfl rfl rfl (fun hg E w1 hm => by exact geo18_c _) ?_
        refine h_one 3 (by kernel_rfl) ?_
        refine h_callV 3 (fun x V' => ∃ a n c p0 p1, x = .tuple #[.slice a n c, I 0] ∧ SlOf V' encS 1 (.slice a n c) [p0, p1] ∧ p0.size = 256 ∧ p1.size = 44) rfl rfl rfl fnok27 rfl rfl (fun hg E w1 hm => by exact pcs18_c (vw w) (strOf L) hsz _ hm.leV) ?_
        rintro x V' hle hx
        obtain ⟨a', n', c', p0, p1, rfl, hs', hp0, hp1⟩ := hx rfl
        refine h_one 4 (by kernel_rfl) ?_
        refine h_yield 4 rfl rfl rfl rfl (y_val tok rfl) ?_
        refine h_two 5 6 (by kernel_rfl) ?_ ?_
        ·
          refine h_yield 5 rfl rfl rfl rfl (y_val tok rfl) ?_
          refine h_two 6 7 (by kernel_rfl) ?_ ?_
          ·
            refine h_yield 6 rfl rfl rfl rfl (y_val tok rfl) ?_
            refine h_one 7 (by kernel_rfl) ?_
            refine h_yield 7 rfl rfl rfl rfl (y_val tok rfl) ?_
            refine h_one 8 (by kernel_rfl) ?_
            refine h_yield 8 rfl rfl rfl rfl (y_val tok rfl) ?_
            refine h_done [1, 2] (by kernel_rfl) rfl ?_
            exact x_meet (⟨.slice a' n' c', V'⟩) (⟨hle, p0, p1, hs', hp0, hp1⟩) (by repeat (first | exact SubF.nil | refine SubF.cons rfl ?_)) (by repeat (first | exact SubO.nil | refine SubO.cons rfl ?_)) rfl (Vw.le.refl _)
          ·
            refine h_yield 7 rfl rfl rfl rfl (y_val tok rfl) ?_
            refine h_one 6 (by kernel_rfl) ?_
            refine h_yield 6 rfl rfl rfl rfl (y_val tok rfl) ?_
            refine h_one 8 (by kernel_rfl) ?_
            refine h_yield 8 rfl rfl rfl rfl (y_val tok rfl) ?_
            refine h_done [1, 2] (by kernel_rfl) rfl ?_
            exact x_meet (⟨.slice a' n' c', V'⟩) (⟨hle, p0, p1, hs', hp0, hp1⟩) (by repeat (first | exact SubF.nil | refine SubF.cons rfl ?_)) (by repeat (first | exact SubO.nil | refine SubO.cons rfl ?_)) rfl (Vw.le.refl _)
        ·
          refine h_yield 6 rfl rfl rfl rfl (y_val tok rfl) ?_
          refine h_one 5 (by kernel_rfl) ?_
          refine h_yield 5 rfl rfl rfl rfl (y_val tok rfl) ?_
          refine h_one 7 (by kernel_rfl) ?_
          refine h_yield 7 rfl rfl rfl rfl (y_val tok rfl) ?_
          refine h_one 8 (by kernel_rfl) ?_
          refine h_yield 8 rfl rfl rfl rfl (y_val tok rfl) ?_
          refine h_done [1, 2] (by kernel_rfl) rfl ?_
          exact x_meet (⟨.slice a' n' c', V'⟩) (⟨hle, p0, p1, hs', hp0, hp1⟩) (by repeat (first | exact SubF.nil | refine SubF.cons rfl ?_)) (by repeat (first | exact SubO.nil | refine SubO.cons rfl ?_)) rfl (Vw.le.refl _)
  rintro ⟨x4, V4⟩ ⟨hle4, p0, p1, hs4, hp0, hp1⟩
  dsimp only
  refine x_then ?_
  refine c_seq ?_
  refine c_region ?_
  refine o_yield rfl rfl rfl (y_val tok rfl) ?_
  refine o_yield rfl rfl rfl (y_val tok rfl) ?_
  refine o_yield rfl rfl rfl (y_val tok rfl) ?_
  dsimp only at hle4 hs4
  obtain ⟨a4, n4, c4, rfl⟩ := sl_shape hs4.sl
  refine o_bs tok rfl rfl rfl rfl (fun b1 W1 hlw1 hb1 => ?_)
  have hk1 : SlOf W1 Block.cells 2 (.slice (some ⟨b1, 0, none⟩) 3 3) [bB, aB, cB] := SlOf.ofBlock (enc := Block.cells) (sz := 2) (l := [bB, aB, cB]) (hb1 rfl) rfl (fun _ => rfl) (Nat.le_refl _)
  refine o_callV (fun x V' => ∃ a n c, x = .slice a n c ∧ SlOf V' Block.cells 2 (.slice a n c) [aB, cB]) rfl rfl fnok21 rfl rfl (fun hg E w1 hm => by exact by have := bufPut_cV W1 (.slice none 0 0) _ [] [bB, aB, cB] w1 hm.leV (slNil _ Block.cells 2 0 (fun _ => rfl)) hk1 (by simp); rw [put18] at this; exact this) ?_
  rintro x W2 hlw2 hx
  obtain ⟨a6, n6, c6, rfl, hs6⟩ := hx rfl
  have hg6 : getB [aB, cB] 2 = (cS, true) := rfl
  refine o_yield rfl rfl rfl (y_val tok rfl) ?_
  refine o_end [1, 2, 3] rfl ?_
  refine x_then ?_
  refine c_seq ?_
  refine c_region ?_
  refine o_yield rfl rfl rfl (y_val tok rfl) ?_
  refine o_call (.a (.v _)) rfl rfl fnok22 rfl rfl rfl (fun hg E w1 hm => by exact get_c W2 _ [aB, cB] 2 _ hm.leV hs6 (by simp)) ?_
  refine o_yield rfl rfl rfl (y_val tok rfl) ?_
  refine o_yield rfl rfl rfl (y_val tok rfl) ?_
  refine o_yield rfl rfl rfl (y_val tok rfl) ?_
  refine o_yield rfl rfl rfl (y_val tok rfl) ?_
  refine o_yield rfl rfl rfl (y_val tok rfl) ?_
  refine o_end [1, 2, 3, 4, 5] rfl ?_
  refine x_then ?_
  refine c_seq ?_
  refine c_region ?_
  refine o_yield rfl rfl rfl (y_val tok rfl) ?_
  refine o_yield rfl rfl rfl (y_val tok rfl) ?_
  refine o_yield rfl rfl rfl (y_val tok rfl) ?_
  refine o_yield rfl rfl rfl (y_val tok rfl) ?_
  rw [hg6]
  have hs5 := hs4.mono (hlw1.trans hlw2)
  have q0 : ([p0, p1] : List ByteArray)[0]? = some p0 := rfl
  have q1 : ([p0, p1] : List ByteArray)[1]? = some p1 := rfl
  have q2 : ([aB, cB] : List Block)[0]? = some aB := rfl
  refine o_yield rfl rfl rfl (y_len tok rfl (fun hg => hs5.sl)) ?_
  refine o_yield rfl rfl rfl (y_val tok rfl) ?_
  refine o_yield rfl rfl rfl (y_val tok rfl) ?_
  refine o_yield rfl rfl rfl (y_val tok rfl) ?_
  refine o_yield rfl rfl rfl (y_val tok rfl) ?_
  have hlt_p0 := lt_of_at q0
  refine o_yield rfl rfl rfl (y_idx tok rfl (fun hg => hs5.sl) (fun hg => ⟨by omega, by omega⟩)) ?_
  refine o_yield rfl rfl rfl (y_lel tok (0) 0 (p0) rfl (fun hg => hs5) (fun hg => q0) rfl rfl) ?_
  refine o_yield rfl rfl rfl (y_val tok rfl) ?_
  refine o_yield rfl rfl rfl (y_val tok rfl) ?_
  refine o_yield rfl rfl rfl (y_val tok rfl) ?_
  refine o_yield rfl rfl rfl (y_val tok rfl) ?_
  refine o_yield rfl rfl rfl (y_val tok rfl) ?_
  have hlt_p1 := lt_of_at q1
  refine o_yield rfl rfl rfl (y_idx tok rfl (fun hg => hs5.sl) (fun hg => ⟨by omega, by omega⟩)) ?_
  refine o_yield rfl rfl rfl (y_lel tok (1) 0 (p1) rfl (fun hg => hs5) (fun hg => q1) rfl rfl) ?_
  refine o_yield rfl rfl rfl (y_val tok rfl) ?_
  refine o_yield rfl rfl rfl (y_val tok rfl) ?_
  refine o_yield rfl rfl rfl (y_val tok rfl) ?_
  refine o_yield rfl rfl rfl (y_val tok rfl) ?_
  refine o_yield rfl rfl rfl (y_val tok rfl) ?_
  refine o_yield rfl rfl rfl (y_len tok rfl (fun hg => hs6.sl)) ?_
  refine o_yield rfl rfl rfl (y_val tok rfl) ?_
  refine o_yield rfl rfl rfl (y_val tok rfl) ?_
  refine o_yield rfl rfl rfl (y_val tok rfl) ?_
  refine o_yield rfl rfl rfl (y_val tok rfl) ?_
  have hlt_aB := lt_of_at q2
  refine o_yield rfl rfl rfl (y_idx tok rfl (fun hg => hs6.sl) (fun hg => ⟨by omega, by omega⟩)) ?_
  refine o_yield rfl rfl rfl (y_fel tok rfl (fun hg => hs6.sl) (fun hg => by omega)) ?_
  refine o_yield rfl rfl rfl (y_lel tok (0) 0 (aB) rfl (fun hg => hs6) (fun hg => q2) rfl rfl) ?_
  refine o_yield rfl rfl rfl (y_val tok rfl) ?_
  refine o_yield rfl rfl rfl (y_val tok rfl) ?_
  refine o_yield rfl rfl rfl (y_val tok rfl) ?_
  refine o_yield rfl rfl rfl (y_val tok rfl) ?_
  refine o_yield rfl rfl rfl (y_val tok rfl) ?_
  refine o_yield rfl rfl rfl (y_val tok rfl) ?_
  refine o_yield rfl rfl rfl (y_val tok rfl) ?_
  refine o_yield rfl rfl rfl (y_val tok rfl) ?_
  refine o_yield rfl rfl rfl (y_val tok rfl) ?_
  refine o_yield rfl rfl rfl (y_val tok rfl) ?_
  refine o_call (.a (.v _)) rfl rfl fnok86 rfl rfl rfl (fun hg E w1 hm => by exact geo18_c _) ?_
  refine o_call (.a (.v _)) rfl rfl fnok18 rfl rfl rfl (fun hg E w1 hm => by exact fits_c geoF geoF_ok 0 5 _) ?_
  refine o_yield rfl rfl rfl (y_val tok rfl) ?_
  refine o_yield rfl rfl rfl (y_val tok rfl) ?_
  refine o_yield rfl rfl rfl (y_val tok rfl) ?_
  refine o_call (.a (.v _)) rfl rfl fnok86 rfl rfl rfl (fun hg E w1 hm => by exact geo18_c _) ?_
  refine o_call (.a (.v _)) rfl rfl fnok18 rfl rfl rfl (fun hg E w1 hm => by exact fits_c geoF geoF_ok 7 1 _) ?_
  refine o_yield rfl rfl rfl (y_val tok rfl) ?_
  refine o_yield rfl rfl rfl (y_val tok rfl) ?_
  refine o_yield rfl rfl rfl (y_val tok rfl) ?_
  refine o_end [0] rfl ?_
  refine x_then ?_
  refine c_ret ?_
  refine b_ret tok rfl ?_
  intro E w' hm _
  refine ⟨?_, hm.below ((hle4.trans (hlw1.trans hlw2)))⟩
  rw [fit1, fit2, hp0, hp1]
  simp only [cS]
  simp
  rfl
end Go.Proofs.Ytanekcndpkagiaa

/- What fits fits with less: the law. -/
set_option linter.unusedVariables false
set_option linter.unusedSimpArgs false
set_option maxRecDepth 100000
namespace Go.Proofs.Ytanekcndpkagiaa
open Go Go.Eng Go.RowKit

theorem fits_ok {g : Geo} {used n : Int} (h1 : geoB g = true) (h2 : 0 ≤ used) (h3 : used ≤ g.journal) (h4 : 0 ≤ n) (h5 : manyOf g n + used ≤ g.journal) : fitsV g used n = 0 := by
  rw [fitsV, if_neg (by rw [h1]; simp; omega), if_neg (by omega), if_neg (by omega)]

theorem fits_180 {g : Geo} {used n : Int} (h : fitsV g used n = 180) : geoB g = true ∧ 0 ≤ used ∧ used ≤ g.journal ∧ 0 ≤ n ∧ g.journal < manyOf g n := by
  unfold fitsV at h
  split at h
  · cases h
  · rename_i hp
    split at h
    · cases hg : geoB g with
      | false => exact absurd (.inl hg) hp
      | true => rw [hg] at hp; simp at hp; exact ⟨rfl, by omega, by omega, by omega, by omega⟩
    · split at h <;> cases h

theorem fits_190 {g : Geo} {used n : Int} (h : fitsV g used n = 190) : geoB g = true ∧ 0 ≤ used ∧ used ≤ g.journal ∧ 0 ≤ n ∧ manyOf g n ≤ g.journal ∧ g.journal < manyOf g n + used := by
  unfold fitsV at h
  split at h
  · cases h
  · rename_i hp
    split at h
    · cases h
    · split at h
      · cases hg : geoB g with
        | false => exact absurd (.inl hg) hp
        | true => rw [hg] at hp; simp at hp; exact ⟨rfl, by omega, by omega, by omega, by omega, by omega⟩
      · cases h

theorem fits_rest {g : Geo} {used n : Int} (h0 : fitsV g used n ≠ 0) (h1 : fitsV g used n ≠ 190) (h2 : fitsV g used n ≠ 180) : fitsV g used n = 2 := by
  by_cases hp : geoB g = false ∨ used < 0 ∨ g.journal < used ∨ n < 0
  · rw [fitsV, if_pos hp]
  · by_cases hq : g.journal < manyOf g n
    · exact absurd (by rw [fitsV, if_neg hp, if_pos hq]) h2
    · by_cases hr : g.journal < manyOf g n + used
      · exact absurd (by rw [fitsV, if_neg hp, if_neg hq, if_pos hr]) h1
      · exact absurd (by rw [fitsV, if_neg hp, if_neg hq, if_neg hr]) h0

theorem many_zero (g : Geo) : manyOf g 0 = 0 := by rw [manyOf, if_neg (by omega)]

theorem many_mono {g : Geo} (hg : geoB g = true) {n : Int} (hn : 1 ≤ n) : manyOf g (n - 1) ≤ manyOf g n := by
  have hf := geo_facts hg
  have hb := many_bound g n
  by_cases h : n = 1
  · subst h
    rw [show (1 : Int) - 1 = 0 by omega, many_zero]; omega
  · rw [manyOf, if_pos ⟨hg, by omega⟩, manyOf, if_pos ⟨hg, by omega⟩]
    have : g.per * min (n - 1) 1099511627776 ≤ g.per * min n 1099511627776 := Int.mul_le_mul_of_nonneg_left (by omega) (by omega)
    omega

theorem bufferFits_law (w : World) {v0 v1 v2 : Value} (R0 : ∃ g : Geo, v0 = g.val ∧ g.Ok) (R1 : ∃ n : Int, v1 = I n ∧ R64 n) (R2 : ∃ n : Int, v2 = I n ∧ R64 n) :
    Calls Try.prog 4 #[v0, v1, v2] w fun e w' => e = .returned (.bool true) ∧ Below w.heap.size w w' := by
  obtain ⟨g, rfl, ok⟩ := R0
  obtain ⟨used, rfl, hu⟩ := R1
  obtain ⟨n, rfl, hn⟩ := R2
  simp only [R64] at hu hn
  refine enter (E := E0) (O := []) (nl := 0) (V := vw w) [.a (.v g.val), .a (.v (I used)), .a (.v (I n))] Try.func4 rfl rfl (mem0 E0 0 w) rfl rfl ?_
  refine c_seq ?_
  refine c_region ?_
  refine o_new tok rfl rfl rfl rfl ?_
  refine o_yield rfl rfl rfl (y_val tok rfl) ?_
  refine o_end [1, 2, 3] rfl ?_
  refine x_then ?_
  refine c_seq ?_
  refine c_region ?_
  refine o_yield rfl rfl rfl (y_val tok rfl) ?_
  refine o_yield rfl rfl rfl (y_val tok rfl) ?_
  refine o_yield rfl rfl rfl (y_val tok rfl) ?_
  refine o_call (.a (.v _)) rfl rfl fnok18 rfl rfl rfl (fun hg E w1 hm => by exact fits_c g ok used n _) ?_
  refine o_yield rfl rfl rfl (y_val tok rfl) ?_
  refine o_end [1, 2, 3, 7] rfl ?_
  refine x_then ?_
  refine c_seq ?_
  refine c_seq ?_
  refine c_region ?_
  refine o_yield rfl rfl rfl (y_val tok rfl) ?_
  refine o_end [1, 2, 3, 7, 12] rfl ?_
  refine x_then ?_
  refine c_block ?_
  refine c_seq ?_
  refine c_region ?_
  refine o_yield rfl rfl rfl (y_val tok rfl) ?_
  refine o_yield rfl rfl rfl (y_val tok rfl) ?_
  refine o_end [1, 2, 3, 7, 12, 13] rfl ?_
  refine x_then ?_
  refine c_cond rfl (fun h => ?_) (fun h => ?_)
  ·
    simp only [Bool.and_eq_true, Bool.or_eq_true, Bool.not_eq_true', Bool.or_eq_false_iff, Bool.and_eq_false_iff, decide_eq_true_eq, decide_eq_false_iff_not, beq_iff_eq, bne_iff_ne, Bool.not_eq_false', beq_eq_false_iff_ne, bne_eq_false_iff_eq, ne_eq, Decidable.not_not, Int.not_lt, Int.not_le] at h
    have hf := fits_low h
    have hm0 := many_bound g n
    have h0 : fitsV g 0 n = 0 := fits_ok hf.1 (by omega) (by omega) hf.2.2.2.1 (by omega)
    have h1 : n = 0 ∨ fitsV g used (n - 1) = 0 := by
      by_cases hz : n = 0
      · exact .inl hz
      · have hmm := many_mono hf.1 (n := n) (by omega)
        exact .inr (fits_ok hf.1 hf.2.1 hf.2.2.1 (by omega) (by omega))
    have hval : (n == 0 || fitsV g used (IntKind.i64.wrap (n - 1)) == 0) = true := by
      rcases h1 with h1 | h1
      · simp [h1]
      · by_cases hz : n = 0
        · simp [hz]
        · rw [wrapI (by omega) (by omega), h1]; simp
    refine c_seq ?_
    refine c_region ?_
    refine o_yield rfl rfl rfl (y_val tok rfl) ?_
    refine o_yield rfl rfl rfl (y_val tok rfl) ?_
    refine o_yield rfl rfl rfl (y_val tok rfl) ?_
    refine o_yield rfl rfl rfl (y_val tok rfl) ?_
    refine o_yield rfl rfl rfl (y_val tok rfl) ?_
    refine o_yield rfl rfl rfl (y_val tok rfl) ?_
    refine o_yield rfl rfl rfl (y_val tok rfl) ?_
    refine o_call (.a (.v _)) rfl rfl fnok18 rfl rfl rfl (fun hg E w1 hm => by exact fits_c g ok used _ _) ?_
    refine o_yield rfl rfl rfl (y_val tok rfl) ?_
    refine o_yield rfl rfl rfl (y_val tok rfl) ?_
    refine o_yield rfl rfl rfl (y_val tok rfl) ?_
    refine o_yield rfl rfl rfl (y_val tok rfl) ?_
    refine o_yield rfl rfl rfl (y_val tok rfl) ?_
    refine o_call (.a (.v _)) rfl rfl fnok18 rfl rfl rfl (fun hg E w1 hm => by exact fits_c g ok 0 n _) ?_
    refine o_yield rfl rfl rfl (y_val tok rfl) ?_
    refine o_yield rfl rfl rfl (y_val tok rfl) ?_
    refine o_yield rfl rfl rfl (y_val tok rfl) ?_
    rw [h0]
    refine o_call (.a (.v _)) rfl rfl fnok19 rfl rfl rfl (fun hg E w1 hm => by exact wakes18_c _) ?_
    refine o_yield rfl rfl rfl (y_val tok rfl) ?_
    refine o_yield rfl rfl rfl (y_val tok rfl) ?_
    refine o_end [6] rfl ?_
    refine x_then ?_
    refine c_ret ?_
    refine x_block_ret ?_
    refine x_then_ret ?_
    refine b_ret tok rfl ?_
    intro E w' hm _
    refine ⟨?_, hm.below (Vw.le.refl _)⟩
    rw [hval]
    rfl
  ·
    simp only [Bool.and_eq_true, Bool.or_eq_true, Bool.not_eq_true', Bool.or_eq_false_iff, Bool.and_eq_false_iff, decide_eq_true_eq, decide_eq_false_iff_not, beq_iff_eq, bne_iff_ne, Bool.not_eq_false', beq_eq_false_iff_ne, bne_eq_false_iff_eq, ne_eq, Decidable.not_not, Int.not_lt, Int.not_le] at h
    refine c_seq ?_
    refine c_region ?_
    refine o_yield rfl rfl rfl (y_val tok rfl) ?_
    refine o_yield rfl rfl rfl (y_val tok rfl) ?_
    refine o_end [1, 2, 3, 7, 12, 34] rfl ?_
    refine x_then ?_
    refine c_cond rfl (fun h => ?_) (fun h => ?_)
    ·
      simp only [Bool.and_eq_true, Bool.or_eq_true, Bool.not_eq_true', Bool.or_eq_false_iff, Bool.and_eq_false_iff, decide_eq_true_eq, decide_eq_false_iff_not, beq_iff_eq, bne_iff_ne, Bool.not_eq_false', beq_eq_false_iff_ne, bne_eq_false_iff_eq, ne_eq, Decidable.not_not, Int.not_lt, Int.not_le] at h
      have hf := fits_190 h
      have h0 : fitsV g 0 n = 0 := fits_ok hf.1 (by omega) (by omega) hf.2.2.2.1 (by omega)
      have hn0 : 0 < n := by
        by_cases hz : n = 0
        · subst hz; rw [many_zero] at hf; omega
        · omega
      have hu0 : 0 < used := by omega
      refine c_seq ?_
      refine c_region ?_
      refine o_yield rfl rfl rfl (y_val tok rfl) ?_
      refine o_yield rfl rfl rfl (y_val tok rfl) ?_
      refine o_call (.a (.v _)) rfl rfl fnok18 rfl rfl rfl (fun hg E w1 hm => by exact fits_c g ok 0 n _) ?_
      refine o_yield rfl rfl rfl (y_val tok rfl) ?_
      refine o_yield rfl rfl rfl (y_val tok rfl) ?_
      refine o_yield rfl rfl rfl (y_val tok rfl) ?_
      refine o_yield rfl rfl rfl (y_val tok rfl) ?_
      refine o_yield rfl rfl rfl (y_val tok rfl) ?_
      refine o_yield rfl rfl rfl (y_val tok rfl) ?_
      refine o_yield rfl rfl rfl (y_val tok rfl) ?_
      refine o_yield rfl rfl rfl (y_val tok rfl) ?_
      refine o_yield rfl rfl rfl (y_val tok rfl) ?_
      refine o_yield rfl rfl rfl (y_val tok rfl) ?_
      refine o_call (.a (.v _)) rfl rfl fnok19 rfl rfl rfl (fun hg E w1 hm => by exact wakes18_c _) ?_
      refine o_yield rfl rfl rfl (y_val tok rfl) ?_
      refine o_yield rfl rfl rfl (y_val tok rfl) ?_
      refine o_end [6] rfl ?_
      refine x_then ?_
      refine c_ret ?_
      refine x_block_ret ?_
      refine x_then_ret ?_
      refine b_ret tok rfl ?_
      intro E w' hm _
      refine ⟨?_, hm.below (Vw.le.refl _)⟩
      simp [h0, hn0, hu0]
      rfl
    ·
      simp only [Bool.and_eq_true, Bool.or_eq_true, Bool.not_eq_true', Bool.or_eq_false_iff, Bool.and_eq_false_iff, decide_eq_true_eq, decide_eq_false_iff_not, beq_iff_eq, bne_iff_ne, Bool.not_eq_false', beq_eq_false_iff_ne, bne_eq_false_iff_eq, ne_eq, Decidable.not_not, Int.not_lt, Int.not_le] at h
      refine c_seq ?_
      refine c_region ?_
      refine o_yield rfl rfl rfl (y_val tok rfl) ?_
      refine o_yield rfl rfl rfl (y_val tok rfl) ?_
      refine o_end [2, 3, 7, 51] rfl ?_
      refine x_then ?_
      refine c_cond rfl (fun h => ?_) (fun h => ?_)
      ·
        simp only [Bool.and_eq_true, Bool.or_eq_true, Bool.not_eq_true', Bool.or_eq_false_iff, Bool.and_eq_false_iff, decide_eq_true_eq, decide_eq_false_iff_not, beq_iff_eq, bne_iff_ne, Bool.not_eq_false', beq_eq_false_iff_ne, bne_eq_false_iff_eq, ne_eq, Decidable.not_not, Int.not_lt, Int.not_le] at h
        have hf := fits_180 h
        have hfg := geo_facts hf.1
        have h0 : fitsV g 0 n = 180 := by rw [fitsV, if_neg (by rw [hf.1]; simp; omega), if_pos (by omega)]
        have hn0 : 0 < n := by
          by_cases hz : n = 0
          · subst hz; rw [many_zero] at hf; omega
          · omega
        refine c_seq ?_
        refine c_region ?_
        refine o_yield rfl rfl rfl (y_val tok rfl) ?_
        refine o_yield rfl rfl rfl (y_val tok rfl) ?_
        refine o_call (.a (.v _)) rfl rfl fnok18 rfl rfl rfl (fun hg E w1 hm => by exact fits_c g ok 0 n _) ?_
        refine o_yield rfl rfl rfl (y_val tok rfl) ?_
        refine o_yield rfl rfl rfl (y_val tok rfl) ?_
        refine o_yield rfl rfl rfl (y_val tok rfl) ?_
        refine o_yield rfl rfl rfl (y_val tok rfl) ?_
        refine o_yield rfl rfl rfl (y_val tok rfl) ?_
        refine o_yield rfl rfl rfl (y_val tok rfl) ?_
        refine o_call (.a (.v _)) rfl rfl fnok19 rfl rfl rfl (fun hg E w1 hm => by exact wakes18_c _) ?_
        refine o_yield rfl rfl rfl (y_val tok rfl) ?_
        refine o_yield rfl rfl rfl (y_val tok rfl) ?_
        refine o_end [6] rfl ?_
        refine x_then ?_
        refine c_ret ?_
        refine x_block_ret ?_
        refine x_then_ret ?_
        refine b_ret tok rfl ?_
        intro E w' hm _
        refine ⟨?_, hm.below (Vw.le.refl _)⟩
        simp [h0, hn0]
        rfl
      ·
        simp only [Bool.and_eq_true, Bool.or_eq_true, Bool.not_eq_true', Bool.or_eq_false_iff, Bool.and_eq_false_iff, decide_eq_true_eq, decide_eq_false_iff_not, beq_iff_eq, bne_iff_ne, Bool.not_eq_false', beq_eq_false_iff_ne, bne_eq_false_iff_eq, ne_eq, Decidable.not_not, Int.not_lt, Int.not_le] at h
        have hr := fits_rest (by assumption) (by assumption) h
        refine c_skip ?_
        refine x_block ?_
        refine x_then ?_
        refine c_seq ?_
        refine c_region ?_
        refine o_yield rfl rfl rfl (y_val tok rfl) ?_
        refine o_yield rfl rfl rfl (y_val tok rfl) ?_
        refine o_yield rfl rfl rfl (y_val tok rfl) ?_
        refine o_call (.a (.v _)) rfl rfl fnok19 rfl rfl rfl (fun hg E w1 hm => by exact wakes18_c _) ?_
        refine o_yield rfl rfl rfl (y_val tok rfl) ?_
        refine o_yield rfl rfl rfl (y_val tok rfl) ?_
        refine o_end [6] rfl ?_
        refine x_then ?_
        refine c_ret ?_
        refine b_ret tok rfl ?_
        intro E w' hm _
        refine ⟨?_, hm.below (Vw.le.refl _)⟩
        simp [hr]
        rfl
end Go.Proofs.Ytanekcndpkagiaa

/- A text's pieces: the document's, and the law. -/
set_option linter.unusedVariables false
set_option linter.unusedSimpArgs false
set_option maxRecDepth 100000
namespace Go.Proofs.Ytanekcndpkagiaa
open Go Go.Eng Go.RowKit

theorem pieceL_succ (t : ByteArray) (k : Nat) : pieceL (k + 1) t = pieceL k t ++ [pieceAt t k] := by simp [pieceL, List.range_succ]
theorem pieceL_len (t : ByteArray) (k : Nat) : (pieceL k t).length = k := by simp [pieceL]
theorem pieceL_at {t : ByteArray} {per i : Nat} {p : ByteArray} (h : (pieceL per t)[i]? = some p) : p = pieceAt t i := by
  have hi : i < per := by
    have := (List.getElem?_eq_some_iff.1 h).1
    rwa [pieceL_len] at this
  simp only [pieceL, List.getElem?_map, List.getElem?_range hi, Option.map_some, Option.some.injEq] at h
  exact h.symm

theorem refPieces_c (g : Geo) (ok : g.Ok) (text : ByteArray) (w : World) (ht : text.size ≤ maxLen) : Calls Try.prog 28 #[g.val, S text] w (PcPost g text w) := by
  have ht0 := ht
  simp only [maxLen] at ht
  refine enter (E := E0) (O := []) (nl := 0) (V := vw w) [.a (.v g.val), .a (.v (S text))] Try.func28 rfl rfl (mem0 E0 0 w) rfl rfl ?_
  refine c_seq ?_
  refine c_region ?_
  refine o_new tok rfl rfl rfl rfl ?_
  refine o_yield rfl rfl rfl (y_val tok rfl) ?_
  refine o_yield rfl rfl rfl (y_val tok rfl) ?_
  refine o_end [1, 2] rfl ?_
  refine x_then ?_
  refine c_seq ?_
  refine c_seq ?_
  refine c_region ?_
  refine o_yield rfl rfl rfl (y_val tok rfl) ?_
  refine o_call (.a (.v _)) rfl rfl fnok47 rfl rfl rfl (fun hg E w1 hm => by exact refMay_c g ok _) ?_
  refine o_yield rfl rfl rfl (y_val tok rfl) ?_
  refine o_end [1, 2, 10] rfl ?_
  refine x_then ?_
  refine c_cond rfl (fun h => ?_) (fun h => ?_)
  ·
    simp only [Bool.and_eq_true, Bool.or_eq_true, Bool.not_eq_true', Bool.or_eq_false_iff, Bool.and_eq_false_iff, decide_eq_true_eq, decide_eq_false_iff_not, beq_iff_eq, bne_iff_ne, Bool.not_eq_false', beq_eq_false_iff_ne, bne_eq_false_iff_eq, ne_eq, Decidable.not_not, Int.not_lt, Int.not_le] at h
    refine c_seq ?_
    refine c_region ?_
    refine o_yield rfl rfl rfl (y_val tok rfl) ?_
    refine o_yield rfl rfl rfl (y_val tok rfl) ?_
    refine o_end [4, 5] rfl ?_
    refine x_then ?_
    refine c_ret ?_
    refine x_then_ret ?_
    refine b_ret tok rfl ?_
    intro E w' hm _
    exact ⟨.inr (.inl ⟨h, rfl⟩), hm.below (Vw.le.refl _)⟩
  ·
    simp only [Bool.and_eq_true, Bool.or_eq_true, Bool.not_eq_true', Bool.or_eq_false_iff, Bool.and_eq_false_iff, decide_eq_true_eq, decide_eq_false_iff_not, beq_iff_eq, bne_iff_ne, Bool.not_eq_false', beq_eq_false_iff_ne, bne_eq_false_iff_eq, ne_eq, Decidable.not_not, Int.not_lt, Int.not_le] at h
    have hgg := h
    have hf := geo_facts hgg
    obtain ⟨per, hper⟩ : ∃ per : Nat, g.per = per := ⟨g.per.toNat, by omega⟩
    have hpn : g.per.toNat = per := by omega
    have hwp : IntKind.i64.wrap (g.per * 256) = g.per * 256 := wrapI (by omega) (by omega)
    clear h
    refine c_skip ?_
    refine x_then ?_
    refine c_seq ?_
    refine c_seq ?_
    refine c_region ?_
    refine o_yield rfl rfl rfl (y_val tok rfl) ?_
    refine o_yield rfl rfl rfl (y_val tok rfl) ?_
    refine o_yield rfl rfl rfl (y_val tok rfl) ?_
    refine o_yield rfl rfl rfl (y_val tok rfl) ?_
    refine o_yield rfl rfl rfl (y_val tok rfl) ?_
    refine o_yield rfl rfl rfl (y_val tok rfl) ?_
    refine o_end [1, 2, 16] rfl ?_
    refine x_then ?_
    refine c_cond rfl (fun h => ?_) (fun h => ?_)
    ·
      simp only [Bool.and_eq_true, Bool.or_eq_true, Bool.not_eq_true', Bool.or_eq_false_iff, Bool.and_eq_false_iff, decide_eq_true_eq, decide_eq_false_iff_not, beq_iff_eq, bne_iff_ne, Bool.not_eq_false', beq_eq_false_iff_ne, bne_eq_false_iff_eq, ne_eq, Decidable.not_not, Int.not_lt, Int.not_le] at h
      refine c_seq ?_
      refine c_region ?_
      refine o_yield rfl rfl rfl (y_val tok rfl) ?_
      refine o_yield rfl rfl rfl (y_val tok rfl) ?_
      refine o_end [4, 5] rfl ?_
      refine x_then ?_
      refine c_ret ?_
      refine x_then_ret ?_
      refine b_ret tok rfl ?_
      rw [hwp] at h
      intro E w' hm _
      exact ⟨.inr (.inr ⟨hgg, h, rfl⟩), hm.below (Vw.le.refl _)⟩
    ·
      simp only [Bool.and_eq_true, Bool.or_eq_true, Bool.not_eq_true', Bool.or_eq_false_iff, Bool.and_eq_false_iff, decide_eq_true_eq, decide_eq_false_iff_not, beq_iff_eq, bne_iff_ne, Bool.not_eq_false', beq_eq_false_iff_ne, bne_eq_false_iff_eq, ne_eq, Decidable.not_not, Int.not_lt, Int.not_le] at h
      rw [hwp] at h
      have hle := h
      clear h
      refine c_skip ?_
      refine x_then ?_
      refine c_seq ?_
      refine c_region ?_
      refine o_yield rfl rfl rfl (y_val tok rfl) ?_
      refine o_end [1, 2, 6] rfl ?_
      refine x_then ?_
      refine c_seq ?_
      refine c_seq ?_
      refine c_region ?_
      refine o_yield rfl rfl rfl (y_val tok rfl) ?_
      refine o_end [1, 2, 6, 7] rfl ?_
      refine x_then ?_
      refine c_block ?_
      refine k_nil 6 9 1 rfl rfl ?_
      have e0 : pieceL 0 text = [] := rfl
      refine c_loopK [1, 2] [1, 0] rfl rfl (σ := Nat) (fun k => [(6, .a (.row 1)), (7, .a (.v (I k)))]) (fun k => [(1, .row 9 1 (pieceL k text).length ((pieceL k text).flatMap encS)), (0, .lit (g.cells.map .v) 29)]) (fun k => k ≤ per) (fun k => per - k) (0) (by omega) (by repeat (first | exact SubF.nil | refine SubF.cons rfl ?_ | refine SubF.cons (by simp only [e0]; first | done | rfl) ?_)) (by repeat (first | exact SubO.nil | refine SubO.cons rfl ?_ | refine SubO.cons (by simp only [e0]; first | done | rfl) ?_)) rfl ?_
      rintro k hk
      refine c_seq ?_
      refine c_seq ?_
      refine c_region ?_
      refine o_yield rfl rfl rfl (y_val tok rfl) ?_
      refine o_yield rfl rfl rfl (y_val tok rfl) ?_
      refine o_yield rfl rfl rfl (y_val tok rfl) ?_
      refine o_yield rfl rfl rfl (y_val tok rfl) ?_
      refine o_end [1, 2, 6, 7, 20] rfl ?_
      refine x_then ?_
      refine c_cond rfl (fun h => ?_) (fun h => ?_)
      ·
        simp only [Bool.and_eq_true, Bool.or_eq_true, Bool.not_eq_true', Bool.or_eq_false_iff, Bool.and_eq_false_iff, decide_eq_true_eq, decide_eq_false_iff_not, beq_iff_eq, bne_iff_ne, Bool.not_eq_false', beq_eq_false_iff_ne, bne_eq_false_iff_eq, ne_eq, Decidable.not_not, Int.not_lt, Int.not_le] at h
        refine c_skip ?_
        refine x_then ?_
        refine c_seq ?_
        refine c_block ?_
        refine c_region ?_
        refine o_yield rfl rfl rfl (y_val tok rfl) ?_
        refine o_yield rfl rfl rfl (y_val tok rfl) ?_
        refine o_yield rfl rfl rfl (y_val tok rfl) ?_
        have hl1 : (pieceL k text).length + 1 = (pieceL (k + 1) text).length := by rw [pieceL_len, pieceL_len]
        refine o_call (.a (.v _)) rfl rfl fnok91 rfl rfl rfl (fun hg E w1 hm => by exact refPiece_c text k (by omega) ht0 _) ?_
        refine o_step rfl rfl rfl rfl rfl (s_bs tok 1 rfl rfl rfl) (fun _ _ => ?_)
        refine o_step rfl rfl rfl rfl rfl (s_app tok ([pieceAt text k].flatMap encS) rfl (fun E w hm => ownsRow_src (hm.row _ _ _ _ _ rfl)) (fun _ _ _ => str_ones _) (by dsimp only; rw [pieceL_len]; omega)) (fun _ _ => ?_)
        refine o_yield rfl rfl rfl (y_val tok rfl) ?_
        refine o_end [1, 2, 6, 7] rfl ?_
        refine x_block ?_
        refine x_then ?_
        refine c_region ?_
        refine o_yield rfl rfl rfl (y_val tok rfl) ?_
        refine o_yield rfl rfl rfl (y_val tok rfl) ?_
        refine o_yield rfl rfl rfl (y_val tok rfl) ?_
        refine o_end [1, 2, 6, 7] rfl ?_
        refine x_then ?_
        rw [hl1, ← List.flatMap_append, ← pieceL_succ, wrapI (n := (k : Int) + 1) (by omega) (by omega)]
        refine k_swap 1 3 rfl ?_
        refine x_round (k + 1) (by omega) (by first | omega | (dsimp only; omega)) (by repeat (first | exact SubF.nil | refine SubF.cons rfl ?_)) (by repeat (first | exact SubO.nil | refine SubO.cons rfl ?_)) rfl (Vw.le.refl _)
      ·
        simp only [Bool.and_eq_true, Bool.or_eq_true, Bool.not_eq_true', Bool.or_eq_false_iff, Bool.and_eq_false_iff, decide_eq_true_eq, decide_eq_false_iff_not, beq_iff_eq, bne_iff_ne, Bool.not_eq_false', beq_eq_false_iff_ne, bne_eq_false_iff_eq, ne_eq, Decidable.not_not, Int.not_lt, Int.not_le] at h
        refine c_exit ?_
        refine x_then_exit ?_
        refine x_then_exit ?_
        refine x_block_hit ?_
        refine x_then ?_
        refine c_seq ?_
        refine c_region ?_
        refine o_yield rfl rfl rfl (y_val tok rfl) ?_
        refine o_yield rfl rfl rfl (y_val tok rfl) ?_
        refine o_yield rfl rfl rfl (y_val tok rfl) ?_
        refine o_end [4, 5] rfl ?_
        refine x_then ?_
        refine c_ret ?_
        refine b_ret tok rfl ?_
        have hkp : k = per := by omega
        subst hkp
        intro E w' hm _
        refine ⟨.inl ⟨hgg, hle, E.κ 1, rfl, ?_⟩, hm.below (Vw.le.refl _)⟩
        rw [hpn]
        exact hm.rowFresh (Vw.le.refl _) (l := 1) rfl

def pcE (g : Geo) (text : ByteArray) : Int := if geoB g = false then 2 else if g.per * 256 < (text.size : Int) then 60 else 0
def pcL (g : Geo) (text : ByteArray) : List ByteArray := if pcE g text = 0 then pieceL g.per.toNat text else []

theorem PcPost.vw {V : Vw} {g : Geo} {text : ByteArray} {w w' : World} {e : Ending} (hV : V.le (vw w)) (h : PcPost g text w e w') :
    ∃ x V', e = .returned x ∧ Below w.heap.size w w' ∧ Vext w.heap.size V V' w' ∧ ∃ a n c, x = .tuple #[.slice a n c, I (pcE g text)] ∧ SlOf V' encS 1 (.slice a n c) (pcL g text) := by
  obtain ⟨h | h | h, hb⟩ := h
  · obtain ⟨h1, h2, v, rfl, hrow⟩ := h
    obtain ⟨V', hx, hsl⟩ := ownsRow_vext hV hb hrow
    obtain ⟨a, n, c, rfl⟩ := sl_shape hsl
    have he : pcE g text = 0 := by rw [pcE, if_neg (by rw [h1]; simp), if_neg (by omega)]
    exact ⟨_, V', rfl, hb, hx, a, n, c, by rw [he], by rw [pcL, if_pos he]; exact ⟨hsl, fun _ => rfl⟩⟩
  · obtain ⟨h1, rfl⟩ := h
    have he : pcE g text = 2 := by rw [pcE, if_pos h1]
    exact ⟨_, V, rfl, hb, Vext.same hV hb, none, 0, 0, by rw [he], by rw [pcL, if_neg (by rw [he]; decide)]; exact slNil _ _ _ _ (fun _ => rfl)⟩
  · obtain ⟨h1, h2, rfl⟩ := h
    have he : pcE g text = 60 := by rw [pcE, if_neg (by rw [h1]; simp), if_pos h2]
    exact ⟨_, V, rfl, hb, Vext.same hV hb, none, 0, 0, by rw [he], by rw [pcL, if_neg (by rw [he]; decide)]; exact slNil _ _ _ _ (fun _ => rfl)⟩

theorem catL_pieces (t : ByteArray) : ∀ k, catL (pieceL k t) = t.data.toList.take (256 * k)
  | 0 => rfl
  | k + 1 => by
    rw [pieceL_succ, catL, List.flatMap_append, ← catL, catL_pieces t k]
    simp only [List.flatMap_cons, List.flatMap_nil, List.append_nil, piece_list]
    rw [← List.take_add]
    congr 1

theorem catS_pieces {t : ByteArray} {per : Nat} (h : t.size ≤ 256 * per) : catS (pieceL per t) = t := by
  rw [catS, catL_pieces, List.take_of_length_le (by have := size_list t; omega)]
  exact strOf_data t

theorem bjoin_c (V : Vw) (sv : Value) (l : List ByteArray) (w : World) (hV : V.le (vw w)) (hs0 : SlOf V encS 1 sv l) (hn : l.length ≤ 140737488355328) (hc : (catL l).length ≤ 140737488355328) :
    Calls Try.prog 29 #[sv] w fun e w' => e = .returned (S (catS l)) ∧ Below w.heap.size w w' := by
  obtain ⟨a, n, c, rfl⟩ := sl_shape hs0.sl
  have hs := hs0.mono hV
  refine enter (E := E0) (O := []) (nl := 0) (V := vw w) [.a (.v (.slice a n c))] Try.func29 rfl rfl (mem0 E0 0 w) rfl rfl ?_
  refine c_seq ?_
  refine c_region ?_
  refine o_yield rfl rfl rfl (y_val tok rfl) ?_
  refine o_end [0] rfl ?_
  refine x_then ?_
  refine c_seq ?_
  refine c_region ?_
  refine o_yield rfl rfl rfl (y_val tok rfl) ?_
  refine o_call (.a (.v _)) rfl rfl fnok92 rfl rfl rfl (fun hg E w1 hm => by exact join_c (vw w) _ l _ hm.leV hs hn hc) ?_
  refine o_yield rfl rfl rfl (y_val tok rfl) ?_
  refine o_end [2] rfl ?_
  refine x_then ?_
  refine c_ret ?_
  refine b_ret tok rfl ?_
  intro E w' hm _
  refine ⟨?_, hm.below (Vw.le.refl _)⟩
  rfl

theorem empty_of {p : ByteArray} (h : p.size = 0) : p = ⟨#[]⟩ := by
  obtain ⟨d⟩ := p
  simp only [ByteArray.size] at h
  have : d = #[] := by simpa using h
  rw [this]

theorem catL_pc (g : Geo) (t : ByteArray) : (catL (pcL g t)).length ≤ t.size := by
  unfold pcL
  split
  · rw [catL_pieces, List.length_take, size_list]; omega
  · simp [catL]

theorem bufferPieces_law (w : World) {v0 v1 : Value} (R0 : ∃ g : Geo, v0 = g.val ∧ g.Ok) (R1 : ∃ s : ByteArray, v1 = .string s ∧ s.size ≤ maxLen) :
    Calls Try.prog 6 #[v0, v1] w fun e w' => e = .returned (.bool true) ∧ Below w.heap.size w w' := by
  obtain ⟨g, rfl, ok⟩ := R0
  obtain ⟨t, rfl, ht⟩ := R1
  refine enter (E := E0) (O := []) (nl := 0) (V := vw w) [.a (.v g.val), .a (.v (S t))] Try.func6 rfl rfl (mem0 E0 0 w) rfl rfl ?_
  refine c_seq ?_
  refine c_region ?_
  refine o_new tok rfl rfl rfl rfl ?_
  refine o_yield rfl rfl rfl (y_val tok rfl) ?_
  refine o_end [1, 2] rfl ?_
  refine x_then ?_
  refine c_seq ?_
  refine c_seq ?_
  refine c_region ?_
  refine o_yield rfl rfl rfl (y_val tok rfl) ?_
  refine o_yield rfl rfl rfl (y_val tok rfl) ?_
  refine o_yield rfl rfl rfl (y_val tok rfl) ?_
  refine o_end [1, 2, 12] rfl ?_
  refine x_then ?_
  refine c_cond rfl (fun h => ?_) (fun h => ?_)
  ·
    simp only [Bool.and_eq_true, Bool.or_eq_true, Bool.not_eq_true', Bool.or_eq_false_iff, Bool.and_eq_false_iff, decide_eq_true_eq, decide_eq_false_iff_not, beq_iff_eq, bne_iff_ne, Bool.not_eq_false', beq_eq_false_iff_ne, bne_eq_false_iff_eq, ne_eq, Decidable.not_not, Int.not_lt, Int.not_le] at h
    refine c_seq ?_
    refine c_region ?_
    refine o_call (.a (.v _)) rfl rfl fnok19 rfl rfl rfl (fun hg E w1 hm => by exact wakes18_c _) ?_
    refine o_yield rfl rfl rfl (y_val tok rfl) ?_
    refine o_end [4] rfl ?_
    refine x_then ?_
    refine c_ret ?_
    refine x_then_ret ?_
    refine b_ret tok rfl ?_
    intro E w' hm _
    refine ⟨?_, hm.below (Vw.le.refl _)⟩
    rfl
  ·
    simp only [Bool.and_eq_true, Bool.or_eq_true, Bool.not_eq_true', Bool.or_eq_false_iff, Bool.and_eq_false_iff, decide_eq_true_eq, decide_eq_false_iff_not, beq_iff_eq, bne_iff_ne, Bool.not_eq_false', beq_eq_false_iff_ne, bne_eq_false_iff_eq, ne_eq, Decidable.not_not, Int.not_lt, Int.not_le] at h
    have h5 : t.size ≤ 5000 := by omega
    clear h
    refine c_skip ?_
    refine x_then ?_
    refine c_seq ?_
    refine c_region ?_
    refine o_yield rfl rfl rfl (y_val tok rfl) ?_
    refine o_yield rfl rfl rfl (y_val tok rfl) ?_
    refine o_callV (fun x V' => ∃ a n c, x = .tuple #[.slice a n c, I (pcE g t)] ∧ SlOf V' encS 1 (.slice a n c) (pcL g t)) rfl rfl fnok27 rfl rfl (fun hg E w1 hm => by exact (pieces_c g ok t _ ht).mono fun e w' h => PcPost.vw hm.leV h) ?_
    rintro x V1 hle1 hx
    obtain ⟨a1, n1, c1, rfl, hs1⟩ := hx rfl
    refine o_yield rfl rfl rfl (y_val tok rfl) ?_
    refine o_yield rfl rfl rfl (y_val tok rfl) ?_
    refine o_yield rfl rfl rfl (y_val tok rfl) ?_
    refine o_yield rfl rfl rfl (y_val tok rfl) ?_
    refine o_yield rfl rfl rfl (y_val tok rfl) ?_
    refine o_end [1, 2, 5, 6] rfl ?_
    refine x_then ?_
    refine c_seq ?_
    refine c_region ?_
    refine o_yield rfl rfl rfl (y_val tok rfl) ?_
    refine o_yield rfl rfl rfl (y_val tok rfl) ?_
    refine o_callV (fun x V' => ∃ a n c, x = .tuple #[.slice a n c, I (pcE g t)] ∧ SlOf V' encS 1 (.slice a n c) (pcL g t)) rfl rfl fnok28 rfl rfl (fun hg E w1 hm => by exact (refPieces_c g ok t _ ht).mono fun e w' h => PcPost.vw hm.leV h) ?_
    rintro x V2 hle2 hx
    obtain ⟨a2, n2, c2, rfl, hs2⟩ := hx rfl
    have hs1' := hs1.mono hle2
    have hpl : (pcL g t).length ≤ 8 ∧ (pcE g t = 0 → geoB g = true ∧ (t.size : Int) ≤ g.per * 256 ∧ (pcL g t).length = g.per.toNat ∧ 1 ≤ g.per ∧ g.per ≤ 8) := by
      by_cases he : pcE g t = 0
      · have h0 := he
        unfold pcE at h0
        split at h0
        · cases h0
        · rename_i hg
          have hg' : geoB g = true := by cases hq : geoB g <;> simp [hq] at hg ⊢
          have hf := geo_facts hg'
          split at h0
          · cases h0
          · rw [pcL, if_pos he, pieceL_len]
            exact ⟨by omega, fun _ => ⟨hg', by omega, rfl, by omega, by omega⟩⟩
      · rw [pcL, if_neg he]
        exact ⟨by simp, fun h => absurd h he⟩
    refine o_yield rfl rfl rfl (y_val tok rfl) ?_
    refine o_yield rfl rfl rfl (y_val tok rfl) ?_
    refine o_yield rfl rfl rfl (y_val tok rfl) ?_
    refine o_yield rfl rfl rfl (y_val tok rfl) ?_
    refine o_yield rfl rfl rfl (y_val tok rfl) ?_
    refine o_end [1, 2, 5, 6, 7, 8] rfl ?_
    refine x_then ?_
    refine c_seq ?_
    refine c_seq ?_
    refine c_region ?_
    refine o_yield rfl rfl rfl (y_val tok rfl) ?_
    refine o_yield rfl rfl rfl (y_val tok rfl) ?_
    refine o_yield rfl rfl rfl (y_val tok rfl) ?_
    refine o_yield rfl rfl rfl (y_val tok rfl) ?_
    refine o_yield rfl rfl rfl (y_val tok rfl) ?_
    refine o_yield rfl rfl rfl (y_len tok rfl (fun hg => hs1'.sl)) ?_
    refine o_yield rfl rfl rfl (y_val tok rfl) ?_
    refine o_yield rfl rfl rfl (y_len tok rfl (fun hg => hs2.sl)) ?_
    refine o_yield rfl rfl rfl (y_val tok rfl) ?_
    refine o_yield rfl rfl rfl (y_val tok rfl) ?_
    refine o_end [1, 2, 5, 6, 7, 35] rfl ?_
    refine x_then ?_
    refine c_cond rfl (fun h => ?_) (fun h => ?_)
    ·
      simp only [Bool.and_eq_true, Bool.or_eq_true, Bool.not_eq_true', Bool.or_eq_false_iff, Bool.and_eq_false_iff, decide_eq_true_eq, decide_eq_false_iff_not, beq_iff_eq, bne_iff_ne, Bool.not_eq_false', beq_eq_false_iff_ne, bne_eq_false_iff_eq, ne_eq, Decidable.not_not, Int.not_lt, Int.not_le] at h
      exfalso
      simp at h
    ·
      simp only [Bool.and_eq_true, Bool.or_eq_true, Bool.not_eq_true', Bool.or_eq_false_iff, Bool.and_eq_false_iff, decide_eq_true_eq, decide_eq_false_iff_not, beq_iff_eq, bne_iff_ne, Bool.not_eq_false', beq_eq_false_iff_ne, bne_eq_false_iff_eq, ne_eq, Decidable.not_not, Int.not_lt, Int.not_le] at h
      refine c_skip ?_
      refine x_then ?_
      refine c_seq ?_
      refine c_seq ?_
      refine c_region ?_
      refine o_yield rfl rfl rfl (y_val tok rfl) ?_
      refine o_end [1, 2, 5, 6, 7, 9] rfl ?_
      refine x_then ?_
      refine c_block ?_
      refine c_loopK [1, 2, 5, 6, 7] [0] rfl rfl (σ := Nat) (fun i => [(9, .a (.v (I i)))]) (fun i => [(0, .lit (g.cells.map .v) 29)]) (fun i => i ≤ (pcL g t).length) (fun i => (pcL g t).length - i) (0) (by omega) (by repeat (first | exact SubF.nil | refine SubF.cons rfl ?_)) (by repeat (first | exact SubO.nil | refine SubO.cons rfl ?_)) rfl ?_
      rintro i hi
      refine c_seq ?_
      refine c_seq ?_
      refine c_region ?_
      refine o_yield rfl rfl rfl (y_val tok rfl) ?_
      refine o_yield rfl rfl rfl (y_val tok rfl) ?_
      refine o_yield rfl rfl rfl (y_len tok rfl (fun hg => hs1'.sl)) ?_
      refine o_yield rfl rfl rfl (y_val tok rfl) ?_
      refine o_end [1, 2, 5, 6, 7, 9, 39] rfl ?_
      refine x_then ?_
      refine c_cond rfl (fun h => ?_) (fun h => ?_)
      ·
        simp only [Bool.and_eq_true, Bool.or_eq_true, Bool.not_eq_true', Bool.or_eq_false_iff, Bool.and_eq_false_iff, decide_eq_true_eq, decide_eq_false_iff_not, beq_iff_eq, bne_iff_ne, Bool.not_eq_false', beq_eq_false_iff_ne, bne_eq_false_iff_eq, ne_eq, Decidable.not_not, Int.not_lt, Int.not_le] at h
        refine c_skip ?_
        refine x_then ?_
        refine c_seq ?_
        refine c_block ?_
        refine c_seq ?_
        refine c_draw mixed (by kernel_rfl) ?_
        refine d_yield rfl rfl rfl (y_val tok rfl) rfl ?_
        refine d_yield rfl rfl rfl (y_val tok rfl) rfl ?_
        obtain ⟨p, h_p⟩ := hs1'.at (k := i) (by omega)
        obtain ⟨q, h_q⟩ : ∃ q, (pcL g t)[i - 1]? = some q := ⟨(pcL g t)[i - 1]'(by omega), by rw [List.getElem?_eq_getElem (by omega)]⟩
        have hfull : 0 < i → p.size ≠ 0 → q.size = 256 := by
          intro h0 h1
          by_cases he : pcE g t = 0
          · rw [pcL, if_pos he] at h_p h_q
            have hp := pieceL_at h_p
            have hq := pieceL_at h_q
            have := piece_size t i
            have := piece_size t (i - 1)
            rw [← hp] at *
            rw [← hq] at *
            omega
          · rw [pcL, if_neg he] at h_p
            simp at h_p
        have hlt_p := lt_of_at h_p
        refine d_yield rfl rfl rfl (y_idx tok rfl (fun hg => hs1'.sl) (fun hg => ⟨by omega, by omega⟩)) rfl ?_
        refine d_yield rfl rfl rfl (y_lel tok (i) 0 (p) rfl (fun hg => hs1') (fun hg => h_p) rfl rfl) rfl ?_
        refine d_yield rfl rfl rfl (y_val tok rfl) rfl ?_
        refine d_yield rfl rfl rfl (y_val tok rfl) rfl ?_
        have hlt_p := lt_of_at h_p
        refine d_yield rfl rfl rfl (y_idx tok rfl (fun hg => hs2.sl) (fun hg => ⟨by omega, by omega⟩)) rfl ?_
        refine d_yield rfl rfl rfl (y_lel tok (i) 0 (p) rfl (fun hg => hs2) (fun hg => h_p) rfl rfl) rfl ?_
        refine d_yield rfl rfl rfl (y_val tok rfl) rfl ?_
        refine d_yield rfl rfl rfl (y_val tok rfl) rfl ?_
        refine d_yield rfl rfl rfl (y_val tok rfl) rfl ?_
        refine d_yield rfl rfl rfl (y_val tok rfl) rfl ?_
        refine d_yield rfl rfl rfl (y_val tok rfl) rfl ?_
        refine d_yield rfl rfl rfl (y_val tok rfl) rfl ?_
        refine d_yield rfl rfl rfl (y_val tok rfl) rfl ?_
        have hlt_p := lt_of_at h_p
        refine d_yield rfl rfl rfl (y_idx tok rfl (fun hg => hs1'.sl) (fun hg => ⟨by omega, by omega⟩)) rfl ?_
        refine d_yield rfl rfl rfl (y_lel tok (i) 0 (p) rfl (fun hg => hs1') (fun hg => h_p) rfl rfl) rfl ?_
        refine d_yield rfl rfl rfl (y_val tok rfl) rfl ?_
        refine d_yield rfl rfl rfl (y_val tok rfl) rfl ?_
        refine d_yield rfl rfl rfl (y_val tok rfl) rfl ?_
        refine d_yield rfl rfl rfl (y_val tok rfl) rfl ?_
        refine d_yield rfl rfl rfl (y_val tok rfl) rfl ?_
        refine d_yield rfl rfl rfl (y_val tok rfl) rfl ?_
        refine d_yield rfl rfl rfl (y_idxK tok ((i - 1) * 1 + 0) rfl (by rw [wrapI (by omega) (by omega)]; dsimp only; omega) (fun hg => hs1'.sl) (fun hg => by simp at hg; rw [wrapI (by omega) (by omega)]; omega)) rfl ?_
        refine d_yield rfl rfl rfl (y_lel tok (i - 1) 0 (q) rfl (fun hg => hs1') (fun hg => h_q) rfl rfl) rfl ?_
        refine d_yield rfl rfl rfl (y_val tok rfl) rfl ?_
        refine d_yield rfl rfl rfl (y_val tok rfl) rfl ?_
        refine d_yield rfl rfl rfl (y_val tok rfl) rfl ?_
        refine d_yield rfl rfl rfl (y_val tok rfl) rfl ?_
        refine d_end [1, 2, 5, 6, 7, 9, 70] rfl ?_
        refine x_then ?_
        refine c_cond rfl (fun h => ?_) (fun h => ?_)
        ·
          simp only [Bool.and_eq_true, Bool.or_eq_true, Bool.not_eq_true', Bool.or_eq_false_iff, Bool.and_eq_false_iff, decide_eq_true_eq, decide_eq_false_iff_not, beq_iff_eq, bne_iff_ne, Bool.not_eq_false', beq_eq_false_iff_ne, bne_eq_false_iff_eq, ne_eq, Decidable.not_not, Int.not_lt, Int.not_le] at h
          exfalso
          simp at h
          have := hfull (by omega) (fun h0 => h.1.2 (by rw [empty_of h0]; simp))
          omega
        ·
          simp only [Bool.and_eq_true, Bool.or_eq_true, Bool.not_eq_true', Bool.or_eq_false_iff, Bool.and_eq_false_iff, decide_eq_true_eq, decide_eq_false_iff_not, beq_iff_eq, bne_iff_ne, Bool.not_eq_false', beq_eq_false_iff_ne, bne_eq_false_iff_eq, ne_eq, Decidable.not_not, Int.not_lt, Int.not_le] at h
          refine c_skip ?_
          refine x_block ?_
          refine x_then ?_
          refine c_region ?_
          refine o_yield rfl rfl rfl (y_val tok rfl) ?_
          refine o_yield rfl rfl rfl (y_val tok rfl) ?_
          refine o_yield rfl rfl rfl (y_val tok rfl) ?_
          refine o_end [1, 2, 5, 6, 7, 9] rfl ?_
          refine x_then ?_
          rw [wrapI (n := (i : Int) + 1) (by omega) (by omega)]
          refine x_round (i + 1) (by omega) (by first | omega | (dsimp only; omega)) (by repeat (first | exact SubF.nil | refine SubF.cons rfl ?_)) (by repeat (first | exact SubO.nil | refine SubO.cons rfl ?_)) rfl (Vw.le.refl _)
      ·
        simp only [Bool.and_eq_true, Bool.or_eq_true, Bool.not_eq_true', Bool.or_eq_false_iff, Bool.and_eq_false_iff, decide_eq_true_eq, decide_eq_false_iff_not, beq_iff_eq, bne_iff_ne, Bool.not_eq_false', beq_eq_false_iff_ne, bne_eq_false_iff_eq, ne_eq, Decidable.not_not, Int.not_lt, Int.not_le] at h
        refine c_exit ?_
        refine x_then_exit ?_
        refine x_then_exit ?_
        refine x_block_hit ?_
        refine x_then ?_
        refine c_seq ?_
        refine c_region ?_
        refine o_yield rfl rfl rfl (y_val tok rfl) ?_
        refine o_yield rfl rfl rfl (y_val tok rfl) ?_
        refine o_yield rfl rfl rfl (y_val tok rfl) ?_
        refine o_yield rfl rfl rfl (y_val tok rfl) ?_
        have hcl := catL_pc g t
        refine o_call (.a (.v _)) rfl rfl fnok29 rfl rfl rfl (fun hg E w1 hm => by exact bjoin_c V2 _ (pcL g t) _ hm.leV hs1' (by omega) (by omega)) ?_
        refine o_yield rfl rfl rfl (y_val tok rfl) ?_
        refine o_yield rfl rfl rfl (y_val tok rfl) ?_
        refine o_yield rfl rfl rfl (y_val tok rfl) ?_
        refine o_yield rfl rfl rfl (y_val tok rfl) ?_
        refine o_yield rfl rfl rfl (y_len tok rfl (fun hg => hs1'.sl)) ?_
        refine o_yield rfl rfl rfl (y_val tok rfl) ?_
        refine o_yield rfl rfl rfl (y_val tok rfl) ?_
        refine o_yield rfl rfl rfl (y_val tok rfl) ?_
        refine o_yield rfl rfl rfl (y_val tok rfl) ?_
        refine o_yield rfl rfl rfl (y_val tok rfl) ?_
        refine o_yield rfl rfl rfl (y_val tok rfl) ?_
        refine o_call (.a (.v _)) rfl rfl fnok19 rfl rfl rfl (fun hg E w1 hm => by exact wakes18_c _) ?_
        refine o_yield rfl rfl rfl (y_val tok rfl) ?_
        refine o_yield rfl rfl rfl (y_val tok rfl) ?_
        refine o_end [4] rfl ?_
        refine x_then ?_
        refine c_ret ?_
        refine b_ret tok rfl ?_
        intro E w' hm _
        refine ⟨?_, hm.below ((hle1.trans hle2))⟩
        by_cases he : pcE g t = 0
        · obtain ⟨k1, k2, k3, k4, k5⟩ := hpl.2 he
          have hc : catS (pcL g t) = t := by rw [pcL, if_pos he]; exact catS_pieces (by omega)
          rw [hc, k3]
          simp [he, Int.toNat_of_nonneg (show 0 ≤ g.per by omega)]
          rfl
        · have hb : (pcE g t != 0) = true := by simp [he]
          rw [hb]
          simp
          rfl
end Go.Proofs.Ytanekcndpkagiaa
