import Derived.Test.YtipmgnhbcaniiaaMFit
import Derived.Test.YtipmgnhbcaniiaaEng35
import Derived.Test.YtipmgnhbcaniiaaEng31
/- What rows of blocks tell of a block: the law. -/
set_option linter.unusedVariables false
set_option linter.unusedSimpArgs false
set_option maxRecDepth 100000
namespace Go.Proofs.Ytipmgnhbcaniiaa
open Go Go.Eng Go.RowKit

theorem geo22_c (w : World) : Calls Try.prog 19 #[] w fun e w' => e = .returned (⟨1, 1, 3, 2, 9, 8, 1, 2⟩ : Geo).val ∧ Below w.heap.size w w' := by
  refine enter (E := E0) (O := []) (nl := 0) (V := vw w) [] Try.func19 rfl rfl (mem0 E0 0 w) rfl rfl ?_
  refine c_seq ?_
  refine c_region ?_
  refine o_new tok rfl rfl rfl rfl ?_
  refine o_end [0] rfl ?_
  refine x_then ?_
  refine c_seq ?_
  refine c_region ?_
  refine o_yield rfl rfl rfl (y_val tok rfl) ?_
  refine o_store tok rfl rfl rfl (by first | exact ⟨trivial, trivial⟩ | (repeat' first | exact trivial | exact rfl | apply And.intro); done | simp [onesP, oneP, lk, Value.oneCell']) ?_
  refine o_end [0] rfl ?_
  refine x_then ?_
  refine c_ret ?_
  refine b_ret tok rfl ?_
  intro E w' hm _
  refine ⟨?_, hm.below (Vw.le.refl _)⟩
  rfl

abbrev geoF : Geo := ⟨1, 1, 3, 2, 9, 8, 1, 2⟩
theorem geoF_ok : geoF.Ok := by constructor <;> simp [R64]
def cS : ByteArray := ⟨#[99]⟩
def xS : ByteArray := ⟨#[120]⟩
def yS : ByteArray := ⟨#[121]⟩
theorem dataF : dataV geoF 1 0 = 23 := by decide

theorem begF_c (w : World) : Calls Try.prog 11 #[geoF.val, I 1] w fun e w' => e = .returned (.tuple #[(⟨1, 0, ⟨.slice none 0 0, []⟩⟩ : Fetching).val, I 0]) ∧ Below w.heap.size w w' := by
  have := fbegin_c geoF geoF_ok 1 w
  rwa [dataF] at this

abbrev actF : ActV := ⟨1, 23, ByteArray.empty, 0⟩
theorem wantF_c (w : World) : Calls Try.prog 12 #[geoF.val, (⟨1, 0, ⟨.slice none 0 0, []⟩⟩ : Fetching).val] w fun e w' => e = .returned actF.val ∧ Below w.heap.size w w' := by
  have h := fwant_c ⟨1, 0, ⟨.slice none 0 0, []⟩⟩ geoF geoF_ok none 0 0 rfl w
  have e : fwantV ⟨1, 0, ⟨.slice none 0 0, []⟩⟩ geoF = actF := by
    have : nextV ⟨1, 0, ⟨.slice none 0 0, []⟩⟩ geoF = 23 := by rw [nextV, if_neg (by decide)]; exact dataF
    rw [fwantV, this]; rfl
  rwa [e] at h

theorem takeF_c (V : Vw) (k k' : Int) (hk : k < 2) (hk' : IntKind.i64.wrap (k + 1) = k') (v : Value) (L : List ByteArray) (got : ByteArray) (hg : got.size ≤ 256) (hn : L.length ≤ 1099511627776) (w : World) (hV : V.le (vw w)) (hs : SlOf V encS 1 v L) :
    Calls Try.prog 14 #[geoF.val, (⟨1, k, ⟨v, L⟩⟩ : Fetching).val, S got] w fun e w' => ∃ x V', e = .returned x ∧ Below w.heap.size w w' ∧ Vext w.heap.size V V' w' ∧ ∃ a n c, x = .tuple #[.agg #[I 1, I k', .slice a n c], I 0] ∧ SlOf V' encS 1 (.slice a n c) (L ++ [got]) := by
  refine (ftake_c V ⟨1, k, ⟨v, L⟩⟩ geoF got w hV hs hn).mono ?_
  rintro e w' ⟨x, V', he, hb, hx, h | h | h⟩
  · omega
  · simp only at h; omega
  · rw [hk'] at h
    exact ⟨x, V', he, hb, hx, h.2.2⟩

theorem catF : catS [abS, cS] = ⟨#[97, 98, 99]⟩ := rfl

theorem wakes22_c (w : World) : Calls Try.prog 6 #[] w fun e w' => e = .returned (.bool true) ∧ Below w.heap.size w w' := by
  refine enter (E := E0) (O := []) (nl := 0) (V := vw w) [] Try.func6 rfl rfl (mem0 E0 0 w) rfl rfl ?_
  refine c_seq ?_
  refine c_region ?_
  refine o_yield rfl rfl rfl (y_val tok rfl) ?_
  refine o_end [] rfl ?_
  refine x_then ?_
  refine c_seq ?_
  refine c_region ?_
  refine o_call (.a (.v _)) rfl rfl fnok19 rfl rfl rfl (fun hg E w1 hm => by exact geo22_c _) ?_
  refine o_call (.a (.v _)) rfl rfl fnok11 rfl rfl rfl (fun hg E w1 hm => by exact begF_c _) ?_
  refine o_yield rfl rfl rfl (y_val tok rfl) ?_
  refine o_yield rfl rfl rfl (y_val tok rfl) ?_
  refine o_yield rfl rfl rfl (y_val tok rfl) ?_
  refine o_new tok rfl rfl rfl rfl ?_
  refine o_store tok rfl rfl rfl (by first | exact ⟨trivial, trivial⟩ | (repeat' first | exact trivial | exact rfl | apply And.intro); done | simp [onesP, oneP, lk, Value.oneCell']) ?_
  refine o_yield rfl rfl rfl (y_val tok rfl) ?_
  refine o_end [1, 2] rfl ?_
  refine x_then ?_
  refine c_seq ?_
  refine k_trim [1, 2] [] 1 rfl rfl (by repeat (first | exact SubF.nil | refine SubF.cons rfl ?_)) (by repeat (first | exact SubO.nil | refine SubO.cons rfl ?_)) rfl ?_
  refine c_heldM (σ := Unit) (fun _ => [(1, .a (.ptr 0 0)), (2, .a (.v (I 0))), (3, .a (.ptr 1 0))]) (fun _ => [(0, .lit [.v (I 1), .v (I 0), .v (.slice none 0 0)] 47), (1, .lit (actF.cells.map .v) 45)]) (2) (fun _ => (vw w)) (fun _ => True) mixed ?_ ?_
  ·
    refine t_take 1 rfl (by kernel_rfl) rfl rfl rfl (y_val tok rfl) rfl ?_
    refine t_go ?_
    refine h_two 0 3 (by kernel_rfl) ?_ ?_
    ·
      refine h_call 0 (.a (.v geoF.val)) rfl rfl rfl fnok19 rfl rfl rfl (fun hg E w1 hm => by exact geo22_c _) ?_
      refine h_two 2 3 (by kernel_rfl) ?_ ?_
      ·
        refine h_call 2 (.a (.v actF.val)) rfl rfl rfl fnok12 rfl rfl rfl (fun hg E w1 hm => by exact wantF_c _) ?_
        refine h_one 3 (by kernel_rfl) ?_
        refine h_new 3 tok rfl rfl rfl rfl rfl rfl ?_
        refine h_one 4 (by kernel_rfl) ?_
        refine h_store 4 tok rfl rfl rfl rfl (by first | exact ⟨trivial, trivial⟩ | (repeat' first | exact trivial | exact rfl | apply And.intro); done | simp [onesP, oneP, lk, Value.oneCell']) (.inr ⟨(by repeat (first | exact SubO.nil | refine SubO.cons rfl ?_)), rfl, (by first | exact Vw.le.refl _ | assumption)⟩) ?_
        refine h_done [1, 2, 3] (by kernel_rfl) rfl ?_
        exact x_meet () trivial (by repeat (first | exact SubF.nil | refine SubF.cons rfl ?_)) (by repeat (first | exact SubO.nil | refine SubO.cons rfl ?_)) rfl (Vw.le.refl _)
      ·
        refine h_new 3 tok rfl rfl rfl rfl rfl rfl ?_
        refine h_one 2 (by kernel_rfl) ?_
        refine h_call 2 (.a (.v actF.val)) rfl rfl rfl fnok12 rfl rfl rfl (fun hg E w1 hm => by exact wantF_c _) ?_
        refine h_one 4 (by kernel_rfl) ?_
        refine h_store 4 tok rfl rfl rfl rfl (by first | exact ⟨trivial, trivial⟩ | (repeat' first | exact trivial | exact rfl | apply And.intro); done | simp [onesP, oneP, lk, Value.oneCell']) (.inr ⟨(by repeat (first | exact SubO.nil | refine SubO.cons rfl ?_)), rfl, (by first | exact Vw.le.refl _ | assumption)⟩) ?_
        refine h_done [1, 2, 3] (by kernel_rfl) rfl ?_
        exact x_meet () trivial (by repeat (first | exact SubF.nil | refine SubF.cons rfl ?_)) (by repeat (first | exact SubO.nil | refine SubO.cons rfl ?_)) rfl (Vw.le.refl _)
    ·
      refine h_new 3 tok rfl rfl rfl rfl rfl rfl ?_
      refine h_one 0 (by kernel_rfl) ?_
      refine h_call 0 (.a (.v geoF.val)) rfl rfl rfl fnok19 rfl rfl rfl (fun hg E w1 hm => by exact geo22_c _) ?_
      refine h_one 2 (by kernel_rfl) ?_
      refine h_call 2 (.a (.v actF.val)) rfl rfl rfl fnok12 rfl rfl rfl (fun hg E w1 hm => by exact wantF_c _) ?_
      refine h_one 4 (by kernel_rfl) ?_
      refine h_store 4 tok rfl rfl rfl rfl (by first | exact ⟨trivial, trivial⟩ | (repeat' first | exact trivial | exact rfl | apply And.intro); done | simp [onesP, oneP, lk, Value.oneCell']) (.inr ⟨(by repeat (first | exact SubO.nil | refine SubO.cons rfl ?_)), rfl, (by first | exact Vw.le.refl _ | assumption)⟩) ?_
      refine h_done [1, 2, 3] (by kernel_rfl) rfl ?_
      exact x_meet () trivial (by repeat (first | exact SubF.nil | refine SubF.cons rfl ?_)) (by repeat (first | exact SubO.nil | refine SubO.cons rfl ?_)) rfl (Vw.le.refl _)
  rintro ⟨⟩ -
  refine x_then ?_
  refine c_seq ?_
  refine c_heldS [6] mixed rfl (by repeat (first | exact SubO.nil | refine SubO.cons rfl ?_)) (by first | rfl | simp [okCels, allOk_plain]) ?_
  refine t_takeD 1 rfl (by kernel_rfl) rfl rfl rfl (y_val tok rfl) rfl ?_
  refine t_go ?_
  refine h_one 0 (by kernel_rfl) ?_
  refine h_call 0 (.a (.v _)) rfl rfl rfl fnok19 rfl rfl rfl (fun hg E w1 hm => by exact geo22_c _) ?_
  refine h_one 2 (by kernel_rfl) ?_
  refine h_callV 2 (fun x V' => ∃ a n c, x = .tuple #[.agg #[I 1, I 1, .slice a n c], I 0] ∧ SlOf V' encS 1 (.slice a n c) [abS]) rfl rfl rfl fnok14 rfl rfl (fun hg E w1 hm => by exact takeF_c (vw w) 0 1 (by decide) rfl (.slice none 0 0) [] abS (by simp only [abS, cS]; decide) (by simp) _ hm.leV (slNil _ encS 1 0 (fun _ => rfl))) ?_
  rintro x4 V4 hle4 hx4
  obtain ⟨a4, n4, c4, rfl, hs4⟩ := hx4 rfl
  refine h_one 3 (by kernel_rfl) ?_
  refine h_yield 3 rfl rfl rfl rfl (y_val tok rfl) ?_
  refine h_takeD 4 rfl (by kernel_rfl) rfl rfl rfl rfl (y_val tok rfl) rfl ?_
  refine h_takeR 5 rfl (by kernel_rfl) rfl rfl rfl (fun _ => y_val tok rfl) rfl ?_
  refine h_one 6 (by kernel_rfl) ?_
  refine h_store 6 tok rfl rfl rfl rfl (by first | exact ⟨trivial, trivial⟩ | (repeat' first | exact trivial | exact rfl | apply And.intro); done | simp [onesP, oneP, lk, Value.oneCell']) (.inl rfl) ?_
  refine h_one 7 (by kernel_rfl) ?_
  refine h_yield 7 rfl rfl rfl rfl (y_val tok rfl) ?_
  refine h_done [1, 2, 3, 4] (by kernel_rfl) rfl ?_
  refine x_then ?_
  refine c_seq ?_
  refine c_heldS [6] mixed rfl (by repeat (first | exact SubO.nil | refine SubO.cons rfl ?_)) (by first | rfl | simp [okCels, allOk_plain]) ?_
  refine t_takeD 1 rfl (by kernel_rfl) rfl rfl rfl (y_val tok rfl) rfl ?_
  refine t_go ?_
  refine h_one 0 (by kernel_rfl) ?_
  refine h_call 0 (.a (.v _)) rfl rfl rfl fnok19 rfl rfl rfl (fun hg E w1 hm => by exact geo22_c _) ?_
  refine h_one 2 (by kernel_rfl) ?_
  refine h_callV 2 (fun x V' => ∃ a n c, x = .tuple #[.agg #[I 1, I 2, .slice a n c], I 0] ∧ SlOf V' encS 1 (.slice a n c) [abS, cS]) rfl rfl rfl fnok14 rfl rfl (fun hg E w1 hm => by exact takeF_c V4 1 2 (by decide) rfl (.slice a4 n4 c4) [abS] cS (by simp only [abS, cS]; decide) (by simp) _ hm.leV hs4) ?_
  rintro x5 V5 hle5 hx5
  obtain ⟨a5, n5, c5, rfl, hs5⟩ := hx5 rfl
  refine h_one 3 (by kernel_rfl) ?_
  refine h_yield 3 rfl rfl rfl rfl (y_val tok rfl) ?_
  refine h_takeD 4 rfl (by kernel_rfl) rfl rfl rfl rfl (y_val tok rfl) rfl ?_
  refine h_takeR 5 rfl (by kernel_rfl) rfl rfl rfl (fun _ => y_val tok rfl) rfl ?_
  refine h_one 6 (by kernel_rfl) ?_
  refine h_store 6 tok rfl rfl rfl rfl (by first | exact ⟨trivial, trivial⟩ | (repeat' first | exact trivial | exact rfl | apply And.intro); done | simp [onesP, oneP, lk, Value.oneCell']) (.inl rfl) ?_
  refine h_one 7 (by kernel_rfl) ?_
  refine h_yield 7 rfl rfl rfl rfl (y_val tok rfl) ?_
  refine h_done [1, 2, 3, 4, 5] (by kernel_rfl) rfl ?_
  refine x_then ?_
  refine c_seq ?_
  refine c_region ?_
  refine o_yield rfl rfl rfl (y_val tok rfl) ?_
  refine o_bs tok rfl rfl rfl rfl (fun b1 W1 hlw1 hb1 => ?_)
  refine o_yield rfl rfl rfl (y_val tok rfl) ?_
  refine o_bs tok rfl rfl rfl rfl (fun b2 W2 hlw2 hb2 => ?_)
  refine o_bs tok rfl rfl rfl rfl (fun b3 W3 hlw3 hb3 => ?_)
  have hk1 : SlOf W3 Block.cells 2 (.slice (some ⟨b1, 0, none⟩) 1 1) [⟨1, xS⟩] := (SlOf.ofBlock (enc := Block.cells) (sz := 2) (l := [⟨1, xS⟩]) (hb1 rfl) rfl (fun _ => rfl) (Nat.le_refl _)).mono (hlw2.trans hlw3)
  have hk2 : SlOf W3 Block.cells 2 (.slice (some ⟨b2, 0, none⟩) 1 1) [⟨1, yS⟩] := (SlOf.ofBlock (enc := Block.cells) (sz := 2) (l := [⟨1, yS⟩]) (hb2 rfl) rfl (fun _ => rfl) (Nat.le_refl _)).mono hlw3
  have hk3 : SlOf W3 Sl.enc 1 (.slice (some ⟨b3, 0, none⟩) 3 3) [(⟨.slice none 0 0, []⟩ : Sl Block), ⟨.slice (some ⟨b1, 0, none⟩) 1 1, [⟨1, xS⟩]⟩, ⟨.slice (some ⟨b2, 0, none⟩) 1 1, [⟨1, yS⟩]⟩] := SlOf.ofBlock (enc := Sl.enc) (sz := 1) (l := [(⟨.slice none 0 0, []⟩ : Sl Block), ⟨.slice (some ⟨b1, 0, none⟩) 1 1, [⟨1, xS⟩]⟩, ⟨.slice (some ⟨b2, 0, none⟩) 1 1, [⟨1, yS⟩]⟩]) (hb3 rfl) rfl (fun _ => rfl) (Nat.le_refl _)
  have hall : ∀ r ∈ [(⟨.slice none 0 0, []⟩ : Sl Block), ⟨.slice (some ⟨b1, 0, none⟩) 1 1, [⟨1, xS⟩]⟩, ⟨.slice (some ⟨b2, 0, none⟩) 1 1, [⟨1, yS⟩]⟩], SlOf W3 Block.cells 2 r.v r.l ∧ r.l.length ≤ 4398046511104 := by
    intro r hr
    simp only [List.mem_cons, List.not_mem_nil, or_false] at hr
    rcases hr with rfl | rfl | rfl
    · exact ⟨slNil _ _ _ _ (fun _ => rfl), by simp⟩
    · exact ⟨hk1, by simp⟩
    · exact ⟨hk2, by simp⟩
  have hkn : knownB [(⟨.slice none 0 0, []⟩ : Sl Block), ⟨.slice (some ⟨b1, 0, none⟩) 1 1, [⟨1, xS⟩]⟩, ⟨.slice (some ⟨b2, 0, none⟩) 1 1, [⟨1, yS⟩]⟩] 1 = (xS, true) := rfl
  refine o_call (.a (.v _)) rfl rfl fnok20 rfl rfl rfl (fun hg E w1 hm => by exact known_c W3 _ [(⟨.slice none 0 0, []⟩ : Sl Block), ⟨.slice (some ⟨b1, 0, none⟩) 1 1, [⟨1, xS⟩]⟩, ⟨.slice (some ⟨b2, 0, none⟩) 1 1, [⟨1, yS⟩]⟩] 1 _ hm.leV hk3 hall (by simp)) ?_
  refine o_yield rfl rfl rfl (y_val tok rfl) ?_
  refine o_yield rfl rfl rfl (y_val tok rfl) ?_
  refine o_yield rfl rfl rfl (y_val tok rfl) ?_
  refine o_yield rfl rfl rfl (y_val tok rfl) ?_
  refine o_yield rfl rfl rfl (y_val tok rfl) ?_
  refine o_end [1, 2, 3, 4, 5, 6, 7] rfl ?_
  refine x_then ?_
  refine c_seq ?_
  refine c_draw mixed (by kernel_rfl) ?_
  refine d_yield rfl rfl rfl (y_val tok rfl) rfl ?_
  refine d_yield rfl rfl rfl (y_val tok rfl) rfl ?_
  refine d_yield rfl rfl rfl (y_val tok rfl) rfl ?_
  refine d_yield rfl rfl rfl (y_val tok rfl) rfl ?_
  refine d_yield rfl rfl rfl (y_val tok rfl) rfl ?_
  refine d_yield rfl rfl rfl (y_val tok rfl) rfl ?_
  refine d_yield rfl rfl rfl (y_val tok rfl) rfl ?_
  refine d_yield rfl rfl rfl (y_val tok rfl) rfl ?_
  refine d_yield rfl rfl rfl (y_val tok rfl) rfl ?_
  refine d_yield rfl rfl rfl (y_val tok rfl) rfl ?_
  refine d_call (.a (.v _)) rfl rfl fnok19 rfl rfl rfl (fun hg E w1 hm => by exact geo22_c _) ?_
  refine d_call (.a (.v _)) rfl rfl fnok21 rfl rfl rfl (fun hg E w1 hm => by exact refData_c geoF geoF_ok 1 0 _) ?_
  refine d_yield rfl rfl rfl (y_val tok rfl) rfl ?_
  refine d_yield rfl rfl rfl (y_val tok rfl) rfl ?_
  refine d_yield rfl rfl rfl (y_val tok rfl) rfl ?_
  refine d_yield rfl rfl rfl (y_val tok rfl) rfl ?_
  refine d_yield rfl rfl rfl (y_val tok rfl) rfl ?_
  refine d_yield rfl rfl rfl (y_val tok rfl) rfl ?_
  refine d_yield rfl rfl rfl (y_val tok rfl) rfl ?_
  refine d_yield rfl rfl rfl (y_val tok rfl) rfl ?_
  refine d_yield rfl rfl rfl (y_val tok rfl) rfl ?_
  refine d_yield rfl rfl rfl (y_val tok rfl) rfl ?_
  refine d_yield rfl rfl rfl (y_val tok rfl) rfl ?_
  refine d_call (.a (.v _)) rfl rfl fnok19 rfl rfl rfl (fun hg E w1 hm => by exact geo22_c _) ?_
  refine d_yield rfl rfl rfl (y_val tok rfl) rfl ?_
  refine d_call (.a (.v _)) rfl rfl fnok13 rfl rfl rfl (fun hg E w1 hm => by exact fover_c ⟨1, 2, ⟨.slice a5 n5 c5, [abS, cS]⟩⟩ geoF _ _ _ rfl _) ?_
  refine d_yield rfl rfl rfl (y_val tok rfl) rfl ?_
  refine d_yield rfl rfl rfl (y_val tok rfl) rfl ?_
  refine d_yield rfl rfl rfl (y_val tok rfl) rfl ?_
  refine d_call (.a (.v _)) rfl rfl fnok17 rfl rfl rfl (fun hg E w1 hm => by exact ftext_c W3 ⟨1, 2, ⟨.slice a5 n5 c5, [abS, cS]⟩⟩ _ hm.leV (hs5.mono (hlw1.trans (hlw2.trans hlw3))) (by simp) (by simp only [catL, abS, cS]; decide)) ?_
  refine d_yield rfl rfl rfl (y_val tok rfl) rfl ?_
  refine d_yield rfl rfl rfl (y_val tok rfl) rfl ?_
  refine d_yield rfl rfl rfl (y_val tok rfl) rfl ?_
  refine d_yield rfl rfl rfl (y_val tok rfl) rfl ?_
  refine d_yield rfl rfl rfl (y_val tok rfl) rfl ?_
  refine d_yield rfl rfl rfl (y_val tok rfl) rfl ?_
  refine d_yield rfl rfl rfl (y_val tok rfl) rfl ?_
  refine d_yield rfl rfl rfl (y_val tok rfl) rfl ?_
  refine d_yield rfl rfl rfl (y_val tok rfl) rfl ?_
  refine d_yield rfl rfl rfl (y_val tok rfl) rfl ?_
  refine d_end [0] rfl ?_
  refine x_then ?_
  refine c_ret ?_
  refine b_ret tok rfl ?_
  intro E w' hm _
  refine ⟨?_, hm.below ((hle4.trans (hle5.trans (hlw1.trans (hlw2.trans hlw3)))))⟩
  rw [hkn, dataF]
  have hd : decide (geoF.per ≤ 2) = true := rfl
  simp only [hd, catF, xS]
  simp
  rfl

end Go.Proofs.Ytipmgnhbcaniiaa

/- A transaction's records may be. -/
set_option linter.unusedVariables false
set_option linter.unusedSimpArgs false
set_option maxRecDepth 100000
namespace Go.Proofs.Ytipmgnhbcaniiaa
open Go Go.Eng Go.RowKit

end Go.Proofs.Ytipmgnhbcaniiaa

/- A transaction's records: the document's. -/
set_option linter.unusedVariables false
set_option linter.unusedSimpArgs false
set_option maxRecDepth 100000
namespace Go.Proofs.Ytipmgnhbcaniiaa
open Go Go.Eng Go.RowKit

theorem rest_list (t : ByteArray) : ∀ k, (restAt t k).data.toList = t.data.toList.drop (256 * k)
  | 0 => by simp [restAt]
  | k + 1 => by
    have hz := size_list (restAt t k)
    rw [restAt, tailOf, ByteArray.data_extract, Array.toList_extract, List.extract_eq_take_drop]
    rw [List.take_of_length_le (by rw [List.length_drop]; omega), ← hz]
    have hr := rest_list t k
    by_cases h : (restAt t k).data.toList.length ≤ 256
    · rw [Nat.min_eq_left h, List.drop_length]
      rw [hr, List.length_drop] at h
      rw [List.drop_of_length_le (by omega)]
    · rw [Nat.min_eq_right (by omega), hr, List.drop_drop]
      congr 1

theorem piece_list (t : ByteArray) (k : Nat) : (pieceAt t k).data.toList = (t.data.toList.drop (256 * k)).take 256 := by
  have hz := size_list (restAt t k)
  rw [pieceAt, headOf, ByteArray.data_extract, Array.toList_extract, List.extract_eq_take_drop, List.drop_zero, Nat.sub_zero, ← rest_list, ← hz]
  by_cases h : (restAt t k).data.toList.length ≤ 256
  · rw [Nat.min_eq_left h, List.take_of_length_le (Nat.le_refl _), List.take_of_length_le h]
  · rw [Nat.min_eq_right (by omega)]

theorem refPiece_c (t : ByteArray) (k : Nat) (hk : k ≤ 100) (ht : t.size ≤ maxLen) (w : World) : Calls Try.prog 75 #[S t, I k] w fun e w' => e = .returned (S (pieceAt t k)) ∧ Below w.heap.size w w' := by
  simp only [maxLen] at ht
  have hz := size_list t
  refine enter (E := E0) (O := []) (nl := 0) (V := vw w) [.a (.v (S t)), .a (.v (I k))] Try.func75 rfl rfl (mem0 E0 0 w) rfl rfl ?_
  refine c_seq ?_
  refine c_region ?_
  refine o_yield rfl rfl rfl (y_val tok rfl) ?_
  refine o_end [0, 1] rfl ?_
  refine x_then ?_
  refine c_seq ?_
  refine c_region ?_
  refine o_yield rfl rfl rfl (y_val tok rfl) ?_
  refine o_yield rfl rfl rfl (y_val tok rfl) ?_
  refine o_yield rfl rfl rfl (y_val tok rfl) ?_
  refine o_yield rfl rfl rfl (y_val tok rfl) ?_
  refine o_yield rfl rfl rfl (y_mm rfl) ?_
  refine o_yield rfl rfl rfl (y_val tok rfl) ?_
  refine o_yield rfl rfl rfl (y_val tok rfl) ?_
  refine o_yield rfl rfl rfl (y_val tok rfl) ?_
  refine o_yield rfl rfl rfl (y_val tok rfl) ?_
  refine o_yield rfl rfl rfl (y_val tok rfl) ?_
  refine o_yield rfl rfl rfl (y_mm rfl) ?_
  refine o_yield rfl rfl rfl (y_val tok rfl) ?_
  refine o_yield rfl rfl rfl (y_val tok rfl) ?_
  refine o_end [0, 5, 6] rfl ?_
  refine x_then ?_
  refine c_seq ?_
  refine c_region ?_
  refine o_yield rfl rfl rfl (y_val tok rfl) ?_
  refine o_yield rfl rfl rfl (y_val tok rfl) ?_
  refine o_yield rfl rfl rfl (y_val tok rfl) ?_
  rw [wrapI (n := (k : Int) * 256) (by omega) (by omega), wrapI (n := (k : Int) + 1) (by omega) (by omega), wrapI (n := ((k : Int) + 1) * 256) (by omega) (by omega)]
  refine o_yield rfl rfl rfl (y_ss tok rfl (fun hg => by simp only [Option.getD, cond_false]; omega)) ?_
  refine o_yield rfl rfl rfl (y_val tok rfl) ?_
  refine o_end [4] rfl ?_
  refine x_then ?_
  refine c_ret ?_
  refine b_ret tok rfl ?_
  intro E w' hm _
  refine ⟨?_, hm.below (Vw.le.refl _)⟩
  show Ending.returned (S (t.extract (min ((k : Int) * 256) (t.size : Int)).toNat (min (((k : Int) + 1) * 256) (t.size : Int)).toNat)) = _
  congr 2
  apply str_ext
  rw [piece_list, ByteArray.data_extract, Array.toList_extract, List.extract_eq_take_drop]
  by_cases h : t.size ≤ 256 * k
  · rw [List.drop_of_length_le (l := t.data.toList) (i := 256 * k) (by omega), List.drop_of_length_le (by omega)]
    simp
  · rw [show (min ((k : Int) * 256) (t.size : Int)).toNat = 256 * k by omega]
    by_cases h2 : t.size ≤ 256 * (k + 1)
    · rw [show (min (((k : Int) + 1) * 256) (t.size : Int)).toNat = t.size by omega, List.take_of_length_le (by rw [List.length_drop]; omega), List.take_of_length_le (by rw [List.length_drop]; omega)]
    · rw [show (min (((k : Int) + 1) * 256) (t.size : Int)).toNat = 256 * k + 256 by omega, Nat.add_sub_cancel_left]

end Go.Proofs.Ytipmgnhbcaniiaa

/- A text's pieces: the document's, and the law. -/
set_option linter.unusedVariables false
set_option linter.unusedSimpArgs false
set_option maxRecDepth 100000
namespace Go.Proofs.Ytipmgnhbcaniiaa
open Go Go.Eng Go.RowKit

theorem pieceL_succ (t : ByteArray) (k : Nat) : pieceL (k + 1) t = pieceL k t ++ [pieceAt t k] := by simp [pieceL, List.range_succ]
theorem pieceL_len (t : ByteArray) (k : Nat) : (pieceL k t).length = k := by simp [pieceL]
theorem refPieces_c (g : Geo) (ok : g.Ok) (text : ByteArray) (w : World) (ht : text.size ≤ maxLen) : Calls Try.prog 64 #[g.val, S text] w (PcPost g text w) := by
  have ht0 := ht
  simp only [maxLen] at ht
  refine enter (E := E0) (O := []) (nl := 0) (V := vw w) [.a (.v g.val), .a (.v (S text))] Try.func64 rfl rfl (mem0 E0 0 w) rfl rfl ?_
  refine c_seq ?_
  refine c_region ?_
  refine o_new tok rfl rfl rfl rfl ?_
  refine o_yield rfl rfl rfl (y_val tok rfl) ?_
  refine o_yield rfl rfl rfl (y_val tok rfl) ?_
  refine o_end [1, 2] rfl ?_
  refine x_then ?_
  refine c_seq ?_
  refine c_seq ?_
  refine c_region ?_
  refine o_yield rfl rfl rfl (y_val tok rfl) ?_
  refine o_call (.a (.v _)) rfl rfl fnok18 rfl rfl rfl (fun hg E w1 hm => by exact refMay_c g ok _) ?_
  refine o_yield rfl rfl rfl (y_val tok rfl) ?_
  refine o_end [1, 2, 10] rfl ?_
  refine x_then ?_
  refine c_cond rfl (fun h => ?_) (fun h => ?_)
  ·
    simp only [Bool.and_eq_true, Bool.or_eq_true, Bool.not_eq_true', Bool.or_eq_false_iff, Bool.and_eq_false_iff, decide_eq_true_eq, decide_eq_false_iff_not, beq_iff_eq, bne_iff_ne, Bool.not_eq_false', beq_eq_false_iff_ne, bne_eq_false_iff_eq, ne_eq, Decidable.not_not, Int.not_lt, Int.not_le] at h
    refine c_seq ?_
    refine c_region ?_
    refine o_yield rfl rfl rfl (y_val tok rfl) ?_
    refine o_yield rfl rfl rfl (y_val tok rfl) ?_
    refine o_end [4, 5] rfl ?_
    refine x_then ?_
    refine c_ret ?_
    refine x_then_ret ?_
    refine b_ret tok rfl ?_
    intro E w' hm _
    exact ⟨.inr (.inl ⟨h, rfl⟩), hm.below (Vw.le.refl _)⟩
  ·
    simp only [Bool.and_eq_true, Bool.or_eq_true, Bool.not_eq_true', Bool.or_eq_false_iff, Bool.and_eq_false_iff, decide_eq_true_eq, decide_eq_false_iff_not, beq_iff_eq, bne_iff_ne, Bool.not_eq_false', beq_eq_false_iff_ne, bne_eq_false_iff_eq, ne_eq, Decidable.not_not, Int.not_lt, Int.not_le] at h
    have hgg := h
    have hf := geo_facts hgg
    obtain ⟨per, hper⟩ : ∃ per : Nat, g.per = per := ⟨g.per.toNat, by omega⟩
    have hpn : g.per.toNat = per := by omega
    have hwp : IntKind.i64.wrap (g.per * 256) = g.per * 256 := wrapI (by omega) (by omega)
    clear h
    refine c_skip ?_
    refine x_then ?_
    refine c_seq ?_
    refine c_seq ?_
    refine c_region ?_
    refine o_yield rfl rfl rfl (y_val tok rfl) ?_
    refine o_yield rfl rfl rfl (y_val tok rfl) ?_
    refine o_yield rfl rfl rfl (y_val tok rfl) ?_
    refine o_yield rfl rfl rfl (y_val tok rfl) ?_
    refine o_yield rfl rfl rfl (y_val tok rfl) ?_
    refine o_yield rfl rfl rfl (y_val tok rfl) ?_
    refine o_end [1, 2, 16] rfl ?_
    refine x_then ?_
    refine c_cond rfl (fun h => ?_) (fun h => ?_)
    ·
      simp only [Bool.and_eq_true, Bool.or_eq_true, Bool.not_eq_true', Bool.or_eq_false_iff, Bool.and_eq_false_iff, decide_eq_true_eq, decide_eq_false_iff_not, beq_iff_eq, bne_iff_ne, Bool.not_eq_false', beq_eq_false_iff_ne, bne_eq_false_iff_eq, ne_eq, Decidable.not_not, Int.not_lt, Int.not_le] at h
      refine c_seq ?_
      refine c_region ?_
      refine o_yield rfl rfl rfl (y_val tok rfl) ?_
      refine o_yield rfl rfl rfl (y_val tok rfl) ?_
      refine o_end [4, 5] rfl ?_
      refine x_then ?_
      refine c_ret ?_
      refine x_then_ret ?_
      refine b_ret tok rfl ?_
      rw [hwp] at h
      intro E w' hm _
      exact ⟨.inr (.inr ⟨hgg, h, rfl⟩), hm.below (Vw.le.refl _)⟩
    ·
      simp only [Bool.and_eq_true, Bool.or_eq_true, Bool.not_eq_true', Bool.or_eq_false_iff, Bool.and_eq_false_iff, decide_eq_true_eq, decide_eq_false_iff_not, beq_iff_eq, bne_iff_ne, Bool.not_eq_false', beq_eq_false_iff_ne, bne_eq_false_iff_eq, ne_eq, Decidable.not_not, Int.not_lt, Int.not_le] at h
      rw [hwp] at h
      have hle := h
      clear h
      refine c_skip ?_
      refine x_then ?_
      refine c_seq ?_
      refine c_region ?_
      refine o_yield rfl rfl rfl (y_val tok rfl) ?_
      refine o_end [1, 2, 6] rfl ?_
      refine x_then ?_
      refine c_seq ?_
      refine c_seq ?_
      refine c_region ?_
      refine o_yield rfl rfl rfl (y_val tok rfl) ?_
      refine o_end [1, 2, 6, 7] rfl ?_
      refine x_then ?_
      refine c_block ?_
      refine k_nil 6 9 1 rfl rfl ?_
      have e0 : pieceL 0 text = [] := rfl
      refine c_loopK [1, 2] [1, 0] rfl rfl (σ := Nat) (fun k => [(6, .a (.row 1)), (7, .a (.v (I k)))]) (fun k => [(1, .row 9 1 (pieceL k text).length ((pieceL k text).flatMap encS)), (0, .lit (g.cells.map .v) 23)]) (fun k => k ≤ per) (fun k => per - k) (0) (by omega) (by repeat (first | exact SubF.nil | refine SubF.cons rfl ?_ | refine SubF.cons (by simp only [e0]; first | done | rfl) ?_)) (by repeat (first | exact SubO.nil | refine SubO.cons rfl ?_ | refine SubO.cons (by simp only [e0]; first | done | rfl) ?_)) rfl ?_
      rintro k hk
      refine c_seq ?_
      refine c_seq ?_
      refine c_region ?_
      refine o_yield rfl rfl rfl (y_val tok rfl) ?_
      refine o_yield rfl rfl rfl (y_val tok rfl) ?_
      refine o_yield rfl rfl rfl (y_val tok rfl) ?_
      refine o_yield rfl rfl rfl (y_val tok rfl) ?_
      refine o_end [1, 2, 6, 7, 20] rfl ?_
      refine x_then ?_
      refine c_cond rfl (fun h => ?_) (fun h => ?_)
      ·
        simp only [Bool.and_eq_true, Bool.or_eq_true, Bool.not_eq_true', Bool.or_eq_false_iff, Bool.and_eq_false_iff, decide_eq_true_eq, decide_eq_false_iff_not, beq_iff_eq, bne_iff_ne, Bool.not_eq_false', beq_eq_false_iff_ne, bne_eq_false_iff_eq, ne_eq, Decidable.not_not, Int.not_lt, Int.not_le] at h
        refine c_skip ?_
        refine x_then ?_
        refine c_seq ?_
        refine c_block ?_
        refine c_region ?_
        refine o_yield rfl rfl rfl (y_val tok rfl) ?_
        refine o_yield rfl rfl rfl (y_val tok rfl) ?_
        refine o_yield rfl rfl rfl (y_val tok rfl) ?_
        have hl1 : (pieceL k text).length + 1 = (pieceL (k + 1) text).length := by rw [pieceL_len, pieceL_len]
        refine o_call (.a (.v _)) rfl rfl fnok75 rfl rfl rfl (fun hg E w1 hm => by exact refPiece_c text k (by omega) ht0 _) ?_
        refine o_step rfl rfl rfl rfl rfl (s_bs tok 1 rfl rfl rfl) (fun _ _ => ?_)
        refine o_step rfl rfl rfl rfl rfl (s_app tok ([pieceAt text k].flatMap encS) rfl (fun E w hm => ownsRow_src (hm.row _ _ _ _ _ rfl)) (fun _ _ _ => str_ones _) (by dsimp only; rw [pieceL_len]; omega)) (fun _ _ => ?_)
        refine o_yield rfl rfl rfl (y_val tok rfl) ?_
        refine o_end [1, 2, 6, 7] rfl ?_
        refine x_block ?_
        refine x_then ?_
        refine c_region ?_
        refine o_yield rfl rfl rfl (y_val tok rfl) ?_
        refine o_yield rfl rfl rfl (y_val tok rfl) ?_
        refine o_yield rfl rfl rfl (y_val tok rfl) ?_
        refine o_end [1, 2, 6, 7] rfl ?_
        refine x_then ?_
        rw [hl1, ← List.flatMap_append, ← pieceL_succ, wrapI (n := (k : Int) + 1) (by omega) (by omega)]
        refine k_swap 1 3 rfl ?_
        refine x_round (k + 1) (by omega) (by first | omega | (dsimp only; omega)) (by repeat (first | exact SubF.nil | refine SubF.cons rfl ?_)) (by repeat (first | exact SubO.nil | refine SubO.cons rfl ?_)) rfl (Vw.le.refl _)
      ·
        simp only [Bool.and_eq_true, Bool.or_eq_true, Bool.not_eq_true', Bool.or_eq_false_iff, Bool.and_eq_false_iff, decide_eq_true_eq, decide_eq_false_iff_not, beq_iff_eq, bne_iff_ne, Bool.not_eq_false', beq_eq_false_iff_ne, bne_eq_false_iff_eq, ne_eq, Decidable.not_not, Int.not_lt, Int.not_le] at h
        refine c_exit ?_
        refine x_then_exit ?_
        refine x_then_exit ?_
        refine x_block_hit ?_
        refine x_then ?_
        refine c_seq ?_
        refine c_region ?_
        refine o_yield rfl rfl rfl (y_val tok rfl) ?_
        refine o_yield rfl rfl rfl (y_val tok rfl) ?_
        refine o_yield rfl rfl rfl (y_val tok rfl) ?_
        refine o_end [4, 5] rfl ?_
        refine x_then ?_
        refine c_ret ?_
        refine b_ret tok rfl ?_
        have hkp : k = per := by omega
        subst hkp
        intro E w' hm _
        refine ⟨.inl ⟨hgg, hle, E.κ 1, rfl, ?_⟩, hm.below (Vw.le.refl _)⟩
        rw [hpn]
        exact hm.rowFresh (Vw.le.refl _) (l := 1) rfl

def pcE (g : Geo) (text : ByteArray) : Int := if geoB g = false then 2 else if g.per * 256 < (text.size : Int) then 60 else 0
def pcL (g : Geo) (text : ByteArray) : List ByteArray := if pcE g text = 0 then pieceL g.per.toNat text else []

theorem PcPost.vw {V : Vw} {g : Geo} {text : ByteArray} {w w' : World} {e : Ending} (hV : V.le (vw w)) (h : PcPost g text w e w') :
    ∃ x V', e = .returned x ∧ Below w.heap.size w w' ∧ Vext w.heap.size V V' w' ∧ ∃ a n c, x = .tuple #[.slice a n c, I (pcE g text)] ∧ SlOf V' encS 1 (.slice a n c) (pcL g text) := by
  obtain ⟨h | h | h, hb⟩ := h
  · obtain ⟨h1, h2, v, rfl, hrow⟩ := h
    obtain ⟨V', hx, hsl⟩ := ownsRow_vext hV hb hrow
    obtain ⟨a, n, c, rfl⟩ := sl_shape hsl
    have he : pcE g text = 0 := by rw [pcE, if_neg (by rw [h1]; simp), if_neg (by omega)]
    exact ⟨_, V', rfl, hb, hx, a, n, c, by rw [he], by rw [pcL, if_pos he]; exact ⟨hsl, fun _ => rfl⟩⟩
  · obtain ⟨h1, rfl⟩ := h
    have he : pcE g text = 2 := by rw [pcE, if_pos h1]
    exact ⟨_, V, rfl, hb, Vext.same hV hb, none, 0, 0, by rw [he], by rw [pcL, if_neg (by rw [he]; decide)]; exact slNil _ _ _ _ (fun _ => rfl)⟩
  · obtain ⟨h1, h2, rfl⟩ := h
    have he : pcE g text = 60 := by rw [pcE, if_neg (by rw [h1]; simp), if_pos h2]
    exact ⟨_, V, rfl, hb, Vext.same hV hb, none, 0, 0, by rw [he], by rw [pcL, if_neg (by rw [he]; decide)]; exact slNil _ _ _ _ (fun _ => rfl)⟩

theorem catL_pieces (t : ByteArray) : ∀ k, catL (pieceL k t) = t.data.toList.take (256 * k)
  | 0 => rfl
  | k + 1 => by
    rw [pieceL_succ, catL, List.flatMap_append, ← catL, catL_pieces t k]
    simp only [List.flatMap_cons, List.flatMap_nil, List.append_nil, piece_list]
    rw [← List.take_add]
    congr 1

theorem catS_pieces {t : ByteArray} {per : Nat} (h : t.size ≤ 256 * per) : catS (pieceL per t) = t := by
  rw [catS, catL_pieces, List.take_of_length_le (by have := size_list t; omega)]
  exact strOf_data t

end Go.Proofs.Ytipmgnhbcaniiaa

/- Whether blocks may be: the program's. -/
set_option linter.unusedVariables false
set_option linter.unusedSimpArgs false
set_option maxRecDepth 100000
namespace Go.Proofs.Ytipmgnhbcaniiaa
open Go Go.Eng Go.RowKit

end Go.Proofs.Ytipmgnhbcaniiaa

/- Where blocks stand: the program's. -/
set_option linter.unusedVariables false
set_option linter.unusedSimpArgs false
set_option maxRecDepth 100000
namespace Go.Proofs.Ytipmgnhbcaniiaa
open Go Go.Eng Go.RowKit

def cellAt (g : Geo) (per : Nat) (l : List Block) (j : Nat) : Cell := ⟨dataV g (blkAt l (j / per)).n ((j % per : Nat) : Int), pieceAt (blkAt l (j / per)).text (j % per)⟩
def cellsN (g : Geo) (per : Nat) (l : List Block) (n : Nat) : List Cell := (List.range n).map (cellAt g per l)

theorem cellsN_len (g : Geo) (per : Nat) (l : List Block) (n : Nat) : (cellsN g per l n).length = n := by simp [cellsN]
theorem cellsN_succ (g : Geo) (per : Nat) (l : List Block) (n : Nat) : cellsN g per l (n + 1) = cellsN g per l n ++ [cellAt g per l n] := by simp [cellsN, List.range_succ]
theorem cellsN_at {g : Geo} {per : Nat} {l : List Block} {n j : Nat} (h : j < n) : (cellsN g per l n)[j]? = some (cellAt g per l j) := by simp [cellsN, List.getElem?_range h]
theorem cellAt_eq (g : Geo) {per : Nat} {l : List Block} {i k : Nat} {b : Block} (hb : l[i]? = some b) (hk : k < per) : cellAt g per l (i * per + k) = ⟨dataV g b.n (k : Int), pieceAt b.text k⟩ := by
  have h1 : (i * per + k) / per = i := by rw [Nat.add_comm, Nat.add_mul_div_right _ _ (by omega), Nat.div_eq_of_lt hk, Nat.zero_add]
  have h2 : (i * per + k) % per = k := by rw [Nat.add_comm, Nat.add_mul_mod_self_right, Nat.mod_eq_of_lt hk]
  rw [cellAt, h1, h2, blkAt_eq hb]

theorem cell_ones (l : List Cell) : ∀ u ∈ l.flatMap Cell.cells, u.oneCell' = true := by
  intro u hu
  obtain ⟨x, _, hx⟩ := List.mem_flatMap.1 hu
  simp only [Cell.cells, List.mem_cons, List.not_mem_nil, or_false] at hx
  rcases hx with rfl | rfl <;> rfl

def allCells (g : Geo) (l : List Block) : List Cell := cellsN g g.per.toNat l (l.length * g.per.toNat)

def CelPost (g : Geo) (l : List Block) (w : World) (e : Ending) (w' : World) : Prop :=
  ((mayL g l = true ∧ ∃ v, e = .returned (.tuple #[v, I 0]) ∧ w'.ownsRow w.heap.size 83 2 v (allCells g l).length ((allCells g l).flatMap Cell.cells)) ∨
    (mayL g l = false ∧ e = .returned (.tuple #[.slice none 0 0, I 2]))) ∧ Below w.heap.size w w'

end Go.Proofs.Ytipmgnhbcaniiaa

/- Cells stand apart and have the blocks' texts: the law. -/
set_option linter.unusedVariables false
set_option linter.unusedSimpArgs false
set_option maxRecDepth 100000
namespace Go.Proofs.Ytipmgnhbcaniiaa
open Go Go.Eng Go.RowKit

theorem dataV_eq {g : Geo} {n k : Int} (h : geoB g = true) (h1 : 0 ≤ n) (h2 : n < g.blocks) (h3 : 0 ≤ k) (h4 : k < g.per) : dataV g n k = dataAt g + n * g.per + k := by
  rw [dataV, if_pos ⟨h, h1, h2, h3, h4⟩]

theorem cell_up {g : Geo} {l : List Block} {per i : Nat} (hml : mayL g l = true) (hper : g.per = per) (hi : i < l.length * per) (h0 : 0 < i) : (cellAt g per l (i - 1)).sector < (cellAt g per l i).sector := by
  have hmay := hml
  rw [mayL, Bool.and_eq_true] at hmay
  have hf := geo_facts hmay.1
  have hat := mayF_at hmay.2
  have hp : 0 < per := by omega
  obtain ⟨q, r, hr, hiq⟩ : ∃ q r, r < per ∧ i = q * per + r := ⟨i / per, i % per, Nat.mod_lt _ hp, by rw [Nat.mul_comm]; exact (Nat.div_add_mod i per).symm⟩
  have hq : q < l.length := by
    rcases Nat.lt_or_ge q l.length with h | h
    · exact h
    · have : l.length * per ≤ q * per := Nat.mul_le_mul_right _ h
      omega
  obtain ⟨b, hb⟩ : ∃ b, l[q]? = some b := ⟨l[q]'hq, by simp [hq]⟩
  obtain ⟨hb1, hb2, _, hb4, _⟩ := hat q b hb
  have hi' := hiq
  rw [hiq, cellAt_eq g hb hr]
  cases r with
  | succ r' =>
    rw [show q * per + (r' + 1) - 1 = q * per + r' by omega, cellAt_eq g hb (by omega)]
    simp only
    rw [dataV_eq hmay.1 (by omega) hb2 (by omega) (by omega), dataV_eq hmay.1 (by omega) hb2 (by omega) (by omega)]
    omega
  | zero =>
    cases q with
    | zero => omega
    | succ q' =>
      obtain ⟨b', hb'⟩ : ∃ b', l[q']? = some b' := ⟨l[q']'(by omega), by simp [show q' < l.length by omega]⟩
      obtain ⟨_, hc2, _, hc4, _⟩ := hat q' b' hb'
      rw [if_neg (by omega), show q' + 1 - 1 = q' by omega, blkAt_eq hb'] at hb1
      rw [show (q' + 1) * per + 0 - 1 = q' * per + (per - 1) by rw [Nat.add_mul]; omega, cellAt_eq g hb' (by omega)]
      simp only
      rw [dataV_eq hmay.1 (by omega) hb2 (by omega) (by omega), dataV_eq hmay.1 (by omega) hc2 (by omega) (by omega)]
      have : (b'.n + 1) * g.per ≤ b.n * g.per := Int.mul_le_mul_of_nonneg_right (by omega) (by omega)
      rw [Int.add_mul] at this
      omega

end Go.Proofs.Ytipmgnhbcaniiaa

/- A device: its texts, its keys, its caches. -/
set_option linter.unusedVariables false
set_option linter.unusedSimpArgs false
set_option maxRecDepth 100000
namespace Go.Proofs.Ytipmgnhbcaniiaa
open Go Go.Eng Go.RowKit

/-- A function value that tells pr, wherever V is read. -/
def TellsS (V : Vw) (fv : Value) (pr : ByteArray → Bool) : Prop :=
  ∀ (x : ByteArray) w', V.le (vw w') → CallsFn Try.prog fv [S x] w' fun e w'' => e = .returned (.bool (pr x)) ∧ Below w'.heap.size w' w''

def idxS (pr : ByteArray → Bool) : List ByteArray → Nat → Int
  | [], _ => -1
  | b :: r, i => if pr b = true then i else idxS pr r (i + 1)

theorem idxS_any (pr : ByteArray → Bool) : ∀ (l : List ByteArray) (i : Nat), decide (0 ≤ idxS pr l i) = l.any pr
  | [], _ => rfl
  | b :: r, i => by
    rw [idxS, List.any_cons]
    by_cases h : pr b = true
    · rw [if_pos h, h]; simp
    · rw [if_neg h, idxS_any pr r (i + 1)]; simp [h]

theorem indexS_c (V : Vw) (fv sv : Value) (pr : ByteArray → Bool) (l : List ByteArray) (w : World) (hV : V.le (vw w)) (hs0 : SlOf V encS 1 sv l) (hn : l.length ≤ 9223372036854775807) (hf : TellsS V fv pr) :
    Calls Try.prog 82 #[sv, fv] w fun e w' => e = .returned (I (idxS pr l 0)) ∧ Below w.heap.size w w' := by
  have hs := hs0.mono hV
  refine enter (E := E0) (O := []) (nl := 0) (V := vw w) [.a (.v sv), .a (.v fv)] Try.func82 rfl rfl (mem0 E0 0 w) rfl rfl ?_
  refine c_seq ?_
  refine c_region ?_
  refine o_yield rfl rfl rfl (y_val tok rfl) ?_
  refine o_end [0, 1] rfl ?_
  refine x_then ?_
  refine c_seq ?_
  refine c_seq ?_
  refine c_region ?_
  refine o_yield rfl rfl rfl (y_val tok rfl) ?_
  refine o_yield rfl rfl rfl (y_len tok rfl (fun hg => hs.sl)) ?_
  refine o_yield rfl rfl rfl (y_val tok rfl) ?_
  refine o_end [0, 1, 7, 8] rfl ?_
  refine x_then ?_
  refine c_block ?_
  refine c_loopK [0, 1, 7] [] rfl rfl (σ := Nat) (fun k => [(8, .a (.v (I k)))]) (fun k => []) (fun k => k ≤ l.length ∧ idxS pr l 0 = idxS pr (l.drop k) k) (fun k => l.length - k) (0) (⟨by omega, rfl⟩) (by repeat (first | exact SubF.nil | refine SubF.cons rfl ?_)) (by repeat (first | exact SubO.nil | refine SubO.cons rfl ?_)) rfl ?_
  rintro k ⟨hk, heq⟩
  refine c_seq ?_
  refine c_region ?_
  refine o_yield rfl rfl rfl (y_val tok rfl) ?_
  refine o_end [0, 1, 7, 8, 9] rfl ?_
  refine x_then ?_
  refine c_seq ?_
  refine c_cond rfl (fun h => ?_) (fun h => ?_)
  ·
    simp only [Bool.and_eq_true, Bool.or_eq_true, Bool.not_eq_true', Bool.or_eq_false_iff, Bool.and_eq_false_iff, decide_eq_true_eq, decide_eq_false_iff_not, beq_iff_eq, bne_iff_ne, Bool.not_eq_false', beq_eq_false_iff_ne, bne_eq_false_iff_eq, ne_eq, Decidable.not_not, Int.not_lt, Int.not_le] at h
    refine c_skip ?_
    refine x_then ?_
    refine c_seq ?_
    refine c_block ?_
    refine c_seq ?_
    refine c_region ?_
    refine o_yield rfl rfl rfl (y_val tok rfl) ?_
    refine o_yield rfl rfl rfl (y_val tok rfl) ?_
    refine o_end [0, 1, 5, 7, 8] rfl ?_
    refine x_then ?_
    refine c_seq ?_
    refine c_region ?_
    refine o_yield rfl rfl rfl (y_val tok rfl) ?_
    refine o_yield rfl rfl rfl (y_val tok rfl) ?_
    refine o_yield rfl rfl rfl (y_val tok rfl) ?_
    obtain ⟨x, h_x⟩ := hs.at (k := k) (by omega)
    have hlt_x := lt_of_at h_x
    refine o_yield rfl rfl rfl (y_idx tok rfl (fun hg => hs.sl) (fun hg => ⟨by omega, by omega⟩)) ?_
    refine o_yield rfl rfl rfl (y_lel tok (k) 0 (x) rfl (fun hg => hs) (fun hg => h_x) rfl rfl) ?_
    rw [drop_at h_x, idxS] at heq
    refine o_callF (.a (.v _)) rfl rfl rfl rfl rfl (fun hg E w1 hm => by exact hf x w1 (hV.trans hm.leV)) ?_
    refine o_end [0, 1, 5, 7, 8, 16] rfl ?_
    refine x_then ?_
    refine c_cond rfl (fun h => ?_) (fun h => ?_)
    ·
      refine c_seq ?_
      refine c_region ?_
      refine o_yield rfl rfl rfl (y_val tok rfl) ?_
      refine o_yield rfl rfl rfl (y_val tok rfl) ?_
      refine o_end [4] rfl ?_
      refine x_then ?_
      refine c_ret ?_
      refine x_block_ret ?_
      refine x_then_ret ?_
      refine x_then_ret ?_
      refine x_block_ret ?_
      refine x_then_ret ?_
      refine b_ret tok rfl ?_
      rw [if_pos h] at heq
      intro E w' hm _
      refine ⟨?_, hm.below (Vw.le.refl _)⟩
      rw [heq]; rfl
    ·
      refine c_skip ?_
      refine x_block ?_
      refine x_then ?_
      refine c_region ?_
      refine o_yield rfl rfl rfl (y_val tok rfl) ?_
      refine o_yield rfl rfl rfl (y_val tok rfl) ?_
      refine o_end [0, 1, 7, 8] rfl ?_
      refine x_then ?_
      rw [if_neg (by simp [h])] at heq
      rw [wrapI (n := (k : Int) + 1) (by omega) (by omega)]
      refine x_round (k + 1) (⟨by omega, heq⟩) (by first | omega | (dsimp only; omega)) (by repeat (first | exact SubF.nil | refine SubF.cons rfl ?_)) (by repeat (first | exact SubO.nil | refine SubO.cons rfl ?_)) rfl (Vw.le.refl _)
  ·
    simp only [Bool.and_eq_true, Bool.or_eq_true, Bool.not_eq_true', Bool.or_eq_false_iff, Bool.and_eq_false_iff, decide_eq_true_eq, decide_eq_false_iff_not, beq_iff_eq, bne_iff_ne, Bool.not_eq_false', beq_eq_false_iff_ne, bne_eq_false_iff_eq, ne_eq, Decidable.not_not, Int.not_lt, Int.not_le] at h
    refine c_exit ?_
    refine x_then_exit ?_
    refine x_then_exit ?_
    refine x_block_hit ?_
    refine x_then ?_
    refine c_seq ?_
    refine c_region ?_
    refine o_yield rfl rfl rfl (y_val tok rfl) ?_
    refine o_end [4] rfl ?_
    refine x_then ?_
    refine c_ret ?_
    refine b_ret tok rfl ?_
    have hkL : k = l.length := by omega
    subst hkL
    rw [List.drop_length, idxS] at heq
    intro E w' hm _
    refine ⟨?_, hm.below (Vw.le.refl _)⟩
    rw [heq]; rfl

theorem contS_c (V : Vw) (fv sv : Value) (pr : ByteArray → Bool) (l : List ByteArray) (w : World) (hV : V.le (vw w)) (hs0 : SlOf V encS 1 sv l) (hn : l.length ≤ 9223372036854775807) (hf : TellsS V fv pr) :
    Calls Try.prog 76 #[sv, fv] w fun e w' => e = .returned (.bool (l.any pr)) ∧ Below w.heap.size w w' := by
  have hs := hs0.mono hV
  refine enter (E := E0) (O := []) (nl := 0) (V := vw w) [.a (.v sv), .a (.v fv)] Try.func76 rfl rfl (mem0 E0 0 w) rfl rfl ?_
  refine c_seq ?_
  refine c_region ?_
  refine o_yield rfl rfl rfl (y_val tok rfl) ?_
  refine o_end [0, 1] rfl ?_
  refine x_then ?_
  refine c_seq ?_
  refine c_region ?_
  refine o_yield rfl rfl rfl (y_val tok rfl) ?_
  refine o_yield rfl rfl rfl (y_val tok rfl) ?_
  refine o_call (.a (.v _)) rfl rfl fnok82 rfl rfl rfl (fun hg E w1 hm => by exact indexS_c V fv sv pr l _ (hV.trans hm.leV) hs0 hn hf) ?_
  refine o_yield rfl rfl rfl (y_val tok rfl) ?_
  refine o_yield rfl rfl rfl (y_val tok rfl) ?_
  refine o_end [4] rfl ?_
  refine x_then ?_
  refine c_ret ?_
  refine b_ret tok rfl ?_
  intro E w' hm _
  refine ⟨?_, hm.below (Vw.le.refl _)⟩
  rw [← idxS_any pr l 0]
  rfl

theorem shortFn_c (x : ByteArray) (w : World) : Calls Try.prog 77 #[S x] w fun e w' => e = .returned (.bool (decide (512 < (x.size : Int)))) ∧ Below w.heap.size w w' := by
  refine enter (E := E0) (O := []) (nl := 0) (V := vw w) [.a (.v (S x))] Try.func77 rfl rfl (mem0 E0 0 w) rfl rfl ?_
  refine c_seq ?_
  refine c_region ?_
  refine o_yield rfl rfl rfl (y_val tok rfl) ?_
  refine o_end [0] rfl ?_
  refine x_then ?_
  refine c_seq ?_
  refine c_region ?_
  refine o_yield rfl rfl rfl (y_val tok rfl) ?_
  refine o_yield rfl rfl rfl (y_val tok rfl) ?_
  refine o_yield rfl rfl rfl (y_val tok rfl) ?_
  refine o_yield rfl rfl rfl (y_val tok rfl) ?_
  refine o_end [2] rfl ?_
  refine x_then ?_
  refine c_ret ?_
  refine b_ret tok rfl ?_
  intro E w' hm _
  refine ⟨?_, hm.below (Vw.le.refl _)⟩
  rfl

def shortB (l : List ByteArray) : Bool := !(l.any fun x => decide (512 < (x.size : Int)))

theorem short_c (V : Vw) (sv : Value) (l : List ByteArray) (w : World) (hV : V.le (vw w)) (hs0 : SlOf V encS 1 sv l) (hn : l.length ≤ 9223372036854775807) :
    Calls Try.prog 66 #[sv] w fun e w' => e = .returned (.bool (shortB l)) ∧ Below w.heap.size w w' := by
  refine enter (E := E0) (O := []) (nl := 0) (V := vw w) [.a (.v sv)] Try.func66 rfl rfl (mem0 E0 0 w) rfl rfl ?_
  refine c_seq ?_
  refine c_region ?_
  refine o_yield rfl rfl rfl (y_val tok rfl) ?_
  refine o_end [0] rfl ?_
  refine x_then ?_
  refine c_seq ?_
  refine c_region ?_
  refine o_yield rfl rfl rfl (y_val tok rfl) ?_
  refine o_call (.a (.v _)) rfl rfl fnok76 rfl rfl rfl (fun hg E w1 hm => by exact contS_c V _ sv (fun x => decide (512 < (x.size : Int))) l _ (hV.trans hm.leV) hs0 hn (fun x w' hle => ⟨77, _, rfl, fnok77, shortFn_c x w'⟩)) ?_
  refine o_yield rfl rfl rfl (y_val tok rfl) ?_
  refine o_yield rfl rfl rfl (y_val tok rfl) ?_
  refine o_end [2] rfl ?_
  refine x_then ?_
  refine c_ret ?_
  refine b_ret tok rfl ?_
  intro E w' hm _
  refine ⟨?_, hm.below (Vw.le.refl _)⟩
  rfl

def givenB (d : Device) (key : Int) : Bool := decide (16 ≤ key) && decide (IntKind.i64.wrap (key.tdiv 16) < d.next_) && decide (key.tmod 16 < (d.keys.l.length : Int))

theorem wgiven_c (d : Device) (key : Int) (b : Nat) (w : World) (hb : w.heap[b]? = some (.cells d.cells.toArray 107 (0, 0))) (hk : SlOf ((vw w).del b) encI64 1 d.keys.v d.keys.l) :
    Calls Try.prog 68 #[.pointer (some ⟨b, 0, none⟩), I key] w fun e w' => e = .returned (.bool (givenB d key)) ∧ Below w.heap.size w w' := by
  have hs := hk
  refine enter1 [.a (.ptr 0 0), .a (.v (I key))] hb Try.func68 rfl rfl rfl rfl ?_
  refine c_seq ?_
  refine c_region ?_
  refine o_yield rfl rfl rfl (y_val tok rfl) ?_
  refine o_end [0, 1] rfl ?_
  refine x_then ?_
  refine c_seq ?_
  refine c_region ?_
  refine o_yield rfl rfl rfl (y_val tok rfl) ?_
  refine o_yield rfl rfl rfl (y_val tok rfl) ?_
  refine o_yield rfl rfl rfl (y_val tok rfl) ?_
  refine o_yield rfl rfl rfl (y_val tok rfl) ?_
  refine o_yield rfl rfl rfl (y_quo rfl (fun hg => by decide)) ?_
  refine o_yield rfl rfl rfl (y_val tok rfl) ?_
  refine o_yield rfl rfl rfl (y_val tok rfl) ?_
  refine o_yield rfl rfl rfl (y_val tok rfl) ?_
  refine o_yield rfl rfl rfl (y_val tok rfl) ?_
  refine o_yield rfl rfl rfl (y_val tok rfl) ?_
  refine o_yield rfl rfl rfl (y_val tok rfl) ?_
  refine o_yield rfl rfl rfl (y_val tok rfl) ?_
  refine o_yield rfl rfl rfl (y_val tok rfl) ?_
  refine o_yield rfl rfl rfl (y_val tok rfl) ?_
  refine o_yield rfl rfl rfl (y_rem rfl (fun hg => by decide)) ?_
  refine o_yield rfl rfl rfl (y_val tok rfl) ?_
  refine o_yield rfl rfl rfl (y_val tok rfl) ?_
  refine o_yield rfl rfl rfl (y_val tok rfl) ?_
  refine o_yield rfl rfl rfl (y_val tok rfl) ?_
  refine o_yield rfl rfl rfl (y_val tok rfl) ?_
  refine o_yield rfl rfl rfl (y_len tok rfl (fun hg => hs.sl)) ?_
  refine o_yield rfl rfl rfl (y_val tok rfl) ?_
  refine o_yield rfl rfl rfl (y_val tok rfl) ?_
  refine o_yield rfl rfl rfl (y_val tok rfl) ?_
  refine o_end [4] rfl ?_
  refine x_then ?_
  refine c_ret ?_
  refine b_ret tok rfl ?_
  intro E w' hm _
  exact ⟨rfl, below1 hb hm (Vw.le.refl _) rfl rfl rfl⟩

theorem refGiven_c (V : Vw) (d : Device) (key : Int) (w : World) (hV : V.le (vw w)) (hk : SlOf V encI64 1 d.keys.v d.keys.l) (ha : ∃ a n c, d.s.v = .slice a n c) (hc : ∃ a n c, d.cache.v = .slice a n c) (hf : ∃ a n c, d.fenced.v = .slice a n c) :
    Calls Try.prog 31 #[d.val, I key] w fun e w' => e = .returned (.bool (givenB d key)) ∧ Below w.heap.size w w' := by
  obtain ⟨⟨sv, sl⟩, ⟨cv, cl⟩, ⟨kv, kl⟩, nx, ⟨fv, fl⟩⟩ := d
  simp only at *
  obtain ⟨a1, n1, c1, rfl⟩ := ha
  obtain ⟨a2, n2, c2, rfl⟩ := hc
  obtain ⟨a3, n3, c3, rfl⟩ := hf
  obtain ⟨a4, n4, c4, rfl⟩ := sl_shape hk.sl
  have hs := hk.mono hV
  refine enter (E := E0) (O := []) (nl := 0) (V := vw w) [.a (.v (⟨⟨.slice a1 n1 c1, sl⟩, ⟨.slice a2 n2 c2, cl⟩, ⟨.slice a4 n4 c4, kl⟩, nx, ⟨.slice a3 n3 c3, fl⟩⟩ : Device).val), .a (.v (I key))] Try.func31 rfl rfl (mem0 E0 0 w) rfl rfl ?_
  refine c_seq ?_
  refine c_region ?_
  refine o_new tok rfl rfl rfl rfl ?_
  refine o_yield rfl rfl rfl (y_val tok rfl) ?_
  refine o_end [1, 2] rfl ?_
  refine x_then ?_
  refine c_seq ?_
  refine c_region ?_
  refine o_yield rfl rfl rfl (y_val tok rfl) ?_
  refine o_yield rfl rfl rfl (y_val tok rfl) ?_
  refine o_yield rfl rfl rfl (y_val tok rfl) ?_
  refine o_yield rfl rfl rfl (y_val tok rfl) ?_
  refine o_yield rfl rfl rfl (y_quo rfl (fun hg => by decide)) ?_
  refine o_yield rfl rfl rfl (y_val tok rfl) ?_
  refine o_yield rfl rfl rfl (y_val tok rfl) ?_
  refine o_yield rfl rfl rfl (y_val tok rfl) ?_
  refine o_yield rfl rfl rfl (y_val tok rfl) ?_
  refine o_yield rfl rfl rfl (y_val tok rfl) ?_
  refine o_yield rfl rfl rfl (y_val tok rfl) ?_
  refine o_yield rfl rfl rfl (y_rem rfl (fun hg => by decide)) ?_
  refine o_yield rfl rfl rfl (y_val tok rfl) ?_
  refine o_yield rfl rfl rfl (y_val tok rfl) ?_
  refine o_yield rfl rfl rfl (y_len tok rfl (fun hg => hs.sl)) ?_
  refine o_yield rfl rfl rfl (y_val tok rfl) ?_
  refine o_yield rfl rfl rfl (y_val tok rfl) ?_
  refine o_yield rfl rfl rfl (y_val tok rfl) ?_
  refine o_end [4] rfl ?_
  refine x_then ?_
  refine c_ret ?_
  refine b_ret tok rfl ?_
  intro E w' hm _
  refine ⟨?_, hm.below (Vw.le.refl _)⟩
  rfl
end Go.Proofs.Ytipmgnhbcaniiaa

/- A device's caches. -/
set_option linter.unusedVariables false
set_option linter.unusedSimpArgs false
set_option maxRecDepth 100000
namespace Go.Proofs.Ytipmgnhbcaniiaa
open Go Go.Eng Go.RowKit

def cacheF (n : Int) : List Int → List Cell → Bool
  | _, [] => true
  | seen, c :: r => decide (0 ≤ c.sector ∧ c.sector < n ∧ c.b.size ≤ 512 ∧ ¬ c.sector ∈ seen) && cacheF n (seen ++ [c.sector]) r

theorem cacheF_cons {n : Int} {seen : List Int} {c : Cell} {r : List Cell} : cacheF n seen (c :: r) = true ↔ (0 ≤ c.sector ∧ c.sector < n ∧ c.b.size ≤ 512 ∧ ¬ c.sector ∈ seen) ∧ cacheF n (seen ++ [c.sector]) r = true := by
  simp [cacheF]

def secs (l : List Cell) (i : Nat) : List Int := (l.take i).map Cell.sector
theorem secs_succ {l : List Cell} {i : Nat} {c : Cell} (h : l[i]? = some c) : secs l (i + 1) = secs l i ++ [c.sector] := by rw [secs, take_succ_at h, List.map_append]; rfl

theorem short_one (b : ByteArray) : shortB [b] = decide (b.size ≤ 512) := by
  rw [shortB, List.any_cons, List.any_nil, Bool.or_false, ← decide_not]
  congr 1
  simp
  omega

theorem wcache_c (d : Device) (lv : Value) (l : List Cell) (b : Nat) (w : World) (hb : w.heap[b]? = some (.cells d.cells.toArray 107 (0, 0))) (hl : SlOf ((vw w).del b) Cell.cells 2 lv l) (hS : SlOf ((vw w).del b) encS 1 d.s.v d.s.l) (hn : l.length ≤ maxLen) :
    Calls Try.prog 67 #[.pointer (some ⟨b, 0, none⟩), lv] w fun e w' => e = .returned (.bool (cacheF (d.s.l.length : Int) [] l)) ∧ Below w.heap.size w w' := by
  simp only [maxLen] at hn
  refine enter1 [.a (.ptr 0 0), .a (.v lv)] hb Try.func67 rfl rfl rfl rfl ?_
  refine c_seq ?_
  refine c_region ?_
  refine o_yield rfl rfl rfl (y_val tok rfl) ?_
  refine o_end [0, 1] rfl ?_
  refine x_then ?_
  refine c_seq ?_
  refine c_region ?_
  refine o_step rfl rfl rfl rfl rfl (s_mkMap rfl) (fun mb hmb => ?_)
  refine o_yield rfl rfl rfl (y_val tok rfl) ?_
  refine o_end [0, 1, 5] rfl ?_
  refine x_then ?_
  refine c_seq ?_
  refine c_seq ?_
  refine c_region ?_
  refine o_yield rfl rfl rfl (y_val tok rfl) ?_
  have hV0 : ((vw w).del b).le (((vw w).del b).put mb (mapOb [])) := Vw.put_le (Vw.le.refl _) hmb
  refine o_yield rfl rfl rfl (y_len tok rfl (fun hg => (hl.mono hV0).sl)) ?_
  refine o_yield rfl rfl rfl (y_val tok rfl) ?_
  refine o_end [0, 5, 9, 10, 11] rfl ?_
  refine x_then ?_
  refine c_block ?_
  refine c_loopV [0, 5, 9, 10] [0, 1, 2] rfl rfl (σ := Nat) (fun i => [(11, .a (.v (I i)))]) (fun i => [(0, .lit (d.cells.map .v) 107), (1, .pin 0 b), (2, .size w.heap.size)]) (fun i => (((vw w).del b).put mb (mapOb (secs l i)))) (fun i => i ≤ l.length ∧ cacheF (d.s.l.length : Int) [] l = cacheF (d.s.l.length : Int) (secs l i) (l.drop i)) (fun i => l.length - i) (0) (⟨by omega, rfl⟩) (by repeat (first | exact SubF.nil | refine SubF.cons rfl ?_)) (by repeat (first | exact SubO.nil | refine SubO.cons rfl ?_)) rfl (Vw.le.refl _) ?_
  rintro i ⟨hi, heq⟩
  have hVi : ((vw w).del b).le (((vw w).del b).put mb (mapOb (secs l i))) := Vw.put_le (Vw.le.refl _) hmb
  have hli := hl.mono hVi
  have hSi := hS.mono hVi
  refine c_seq ?_
  refine c_region ?_
  refine o_yield rfl rfl rfl (y_val tok rfl) ?_
  refine o_end [0, 5, 9, 10, 11, 12] rfl ?_
  refine x_then ?_
  refine c_seq ?_
  refine c_cond rfl (fun h => ?_) (fun h => ?_)
  ·
    simp only [Bool.and_eq_true, Bool.or_eq_true, Bool.not_eq_true', Bool.or_eq_false_iff, Bool.and_eq_false_iff, decide_eq_true_eq, decide_eq_false_iff_not, beq_iff_eq, bne_iff_ne, Bool.not_eq_false', beq_eq_false_iff_ne, bne_eq_false_iff_eq, ne_eq, Decidable.not_not, Int.not_lt, Int.not_le] at h
    refine c_skip ?_
    refine x_then ?_
    refine c_seq ?_
    refine c_block ?_
    refine c_seq ?_
    refine c_region ?_
    obtain ⟨x, h_x⟩ := hli.at (k := i) (by omega)
    have hlt_x := lt_of_at h_x
    refine o_yield rfl rfl rfl (y_idx tok rfl (fun hg => hli.sl) (fun hg => ⟨by omega, by omega⟩)) ?_
    refine o_yield rfl rfl rfl (y_lel tok (i) 0 (x) rfl (fun hg => hli) (fun hg => h_x) rfl rfl) ?_
    refine o_new tok rfl rfl rfl rfl ?_
    refine o_store tok rfl rfl rfl (by first | exact ⟨trivial, trivial⟩ | (repeat' first | exact trivial | exact rfl | apply And.intro); done | simp [onesP, oneP, lk, Value.oneCell']) ?_
    refine o_end [0, 5, 7, 9, 10, 11] rfl ?_
    refine x_then ?_
    refine c_seq ?_
    refine c_seq ?_
    refine c_heldR mixed rfl (by repeat (first | exact SubO.nil | refine SubO.cons rfl ?_)) (by first | rfl | simp [okCels, allOk_plain]) ?_
    refine t_take 0 rfl (by kernel_rfl) rfl rfl rfl (y_val tok rfl) rfl ?_
    refine t_take 1 rfl (by kernel_rfl) rfl rfl rfl (y_val tok rfl) rfl ?_
    refine t_take 2 rfl (by kernel_rfl) rfl rfl rfl (y_val tok rfl) rfl ?_
    refine t_take 3 rfl (by kernel_rfl) rfl rfl rfl (y_val tok rfl) rfl ?_
    refine t_take 4 rfl (by kernel_rfl) rfl rfl rfl (y_val tok rfl) rfl ?_
    refine t_take 5 rfl (by kernel_rfl) rfl rfl rfl (y_val tok rfl) rfl ?_
    refine t_take 6 rfl (by kernel_rfl) rfl rfl rfl (y_val tok rfl) rfl ?_
    refine t_take 7 rfl (by kernel_rfl) rfl rfl rfl (y_val tok rfl) rfl ?_
    refine t_take 8 rfl (by kernel_rfl) rfl rfl rfl (y_val tok rfl) rfl ?_
    refine t_take 9 rfl (by kernel_rfl) rfl rfl rfl (y_val tok rfl) rfl ?_
    refine t_take 10 rfl (by kernel_rfl) rfl rfl rfl (y_val tok rfl) rfl ?_
    rw [drop_at h_x] at heq
    refine t_take 11 rfl (by kernel_rfl) rfl rfl rfl (y_len tok rfl (fun hg => hSi.sl)) rfl ?_
    refine t_take 12 rfl (by kernel_rfl) rfl rfl rfl (y_val tok rfl) rfl ?_
    refine t_take 13 rfl (by kernel_rfl) rfl rfl rfl (y_val tok rfl) rfl ?_
    refine t_take 14 rfl (by kernel_rfl) rfl rfl rfl (y_val tok rfl) rfl ?_
    refine t_take 15 rfl (by kernel_rfl) rfl rfl rfl (y_val tok rfl) rfl ?_
    refine t_take 16 rfl (by kernel_rfl) rfl rfl rfl (y_val tok rfl) rfl ?_
    refine t_take 17 rfl (by kernel_rfl) rfl rfl rfl (y_val tok rfl) rfl ?_
    refine t_take 18 rfl (by kernel_rfl) rfl rfl rfl (y_lkp (secs l i) rfl Try.underlying141 Try.underlying3 (fun w => Try.zeroValue4 w) (fun hg => Vw.put_get _ _ _)) rfl ?_
    refine t_take 19 rfl (by kernel_rfl) rfl rfl rfl (y_val tok rfl) rfl ?_
    refine t_take 20 rfl (by kernel_rfl) rfl rfl rfl (y_val tok rfl) rfl ?_
    refine t_take 21 rfl (by kernel_rfl) rfl rfl rfl (y_val tok rfl) rfl ?_
    refine t_take 22 rfl (by kernel_rfl) rfl rfl rfl (y_val tok rfl) rfl ?_
    refine t_go ?_
    refine h_one 23 (by kernel_rfl) ?_
    refine h_bs 23 tok rfl rfl rfl rfl rfl (fun b1 W1 hlw1 hb1 => ?_)
    refine h_one 24 (by kernel_rfl) ?_
    refine h_call 24 (.a (.v _)) rfl rfl rfl fnok66 rfl rfl rfl (fun hg E w1 hm => by exact short_c W1 _ [x.b] _ hm.leV (SlOf.ofBlock (enc := encS) (sz := 1) (l := [x.b]) (hb1 hg) rfl (fun _ => rfl) (Nat.le_refl _)) (by simp)) ?_
    refine h_one 25 (by kernel_rfl) ?_
    refine h_yield 25 rfl rfl rfl rfl (y_val tok rfl) ?_
    refine h_one 26 (by kernel_rfl) ?_
    refine h_yield 26 rfl rfl rfl rfl (y_val tok rfl) ?_
    refine h_done [0, 5, 7, 9, 10, 11, 41] (by kernel_rfl) rfl ?_
    refine x_then ?_
    refine c_cond rfl (fun h => ?_) (fun h => ?_)
    ·
      simp only [Bool.and_eq_true, Bool.or_eq_true, Bool.not_eq_true', Bool.or_eq_false_iff, Bool.and_eq_false_iff, decide_eq_true_eq, decide_eq_false_iff_not, beq_iff_eq, bne_iff_ne, Bool.not_eq_false', beq_eq_false_iff_ne, bne_eq_false_iff_eq, ne_eq, Decidable.not_not, Int.not_lt, Int.not_le] at h
      refine c_seq ?_
      refine c_region ?_
      refine o_yield rfl rfl rfl (y_val tok rfl) ?_
      refine o_end [4] rfl ?_
      refine x_then ?_
      refine c_ret ?_
      refine x_then_ret ?_
      refine x_block_ret ?_
      refine x_then_ret ?_
      refine x_then_ret ?_
      refine x_block_ret ?_
      refine x_then_ret ?_
      refine b_ret tok rfl ?_
      have hno : cacheF (d.s.l.length : Int) (secs l i) (x :: l.drop (i + 1)) = false := by
        rw [Bool.eq_false_iff]
        intro hc
        obtain ⟨⟨h1, h2, h3, h4⟩, _⟩ := cacheF_cons.1 hc
        rw [short_one] at h
        simp [h4, h3] at h
        omega
      intro E w' hm _
      exact ⟨by rw [heq, hno]; rfl, below1 hb hm (hVi.trans hlw1) rfl rfl rfl⟩
    ·
      simp only [Bool.and_eq_true, Bool.or_eq_true, Bool.not_eq_true', Bool.or_eq_false_iff, Bool.and_eq_false_iff, decide_eq_true_eq, decide_eq_false_iff_not, beq_iff_eq, bne_iff_ne, Bool.not_eq_false', beq_eq_false_iff_ne, bne_eq_false_iff_eq, ne_eq, Decidable.not_not, Int.not_lt, Int.not_le] at h
      rw [short_one] at h
      simp at h
      have hcc : 0 ≤ x.sector ∧ x.sector < (d.s.l.length : Int) ∧ x.b.size ≤ 512 ∧ ¬ x.sector ∈ secs l i := ⟨by omega, by omega, h.2, h.1.2⟩
      have hyes : cacheF (d.s.l.length : Int) (secs l i) (x :: l.drop (i + 1)) = cacheF (d.s.l.length : Int) (secs l (i + 1)) (l.drop (i + 1)) := by
        rw [cacheF, decide_eq_true hcc, Bool.true_and, secs_succ h_x]
      clear h
      refine c_skip ?_
      refine x_then ?_
      refine c_region ?_
      refine o_yield rfl rfl rfl (y_val tok rfl) ?_
      refine o_yield rfl rfl rfl (y_val tok rfl) ?_
      refine o_yield rfl rfl rfl (y_val tok rfl) ?_
      refine o_stepN rfl rfl rfl rfl (s_mapSet (secs l i) rfl rfl Try.underlying141 Try.underlying3 hcc.2.2.2 (hlw1.get _ _ (Vw.put_get _ _ _))) (fun _ _ => ?_)
      refine o_end [0, 5, 9, 10, 11] rfl ?_
      refine x_block ?_
      refine x_then ?_
      refine c_region ?_
      refine o_yield rfl rfl rfl (y_val tok rfl) ?_
      refine o_yield rfl rfl rfl (y_val tok rfl) ?_
      refine o_end [0, 5, 9, 10, 11] rfl ?_
      refine x_then ?_
      rw [← secs_succ h_x, wrapI (n := (i : Int) + 1) (by omega) (by omega)]
      refine x_round (i + 1) (⟨by omega, by rw [heq, hyes]⟩) (by first | omega | (dsimp only; omega)) (by repeat (first | exact SubF.nil | refine SubF.cons rfl ?_)) (by repeat (first | exact SubO.nil | refine SubO.cons rfl ?_)) rfl (Vw.put_mono hlw1)
  ·
    simp only [Bool.and_eq_true, Bool.or_eq_true, Bool.not_eq_true', Bool.or_eq_false_iff, Bool.and_eq_false_iff, decide_eq_true_eq, decide_eq_false_iff_not, beq_iff_eq, bne_iff_ne, Bool.not_eq_false', beq_eq_false_iff_ne, bne_eq_false_iff_eq, ne_eq, Decidable.not_not, Int.not_lt, Int.not_le] at h
    refine c_exit ?_
    refine x_then_exit ?_
    refine x_then_exit ?_
    refine x_block_hit ?_
    refine x_then ?_
    refine c_seq ?_
    refine c_region ?_
    refine o_yield rfl rfl rfl (y_val tok rfl) ?_
    refine o_end [4] rfl ?_
    refine x_then ?_
    refine c_ret ?_
    refine b_ret tok rfl ?_
    have hkL : i = l.length := by omega
    subst hkL
    rw [List.drop_length, cacheF] at heq
    intro E w' hm _
    exact ⟨by rw [heq]; rfl, below1 hb hm hVi rfl rfl rfl⟩

theorem refCached_c (V : Vw) (lv : Value) (l : List Cell) (n : Int) (w : World) (hV : V.le (vw w)) (hl0 : SlOf V Cell.cells 2 lv l) (hn : l.length ≤ maxLen) :
    Calls Try.prog 50 #[lv, I n] w fun e w' => e = .returned (.bool (cacheF n [] l)) ∧ Below w.heap.size w w' := by
  have hl := hl0.mono hV
  simp only [maxLen] at hn
  refine enter (E := E0) (O := []) (nl := 0) (V := vw w) [.a (.v lv), .a (.v (I n))] Try.func50 rfl rfl (mem0 E0 0 w) rfl rfl ?_
  refine c_seq ?_
  refine c_region ?_
  refine o_yield rfl rfl rfl (y_val tok rfl) ?_
  refine o_end [0, 1] rfl ?_
  refine x_then ?_
  refine c_seq ?_
  refine c_seq ?_
  refine c_region ?_
  refine o_yield rfl rfl rfl (y_val tok rfl) ?_
  refine o_end [0, 1, 5] rfl ?_
  refine x_then ?_
  refine c_block ?_
  refine c_loopK [0, 1] [] rfl rfl (σ := Nat) (fun i => [(5, .a (.v (I i)))]) (fun i => []) (fun i => i ≤ l.length ∧ cacheF n [] l = cacheF n (secs l i) (l.drop i)) (fun i => l.length - i) (0) (⟨by omega, rfl⟩) (by repeat (first | exact SubF.nil | refine SubF.cons rfl ?_)) (by repeat (first | exact SubO.nil | refine SubO.cons rfl ?_)) rfl ?_
  rintro i ⟨hi, heq⟩
  refine c_seq ?_
  refine c_seq ?_
  refine c_region ?_
  refine o_yield rfl rfl rfl (y_val tok rfl) ?_
  refine o_yield rfl rfl rfl (y_val tok rfl) ?_
  refine o_yield rfl rfl rfl (y_len tok rfl (fun hg => hl.sl)) ?_
  refine o_yield rfl rfl rfl (y_val tok rfl) ?_
  refine o_end [0, 1, 5, 10] rfl ?_
  refine x_then ?_
  refine c_cond rfl (fun h => ?_) (fun h => ?_)
  ·
    simp only [Bool.and_eq_true, Bool.or_eq_true, Bool.not_eq_true', Bool.or_eq_false_iff, Bool.and_eq_false_iff, decide_eq_true_eq, decide_eq_false_iff_not, beq_iff_eq, bne_iff_ne, Bool.not_eq_false', beq_eq_false_iff_ne, bne_eq_false_iff_eq, ne_eq, Decidable.not_not, Int.not_lt, Int.not_le] at h
    refine c_skip ?_
    refine x_then ?_
    refine c_seq ?_
    refine c_block ?_
    refine c_seq ?_
    refine c_seq ?_
    refine c_region ?_
    refine o_yield rfl rfl rfl (y_val tok rfl) ?_
    refine o_yield rfl rfl rfl (y_val tok rfl) ?_
    obtain ⟨x, h_x⟩ := hl.at (k := i) (by omega)
    rw [drop_at h_x] at heq
    have hlt_x := lt_of_at h_x
    refine o_yield rfl rfl rfl (y_idx tok rfl (fun hg => hl.sl) (fun hg => ⟨by omega, by omega⟩)) ?_
    refine o_yield rfl rfl rfl (y_fel tok rfl (fun hg => hl.sl) (fun hg => by omega)) ?_
    refine o_yield rfl rfl rfl (y_lel tok (i) 0 (x) rfl (fun hg => hl) (fun hg => h_x) rfl rfl) ?_
    refine o_yield rfl rfl rfl (y_val tok rfl) ?_
    refine o_yield rfl rfl rfl (y_val tok rfl) ?_
    refine o_yield rfl rfl rfl (y_val tok rfl) ?_
    refine o_yield rfl rfl rfl (y_val tok rfl) ?_
    have hlt_x := lt_of_at h_x
    refine o_yield rfl rfl rfl (y_idx tok rfl (fun hg => hl.sl) (fun hg => ⟨by omega, by omega⟩)) ?_
    refine o_yield rfl rfl rfl (y_fel tok rfl (fun hg => hl.sl) (fun hg => by omega)) ?_
    refine o_yield rfl rfl rfl (y_lel tok (i) 0 (x) rfl (fun hg => hl) (fun hg => h_x) rfl rfl) ?_
    refine o_yield rfl rfl rfl (y_val tok rfl) ?_
    refine o_yield rfl rfl rfl (y_val tok rfl) ?_
    refine o_yield rfl rfl rfl (y_val tok rfl) ?_
    refine o_yield rfl rfl rfl (y_val tok rfl) ?_
    refine o_yield rfl rfl rfl (y_val tok rfl) ?_
    refine o_yield rfl rfl rfl (y_val tok rfl) ?_
    have hlt_x := lt_of_at h_x
    refine o_yield rfl rfl rfl (y_idx tok rfl (fun hg => hl.sl) (fun hg => ⟨by omega, by omega⟩)) ?_
    refine o_yield rfl rfl rfl (y_fel tok rfl (fun hg => hl.sl) (fun hg => by omega)) ?_
    refine o_yield rfl rfl rfl (y_lel tok (i) 1 (x) rfl (fun hg => hl) (fun hg => h_x) rfl rfl) ?_
    refine o_yield rfl rfl rfl (y_val tok rfl) ?_
    refine o_yield rfl rfl rfl (y_val tok rfl) ?_
    refine o_yield rfl rfl rfl (y_val tok rfl) ?_
    refine o_end [0, 1, 5, 36] rfl ?_
    refine x_then ?_
    refine c_cond rfl (fun h => ?_) (fun h => ?_)
    ·
      simp only [Bool.and_eq_true, Bool.or_eq_true, Bool.not_eq_true', Bool.or_eq_false_iff, Bool.and_eq_false_iff, decide_eq_true_eq, decide_eq_false_iff_not, beq_iff_eq, bne_iff_ne, Bool.not_eq_false', beq_eq_false_iff_ne, bne_eq_false_iff_eq, ne_eq, Decidable.not_not, Int.not_lt, Int.not_le] at h
      refine c_seq ?_
      refine c_region ?_
      refine o_yield rfl rfl rfl (y_val tok rfl) ?_
      refine o_end [4] rfl ?_
      refine x_then ?_
      refine c_ret ?_
      refine x_then_ret ?_
      refine x_block_ret ?_
      refine x_then_ret ?_
      refine x_then_ret ?_
      refine x_block_ret ?_
      refine x_then_ret ?_
      refine b_ret tok rfl ?_
      have hno : cacheF n (secs l i) (x :: l.drop (i + 1)) = false := by
        rw [Bool.eq_false_iff]
        intro hc
        obtain ⟨⟨h1, h2, h3, h4⟩, _⟩ := cacheF_cons.1 hc
        omega
      intro E w' hm _
      refine ⟨?_, hm.below (Vw.le.refl _)⟩
      rw [heq, hno]; rfl
    ·
      simp only [Bool.and_eq_true, Bool.or_eq_true, Bool.not_eq_true', Bool.or_eq_false_iff, Bool.and_eq_false_iff, decide_eq_true_eq, decide_eq_false_iff_not, beq_iff_eq, bne_iff_ne, Bool.not_eq_false', beq_eq_false_iff_ne, bne_eq_false_iff_eq, ne_eq, Decidable.not_not, Int.not_lt, Int.not_le] at h
      have h1 := h
      clear h
      refine c_skip ?_
      refine x_then ?_
      refine c_seq ?_
      refine c_region ?_
      refine o_yield rfl rfl rfl (y_val tok rfl) ?_
      refine o_end [0, 1, 5, 6] rfl ?_
      refine x_then ?_
      refine c_block ?_
      refine c_loopK [0, 1, 5] [] rfl rfl (σ := Nat) (fun k => [(6, .a (.v (I k)))]) (fun k => []) (fun k => k ≤ i ∧ ¬ x.sector ∈ secs l k) (fun k => i - k) (0) (⟨by omega, by simp [secs]⟩) (by repeat (first | exact SubF.nil | refine SubF.cons rfl ?_)) (by repeat (first | exact SubO.nil | refine SubO.cons rfl ?_)) rfl ?_
      rintro k ⟨hk, hnot⟩
      refine c_seq ?_
      refine c_seq ?_
      refine c_region ?_
      refine o_yield rfl rfl rfl (y_val tok rfl) ?_
      refine o_yield rfl rfl rfl (y_val tok rfl) ?_
      refine o_yield rfl rfl rfl (y_val tok rfl) ?_
      refine o_end [0, 1, 5, 6, 39] rfl ?_
      refine x_then ?_
      refine c_cond rfl (fun h => ?_) (fun h => ?_)
      ·
        simp only [Bool.and_eq_true, Bool.or_eq_true, Bool.not_eq_true', Bool.or_eq_false_iff, Bool.and_eq_false_iff, decide_eq_true_eq, decide_eq_false_iff_not, beq_iff_eq, bne_iff_ne, Bool.not_eq_false', beq_eq_false_iff_ne, bne_eq_false_iff_eq, ne_eq, Decidable.not_not, Int.not_lt, Int.not_le] at h
        refine c_skip ?_
        refine x_then ?_
        refine c_seq ?_
        refine c_block ?_
        refine c_seq ?_
        refine c_draw mixed (by kernel_rfl) ?_
        refine d_yield rfl rfl rfl (y_val tok rfl) rfl ?_
        refine d_yield rfl rfl rfl (y_val tok rfl) rfl ?_
        obtain ⟨y, h_y⟩ := hl.at (k := k) (by omega)
        have hlt_y := lt_of_at h_y
        refine d_yield rfl rfl rfl (y_idx tok rfl (fun hg => hl.sl) (fun hg => ⟨by omega, by omega⟩)) rfl ?_
        refine d_yield rfl rfl rfl (y_fel tok rfl (fun hg => hl.sl) (fun hg => by omega)) rfl ?_
        refine d_yield rfl rfl rfl (y_lel tok (k) 0 (y) rfl (fun hg => hl) (fun hg => h_y) rfl rfl) rfl ?_
        refine d_yield rfl rfl rfl (y_val tok rfl) rfl ?_
        refine d_yield rfl rfl rfl (y_val tok rfl) rfl ?_
        have hlt_x := lt_of_at h_x
        refine d_yield rfl rfl rfl (y_idx tok rfl (fun hg => hl.sl) (fun hg => ⟨by omega, by omega⟩)) rfl ?_
        refine d_yield rfl rfl rfl (y_fel tok rfl (fun hg => hl.sl) (fun hg => by omega)) rfl ?_
        refine d_yield rfl rfl rfl (y_lel tok (i) 0 (x) rfl (fun hg => hl) (fun hg => h_x) rfl rfl) rfl ?_
        refine d_yield rfl rfl rfl (y_val tok rfl) rfl ?_
        refine d_end [0, 1, 5, 6, 52] rfl ?_
        refine x_then ?_
        refine c_cond rfl (fun h => ?_) (fun h => ?_)
        ·
          simp only [Bool.and_eq_true, Bool.or_eq_true, Bool.not_eq_true', Bool.or_eq_false_iff, Bool.and_eq_false_iff, decide_eq_true_eq, decide_eq_false_iff_not, beq_iff_eq, bne_iff_ne, Bool.not_eq_false', beq_eq_false_iff_ne, bne_eq_false_iff_eq, ne_eq, Decidable.not_not, Int.not_lt, Int.not_le] at h
          refine c_seq ?_
          refine c_region ?_
          refine o_yield rfl rfl rfl (y_val tok rfl) ?_
          refine o_end [4] rfl ?_
          refine x_then ?_
          refine c_ret ?_
          refine x_block_ret ?_
          refine x_then_ret ?_
          refine x_then_ret ?_
          refine x_block_ret ?_
          refine x_block_ret ?_
          refine x_then_ret ?_
          refine x_then_ret ?_
          refine x_block_ret ?_
          refine x_then_ret ?_
          refine b_ret tok rfl ?_
          have hmem : x.sector ∈ secs l i := by
            rw [secs, List.mem_map]
            refine ⟨y, ?_, h⟩
            have : (l.take i)[k]? = some y := by rw [List.getElem?_take, if_pos (by omega)]; exact h_y
            exact List.mem_of_getElem? this
          have hno : cacheF n (secs l i) (x :: l.drop (i + 1)) = false := by
            rw [Bool.eq_false_iff]
            intro hc
            exact (cacheF_cons.1 hc).1.2.2.2 hmem
          intro E w' hm _
          refine ⟨?_, hm.below (Vw.le.refl _)⟩
          rw [heq, hno]; rfl
        ·
          simp only [Bool.and_eq_true, Bool.or_eq_true, Bool.not_eq_true', Bool.or_eq_false_iff, Bool.and_eq_false_iff, decide_eq_true_eq, decide_eq_false_iff_not, beq_iff_eq, bne_iff_ne, Bool.not_eq_false', beq_eq_false_iff_ne, bne_eq_false_iff_eq, ne_eq, Decidable.not_not, Int.not_lt, Int.not_le] at h
          refine c_skip ?_
          refine x_block ?_
          refine x_then ?_
          refine c_region ?_
          refine o_yield rfl rfl rfl (y_val tok rfl) ?_
          refine o_yield rfl rfl rfl (y_val tok rfl) ?_
          refine o_yield rfl rfl rfl (y_val tok rfl) ?_
          refine o_end [0, 1, 5, 6] rfl ?_
          refine x_then ?_
          rw [wrapI (n := (k : Int) + 1) (by omega) (by omega)]
          refine x_round (k + 1) (⟨by omega, by rw [secs_succ h_y]; simp; exact ⟨hnot, fun hc => h hc.symm⟩⟩) (by first | omega | (dsimp only; omega)) (by repeat (first | exact SubF.nil | refine SubF.cons rfl ?_)) (by repeat (first | exact SubO.nil | refine SubO.cons rfl ?_)) rfl (Vw.le.refl _)
      ·
        simp only [Bool.and_eq_true, Bool.or_eq_true, Bool.not_eq_true', Bool.or_eq_false_iff, Bool.and_eq_false_iff, decide_eq_true_eq, decide_eq_false_iff_not, beq_iff_eq, bne_iff_ne, Bool.not_eq_false', beq_eq_false_iff_ne, bne_eq_false_iff_eq, ne_eq, Decidable.not_not, Int.not_lt, Int.not_le] at h
        refine c_exit ?_
        refine x_then_exit ?_
        refine x_then_exit ?_
        refine x_block_hit ?_
        refine x_block ?_
        refine x_then ?_
        refine c_region ?_
        refine o_yield rfl rfl rfl (y_val tok rfl) ?_
        refine o_yield rfl rfl rfl (y_val tok rfl) ?_
        refine o_yield rfl rfl rfl (y_val tok rfl) ?_
        refine o_end [0, 1, 5] rfl ?_
        refine x_then ?_
        have hki : k = i := by omega
        subst hki
        have hcc : 0 ≤ x.sector ∧ x.sector < n ∧ x.b.size ≤ 512 ∧ ¬ x.sector ∈ secs l k := ⟨by omega, by omega, by omega, hnot⟩
        have hyes : cacheF n (secs l k) (x :: l.drop (k + 1)) = cacheF n (secs l (k + 1)) (l.drop (k + 1)) := by
          rw [cacheF, decide_eq_true hcc, Bool.true_and, secs_succ h_x]
        rw [wrapI (n := (k : Int) + 1) (by omega) (by omega)]
        refine x_round (k + 1) (⟨by omega, by rw [heq, hyes]⟩) (by first | omega | (dsimp only; omega)) (by repeat (first | exact SubF.nil | refine SubF.cons rfl ?_)) (by repeat (first | exact SubO.nil | refine SubO.cons rfl ?_)) rfl (Vw.le.refl _)
  ·
    simp only [Bool.and_eq_true, Bool.or_eq_true, Bool.not_eq_true', Bool.or_eq_false_iff, Bool.and_eq_false_iff, decide_eq_true_eq, decide_eq_false_iff_not, beq_iff_eq, bne_iff_ne, Bool.not_eq_false', beq_eq_false_iff_ne, bne_eq_false_iff_eq, ne_eq, Decidable.not_not, Int.not_lt, Int.not_le] at h
    refine c_exit ?_
    refine x_then_exit ?_
    refine x_then_exit ?_
    refine x_block_hit ?_
    refine x_then ?_
    refine c_seq ?_
    refine c_region ?_
    refine o_yield rfl rfl rfl (y_val tok rfl) ?_
    refine o_end [4] rfl ?_
    refine x_then ?_
    refine c_ret ?_
    refine b_ret tok rfl ?_
    have hkL : i = l.length := by omega
    subst hkL
    rw [List.drop_length, cacheF] at heq
    intro E w' hm _
    refine ⟨?_, hm.below (Vw.le.refl _)⟩
    rw [heq]; rfl
end Go.Proofs.Ytipmgnhbcaniiaa

/- Whether a device may be: the program's. -/
set_option linter.unusedVariables false
set_option linter.unusedSimpArgs false
set_option maxRecDepth 100000
namespace Go.Proofs.Ytipmgnhbcaniiaa
open Go Go.Eng Go.RowKit

structure DevIn (V : Vw) (d : Device) : Prop where
  s : SlOf V encS 1 d.s.v d.s.l
  sn : d.s.l.length ≤ maxLen
  cache : SlOf V Sl.enc 1 d.cache.v d.cache.l
  cn : d.cache.l.length ≤ maxLen
  ca : ∀ c ∈ d.cache.l, SlOf V Cell.cells 2 c.v c.l ∧ c.l.length ≤ maxLen
  keys : SlOf V encI64 1 d.keys.v d.keys.l
  kn : d.keys.l.length ≤ maxLen
  fenced : SlOf V encI64 1 d.fenced.v d.fenced.l
  fn : d.fenced.l.length ≤ maxLen

theorem DevIn.mono {V V' : Vw} {d : Device} (h : DevIn V d) (hle : V.le V') : DevIn V' d :=
  ⟨h.s.mono hle, h.sn, h.cache.mono hle, h.cn, fun c hc => ⟨(h.ca c hc).1.mono hle, (h.ca c hc).2⟩, h.keys.mono hle, h.kn, h.fenced.mono hle, h.fn⟩

theorem DevIn.of {V : Vw} {d : Device} (h : Device.Ok V d) : DevIn V d :=
  ⟨h.s.sl, h.s.max, h.cache.sl, h.cache.max, fun c hc => ⟨(h.cache.all c hc).sl, (h.cache.all c hc).max⟩, h.keys.sl, h.keys.max, h.fenced.sl, h.fenced.max⟩

def headB (d : Device) : Bool := decide (0 < d.s.l.length) && (shortB d.s.l && decide (0 < d.keys.l.length ∧ d.keys.l.length ≤ 16 ∧ d.cache.l.length = d.keys.l.length ∧ 1 ≤ d.next_ ∧ d.next_ ≤ 68719476736))

def keyOkB (d : Device) (i : Nat) (k : Int) (c : Sl Cell) : Bool := cacheF (d.s.l.length : Int) [] c.l && (decide (k = 0) || (givenB d k && decide (k.tmod 16 = (i : Int))))

def keysF (d : Device) : Nat → List Int → List (Sl Cell) → Bool
  | i, k :: ks, c :: cs => keyOkB d i k c && keysF d (i + 1) ks cs
  | _, _, _ => true

def fenF (d : Device) : Int → List Int → Bool
  | _, [] => true
  | last, k :: r => (decide (last < k) && givenB d k) && fenF d k r

def checkB (d : Device) : Bool := headB d && (keysF d 0 d.keys.l d.cache.l && fenF d 0 d.fenced.l)

def lastI (l : List Int) : Nat → Int
  | 0 => 0
  | i + 1 => l.getD i 0
theorem lastI_succ {l : List Int} {i : Nat} {k : Int} (h : l[i]? = some k) : lastI l (i + 1) = k := by simp [lastI, List.getD, h]

theorem wmay_c (d : Device) (b : Nat) (w : World) (hb : w.heap[b]? = some (.cells d.cells.toArray 107 (0, 0))) (hd : DevIn ((vw w).del b) d) :
    Calls Try.prog 55 #[.pointer (some ⟨b, 0, none⟩)] w fun e w' => e = .returned (.bool (checkB d)) ∧ Below w.heap.size w w' := by
  have hsn := hd.sn
  have hcn := hd.cn
  have hkn := hd.kn
  have hfn := hd.fn
  simp only [maxLen] at hsn hcn hkn hfn
  refine enter1 [.a (.ptr 0 0)] hb Try.func55 rfl rfl rfl rfl ?_
  refine c_seq ?_
  refine c_region ?_
  refine o_yield rfl rfl rfl (y_val tok rfl) ?_
  refine o_end [0] rfl ?_
  refine x_then ?_
  refine c_seq ?_
  refine c_seq ?_
  refine c_draw mixed (by kernel_rfl) ?_
  refine d_yield rfl rfl rfl (y_val tok rfl) rfl ?_
  refine d_yield rfl rfl rfl (y_val tok rfl) rfl ?_
  refine d_yield rfl rfl rfl (y_val tok rfl) rfl ?_
  refine d_yield rfl rfl rfl (y_val tok rfl) rfl ?_
  refine d_yield rfl rfl rfl (y_val tok rfl) rfl ?_
  refine d_yield rfl rfl rfl (y_len tok rfl (fun hg => hd.s.sl)) rfl ?_
  refine d_yield rfl rfl rfl (y_val tok rfl) rfl ?_
  refine d_yield rfl rfl rfl (y_val tok rfl) rfl ?_
  refine d_yield rfl rfl rfl (y_val tok rfl) rfl ?_
  refine d_yield rfl rfl rfl (y_val tok rfl) rfl ?_
  refine d_yield rfl rfl rfl (y_val tok rfl) rfl ?_
  refine d_yield rfl rfl rfl (y_val tok rfl) rfl ?_
  refine d_yield rfl rfl rfl (y_val tok rfl) rfl ?_
  refine d_call (.a (.v _)) rfl rfl fnok66 rfl rfl rfl (fun hg E w1 hm => by exact short_c ((vw w).del b) _ d.s.l _ hm.leV hd.s (by omega)) ?_
  refine d_yield rfl rfl rfl (y_val tok rfl) rfl ?_
  refine d_yield rfl rfl rfl (y_val tok rfl) rfl ?_
  refine d_yield rfl rfl rfl (y_val tok rfl) rfl ?_
  refine d_yield rfl rfl rfl (y_val tok rfl) rfl ?_
  refine d_yield rfl rfl rfl (y_val tok rfl) rfl ?_
  refine d_yield rfl rfl rfl (y_val tok rfl) rfl ?_
  refine d_yield rfl rfl rfl (y_val tok rfl) rfl ?_
  refine d_yield rfl rfl rfl (y_val tok rfl) rfl ?_
  refine d_yield rfl rfl rfl (y_len tok rfl (fun hg => hd.keys.sl)) rfl ?_
  refine d_yield rfl rfl rfl (y_val tok rfl) rfl ?_
  refine d_yield rfl rfl rfl (y_val tok rfl) rfl ?_
  refine d_yield rfl rfl rfl (y_val tok rfl) rfl ?_
  refine d_yield rfl rfl rfl (y_val tok rfl) rfl ?_
  refine d_yield rfl rfl rfl (y_val tok rfl) rfl ?_
  refine d_yield rfl rfl rfl (y_val tok rfl) rfl ?_
  refine d_yield rfl rfl rfl (y_val tok rfl) rfl ?_
  refine d_yield rfl rfl rfl (y_val tok rfl) rfl ?_
  refine d_yield rfl rfl rfl (y_len tok rfl (fun hg => hd.keys.sl)) rfl ?_
  refine d_yield rfl rfl rfl (y_val tok rfl) rfl ?_
  refine d_yield rfl rfl rfl (y_val tok rfl) rfl ?_
  refine d_yield rfl rfl rfl (y_val tok rfl) rfl ?_
  refine d_yield rfl rfl rfl (y_val tok rfl) rfl ?_
  refine d_yield rfl rfl rfl (y_val tok rfl) rfl ?_
  refine d_yield rfl rfl rfl (y_val tok rfl) rfl ?_
  refine d_yield rfl rfl rfl (y_val tok rfl) rfl ?_
  refine d_yield rfl rfl rfl (y_val tok rfl) rfl ?_
  refine d_yield rfl rfl rfl (y_len tok rfl (fun hg => hd.cache.sl)) rfl ?_
  refine d_yield rfl rfl rfl (y_val tok rfl) rfl ?_
  refine d_yield rfl rfl rfl (y_val tok rfl) rfl ?_
  refine d_yield rfl rfl rfl (y_val tok rfl) rfl ?_
  refine d_yield rfl rfl rfl (y_val tok rfl) rfl ?_
  refine d_yield rfl rfl rfl (y_val tok rfl) rfl ?_
  refine d_yield rfl rfl rfl (y_len tok rfl (fun hg => hd.keys.sl)) rfl ?_
  refine d_yield rfl rfl rfl (y_val tok rfl) rfl ?_
  refine d_yield rfl rfl rfl (y_val tok rfl) rfl ?_
  refine d_yield rfl rfl rfl (y_val tok rfl) rfl ?_
  refine d_yield rfl rfl rfl (y_val tok rfl) rfl ?_
  refine d_yield rfl rfl rfl (y_val tok rfl) rfl ?_
  refine d_yield rfl rfl rfl (y_val tok rfl) rfl ?_
  refine d_yield rfl rfl rfl (y_val tok rfl) rfl ?_
  refine d_yield rfl rfl rfl (y_val tok rfl) rfl ?_
  refine d_yield rfl rfl rfl (y_val tok rfl) rfl ?_
  refine d_yield rfl rfl rfl (y_val tok rfl) rfl ?_
  refine d_yield rfl rfl rfl (y_val tok rfl) rfl ?_
  refine d_yield rfl rfl rfl (y_val tok rfl) rfl ?_
  refine d_yield rfl rfl rfl (y_val tok rfl) rfl ?_
  refine d_yield rfl rfl rfl (y_val tok rfl) rfl ?_
  refine d_yield rfl rfl rfl (y_val tok rfl) rfl ?_
  refine d_yield rfl rfl rfl (y_val tok rfl) rfl ?_
  refine d_yield rfl rfl rfl (y_val tok rfl) rfl ?_
  refine d_yield rfl rfl rfl (y_val tok rfl) rfl ?_
  refine d_end [0, 72] rfl ?_
  refine x_then ?_
  refine c_cond rfl (fun h => ?_) (fun h => ?_)
  ·
    simp only [Bool.and_eq_true, Bool.or_eq_true, Bool.not_eq_true', Bool.or_eq_false_iff, Bool.and_eq_false_iff, decide_eq_true_eq, decide_eq_false_iff_not, beq_iff_eq, bne_iff_ne, Bool.not_eq_false', beq_eq_false_iff_ne, bne_eq_false_iff_eq, ne_eq, Decidable.not_not, Int.not_lt, Int.not_le] at h
    refine c_seq ?_
    refine c_region ?_
    refine o_yield rfl rfl rfl (y_val tok rfl) ?_
    refine o_end [2] rfl ?_
    refine x_then ?_
    refine c_ret ?_
    refine x_then_ret ?_
    refine b_ret tok rfl ?_
    have hno : headB d = false := by
      rw [Bool.eq_false_iff]
      intro hc
      simp only [headB, Bool.and_eq_true, decide_eq_true_eq] at hc
      obtain ⟨c1, c2, c3, c4, c5, c6, c7⟩ := hc
      rw [c2] at h
      simp only [Bool.true_eq_false, or_false] at h
      omega
    intro E w' hm _
    exact ⟨by rw [checkB, hno]; rfl, below1 hb hm (Vw.le.refl _) rfl rfl rfl⟩
  ·
    simp only [Bool.and_eq_true, Bool.or_eq_true, Bool.not_eq_true', Bool.or_eq_false_iff, Bool.and_eq_false_iff, decide_eq_true_eq, decide_eq_false_iff_not, beq_iff_eq, bne_iff_ne, Bool.not_eq_false', beq_eq_false_iff_ne, bne_eq_false_iff_eq, ne_eq, Decidable.not_not, Int.not_lt, Int.not_le] at h
    have hh : headB d = true := by
      simp only [headB, Bool.and_eq_true, decide_eq_true_eq]
      obtain ⟨⟨⟨⟨⟨⟨h1, h2⟩, h3⟩, h4⟩, h5⟩, h6⟩, h7⟩ := h
      exact ⟨by omega, h2, by omega, by omega, by omega, by omega, by omega⟩
    have hch : checkB d = (keysF d 0 d.keys.l d.cache.l && fenF d 0 d.fenced.l) := by rw [checkB, hh, Bool.true_and]
    simp only [headB, Bool.and_eq_true, decide_eq_true_eq] at hh
    obtain ⟨_, _, hk0, hk16, hck, _, _⟩ := hh
    clear h
    refine c_skip ?_
    refine x_then ?_
    refine c_seq ?_
    refine c_seq ?_
    refine c_region ?_
    refine o_yield rfl rfl rfl (y_val tok rfl) ?_
    refine o_yield rfl rfl rfl (y_val tok rfl) ?_
    refine o_yield rfl rfl rfl (y_val tok rfl) ?_
    refine o_yield rfl rfl rfl (y_val tok rfl) ?_
    refine o_yield rfl rfl rfl (y_val tok rfl) ?_
    refine o_yield rfl rfl rfl (y_len tok rfl (fun hg => hd.keys.sl)) ?_
    refine o_yield rfl rfl rfl (y_val tok rfl) ?_
    refine o_end [0, 77, 78, 79] rfl ?_
    refine x_then ?_
    refine c_block ?_
    refine c_loopK [0, 77, 78] [0, 1, 2] rfl rfl (σ := Nat) (fun i => [(79, .a (.v (I i)))]) (fun i => [(0, .lit (d.cells.map .v) 107), (1, .pin 0 b), (2, .size w.heap.size)]) (fun i => i ≤ d.keys.l.length ∧ keysF d 0 d.keys.l d.cache.l = keysF d i (d.keys.l.drop i) (d.cache.l.drop i)) (fun i => d.keys.l.length - i) (0) (⟨by omega, rfl⟩) (by repeat (first | exact SubF.nil | refine SubF.cons rfl ?_)) (by repeat (first | exact SubO.nil | refine SubO.cons rfl ?_)) rfl ?_
    rintro i ⟨hi, heq⟩
    refine c_seq ?_
    refine c_region ?_
    refine o_yield rfl rfl rfl (y_val tok rfl) ?_
    refine o_end [0, 77, 78, 79, 80] rfl ?_
    refine x_then ?_
    refine c_seq ?_
    refine c_cond rfl (fun h => ?_) (fun h => ?_)
    ·
      simp only [Bool.and_eq_true, Bool.or_eq_true, Bool.not_eq_true', Bool.or_eq_false_iff, Bool.and_eq_false_iff, decide_eq_true_eq, decide_eq_false_iff_not, beq_iff_eq, bne_iff_ne, Bool.not_eq_false', beq_eq_false_iff_ne, bne_eq_false_iff_eq, ne_eq, Decidable.not_not, Int.not_lt, Int.not_le] at h
      refine c_skip ?_
      refine x_then ?_
      refine c_seq ?_
      refine c_block ?_
      refine c_seq ?_
      refine c_region ?_
      refine o_yield rfl rfl rfl (y_val tok rfl) ?_
      obtain ⟨k, h_k⟩ := hd.keys.at (k := i) (by omega)
      obtain ⟨c, h_c⟩ := hd.cache.at (k := i) (by omega)
      obtain ⟨hcs, hcl⟩ := hd.ca c (List.mem_of_getElem? h_c)
      rw [drop_at h_k, drop_at h_c, keysF] at heq
      have hlt_k := lt_of_at h_k
      refine o_yield rfl rfl rfl (y_idx tok rfl (fun hg => hd.keys.sl) (fun hg => ⟨by omega, by omega⟩)) ?_
      refine o_yield rfl rfl rfl (y_lel tok (i) 0 (k) rfl (fun hg => hd.keys) (fun hg => h_k) rfl rfl) ?_
      refine o_yield rfl rfl rfl (y_val tok rfl) ?_
      refine o_yield rfl rfl rfl (y_val tok rfl) ?_
      refine o_end [0, 3, 4, 77, 78, 79] rfl ?_
      refine x_then ?_
      refine c_seq ?_
      refine c_region ?_
      refine o_yield rfl rfl rfl (y_val tok rfl) ?_
      refine o_yield rfl rfl rfl (y_val tok rfl) ?_
      refine o_yield rfl rfl rfl (y_val tok rfl) ?_
      refine o_yield rfl rfl rfl (y_val tok rfl) ?_
      refine o_yield rfl rfl rfl (y_val tok rfl) ?_
      refine o_yield rfl rfl rfl (y_val tok rfl) ?_
      refine o_yield rfl rfl rfl (y_val tok rfl) ?_
      have hlt_c := lt_of_at h_c
      refine o_yield rfl rfl rfl (y_idx tok rfl (fun hg => hd.cache.sl) (fun hg => ⟨by omega, by omega⟩)) ?_
      refine o_yield rfl rfl rfl (y_lel tok (i) 0 (c) rfl (fun hg => hd.cache) (fun hg => h_c) rfl rfl) ?_
      refine o_call (.a (.v _)) rfl rfl fnok67 rfl rfl rfl (fun hg E w1 hm => by exact wcache_c d c.v c.l _ _ (hm.lit 0 _ _ rfl) (hcs.mono (hm.leDel (l := 0) rfl)) (hd.s.mono (hm.leDel (l := 0) rfl)) hcl) ?_
      refine o_yield rfl rfl rfl (y_val tok rfl) ?_
      refine o_yield rfl rfl rfl (y_val tok rfl) ?_
      refine o_yield rfl rfl rfl (y_val tok rfl) ?_
      refine o_yield rfl rfl rfl (y_val tok rfl) ?_
      refine o_yield rfl rfl rfl (y_val tok rfl) ?_
      refine o_yield rfl rfl rfl (y_val tok rfl) ?_
      refine o_yield rfl rfl rfl (y_val tok rfl) ?_
      refine o_call (.a (.v _)) rfl rfl fnok68 rfl rfl rfl (fun hg E w1 hm => by exact wgiven_c d k _ _ (hm.lit 0 _ _ rfl) (hd.keys.mono (hm.leDel (l := 0) rfl))) ?_
      refine o_yield rfl rfl rfl (y_val tok rfl) ?_
      refine o_yield rfl rfl rfl (y_val tok rfl) ?_
      refine o_yield rfl rfl rfl (y_val tok rfl) ?_
      refine o_yield rfl rfl rfl (y_rem rfl (fun hg => by decide)) ?_
      refine o_yield rfl rfl rfl (y_val tok rfl) ?_
      refine o_yield rfl rfl rfl (y_val tok rfl) ?_
      refine o_yield rfl rfl rfl (y_val tok rfl) ?_
      refine o_yield rfl rfl rfl (y_val tok rfl) ?_
      refine o_yield rfl rfl rfl (y_val tok rfl) ?_
      refine o_end [0, 77, 78, 79, 110] rfl ?_
      refine x_then ?_
      refine c_cond rfl (fun h => ?_) (fun h => ?_)
      ·
        simp only [Bool.and_eq_true, Bool.or_eq_true, Bool.not_eq_true', Bool.or_eq_false_iff, Bool.and_eq_false_iff, decide_eq_true_eq, decide_eq_false_iff_not, beq_iff_eq, bne_iff_ne, Bool.not_eq_false', beq_eq_false_iff_ne, bne_eq_false_iff_eq, ne_eq, Decidable.not_not, Int.not_lt, Int.not_le] at h
        refine c_seq ?_
        refine c_region ?_
        refine o_yield rfl rfl rfl (y_val tok rfl) ?_
        refine o_end [2] rfl ?_
        refine x_then ?_
        refine c_ret ?_
        refine x_block_ret ?_
        refine x_then_ret ?_
        refine x_then_ret ?_
        refine x_block_ret ?_
        refine x_then_ret ?_
        refine b_ret tok rfl ?_
        have hno : keyOkB d i k c = false := by
          rw [Bool.eq_false_iff]
          intro hc
          simp only [keyOkB, Bool.and_eq_true, Bool.or_eq_true, decide_eq_true_eq] at hc
          rcases h with h | ⟨h1, h2⟩
          · rw [hc.1] at h; cases h
          · rcases hc.2 with h3 | ⟨h3, h4⟩
            · exact h1 h3
            · rw [h3] at h2; simp only [Bool.true_eq_false, false_or] at h2; exact h2 h4
        intro E w' hm _
        exact ⟨by rw [hch, heq, hno]; rfl, below1 hb hm (Vw.le.refl _) rfl rfl rfl⟩
      ·
        simp only [Bool.and_eq_true, Bool.or_eq_true, Bool.not_eq_true', Bool.or_eq_false_iff, Bool.and_eq_false_iff, decide_eq_true_eq, decide_eq_false_iff_not, beq_iff_eq, bne_iff_ne, Bool.not_eq_false', beq_eq_false_iff_ne, bne_eq_false_iff_eq, ne_eq, Decidable.not_not, Int.not_lt, Int.not_le] at h
        refine c_skip ?_
        refine x_block ?_
        refine x_then ?_
        refine c_region ?_
        refine o_yield rfl rfl rfl (y_val tok rfl) ?_
        refine o_yield rfl rfl rfl (y_val tok rfl) ?_
        refine o_end [0, 77, 78, 79] rfl ?_
        refine x_then ?_
        have hyes : keyOkB d i k c = true := by
          simp only [keyOkB, Bool.and_eq_true, Bool.or_eq_true, decide_eq_true_eq]
          exact ⟨h.1, h.2⟩
        rw [hyes, Bool.true_and] at heq
        rw [wrapI (n := (i : Int) + 1) (by omega) (by omega)]
        refine x_round (i + 1) (⟨by omega, heq⟩) (by first | omega | (dsimp only; omega)) (by repeat (first | exact SubF.nil | refine SubF.cons rfl ?_)) (by repeat (first | exact SubO.nil | refine SubO.cons rfl ?_)) rfl (Vw.le.refl _)
    ·
      simp only [Bool.and_eq_true, Bool.or_eq_true, Bool.not_eq_true', Bool.or_eq_false_iff, Bool.and_eq_false_iff, decide_eq_true_eq, decide_eq_false_iff_not, beq_iff_eq, bne_iff_ne, Bool.not_eq_false', beq_eq_false_iff_ne, bne_eq_false_iff_eq, ne_eq, Decidable.not_not, Int.not_lt, Int.not_le] at h
      refine c_exit ?_
      refine x_then_exit ?_
      refine x_then_exit ?_
      refine x_block_hit ?_
      refine x_then ?_
      refine c_seq ?_
      refine c_region ?_
      refine o_yield rfl rfl rfl (y_val tok rfl) ?_
      refine o_end [0, 5] rfl ?_
      refine x_then ?_
      refine c_seq ?_
      refine c_seq ?_
      refine c_region ?_
      refine o_yield rfl rfl rfl (y_val tok rfl) ?_
      refine o_yield rfl rfl rfl (y_val tok rfl) ?_
      refine o_yield rfl rfl rfl (y_val tok rfl) ?_
      refine o_yield rfl rfl rfl (y_val tok rfl) ?_
      refine o_yield rfl rfl rfl (y_val tok rfl) ?_
      have hkL : i = d.keys.l.length := by omega
      have hkeys : keysF d 0 d.keys.l d.cache.l = true := by rw [heq, hkL, List.drop_length]; rfl
      rw [hkeys, Bool.true_and] at hch
      refine o_yield rfl rfl rfl (y_len tok rfl (fun hg => hd.fenced.sl)) ?_
      refine o_yield rfl rfl rfl (y_val tok rfl) ?_
      refine o_end [0, 5, 116, 117, 118] rfl ?_
      refine x_then ?_
      refine c_block ?_
      refine c_loopK [0, 116, 117] [0, 1, 2] rfl rfl (σ := Nat) (fun j => [(5, .a (.v (I (lastI d.fenced.l j)))), (118, .a (.v (I j)))]) (fun j => [(0, .lit (d.cells.map .v) 107), (1, .pin 0 b), (2, .size w.heap.size)]) (fun j => j ≤ d.fenced.l.length ∧ fenF d 0 d.fenced.l = fenF d (lastI d.fenced.l j) (d.fenced.l.drop j)) (fun j => d.fenced.l.length - j) (0) (⟨by omega, rfl⟩) (by repeat (first | exact SubF.nil | refine SubF.cons rfl ?_)) (by repeat (first | exact SubO.nil | refine SubO.cons rfl ?_)) rfl ?_
      rintro j ⟨hj, hjq⟩
      refine c_seq ?_
      refine c_region ?_
      refine o_yield rfl rfl rfl (y_val tok rfl) ?_
      refine o_end [0, 5, 116, 117, 118, 119] rfl ?_
      refine x_then ?_
      refine c_seq ?_
      refine c_cond rfl (fun h => ?_) (fun h => ?_)
      ·
        simp only [Bool.and_eq_true, Bool.or_eq_true, Bool.not_eq_true', Bool.or_eq_false_iff, Bool.and_eq_false_iff, decide_eq_true_eq, decide_eq_false_iff_not, beq_iff_eq, bne_iff_ne, Bool.not_eq_false', beq_eq_false_iff_ne, bne_eq_false_iff_eq, ne_eq, Decidable.not_not, Int.not_lt, Int.not_le] at h
        refine c_skip ?_
        refine x_then ?_
        refine c_seq ?_
        refine c_block ?_
        refine c_seq ?_
        refine c_region ?_
        obtain ⟨k, h_k⟩ := hd.fenced.at (k := j) (by omega)
        rw [drop_at h_k, fenF] at hjq
        have hlt_k := lt_of_at h_k
        refine o_yield rfl rfl rfl (y_idx tok rfl (fun hg => hd.fenced.sl) (fun hg => ⟨by omega, by omega⟩)) ?_
        refine o_yield rfl rfl rfl (y_lel tok (j) 0 (k) rfl (fun hg => hd.fenced) (fun hg => h_k) rfl rfl) ?_
        refine o_yield rfl rfl rfl (y_val tok rfl) ?_
        refine o_end [0, 5, 7, 116, 117, 118] rfl ?_
        refine x_then ?_
        refine c_seq ?_
        refine c_seq ?_
        refine c_region ?_
        refine o_yield rfl rfl rfl (y_val tok rfl) ?_
        refine o_yield rfl rfl rfl (y_val tok rfl) ?_
        refine o_yield rfl rfl rfl (y_val tok rfl) ?_
        refine o_yield rfl rfl rfl (y_val tok rfl) ?_
        refine o_yield rfl rfl rfl (y_val tok rfl) ?_
        refine o_yield rfl rfl rfl (y_val tok rfl) ?_
        refine o_call (.a (.v _)) rfl rfl fnok68 rfl rfl rfl (fun hg E w1 hm => by exact wgiven_c d k _ _ (hm.lit 0 _ _ rfl) (hd.keys.mono (hm.leDel (l := 0) rfl))) ?_
        refine o_yield rfl rfl rfl (y_val tok rfl) ?_
        refine o_yield rfl rfl rfl (y_val tok rfl) ?_
        refine o_end [0, 7, 116, 117, 118, 130] rfl ?_
        refine x_then ?_
        refine c_cond rfl (fun h => ?_) (fun h => ?_)
        ·
          simp only [Bool.and_eq_true, Bool.or_eq_true, Bool.not_eq_true', Bool.or_eq_false_iff, Bool.and_eq_false_iff, decide_eq_true_eq, decide_eq_false_iff_not, beq_iff_eq, bne_iff_ne, Bool.not_eq_false', beq_eq_false_iff_ne, bne_eq_false_iff_eq, ne_eq, Decidable.not_not, Int.not_lt, Int.not_le] at h
          refine c_seq ?_
          refine c_region ?_
          refine o_yield rfl rfl rfl (y_val tok rfl) ?_
          refine o_end [2] rfl ?_
          refine x_then ?_
          refine c_ret ?_
          refine x_then_ret ?_
          refine x_block_ret ?_
          refine x_then_ret ?_
          refine x_then_ret ?_
          refine x_block_ret ?_
          refine x_then_ret ?_
          refine b_ret tok rfl ?_
          have hno : (decide (lastI d.fenced.l j < k) && givenB d k) = false := by
            rcases h with h | h
            · rw [decide_eq_false (by omega)]; rfl
            · rw [h, Bool.and_false]
          intro E w' hm _
          exact ⟨by rw [hch, hjq, hno]; rfl, below1 hb hm (Vw.le.refl _) rfl rfl rfl⟩
        ·
          simp only [Bool.and_eq_true, Bool.or_eq_true, Bool.not_eq_true', Bool.or_eq_false_iff, Bool.and_eq_false_iff, decide_eq_true_eq, decide_eq_false_iff_not, beq_iff_eq, bne_iff_ne, Bool.not_eq_false', beq_eq_false_iff_ne, bne_eq_false_iff_eq, ne_eq, Decidable.not_not, Int.not_lt, Int.not_le] at h
          refine c_skip ?_
          refine x_then ?_
          refine c_region ?_
          refine o_yield rfl rfl rfl (y_val tok rfl) ?_
          refine o_yield rfl rfl rfl (y_val tok rfl) ?_
          refine o_end [0, 5, 116, 117, 118] rfl ?_
          refine x_block ?_
          refine x_then ?_
          refine c_region ?_
          refine o_yield rfl rfl rfl (y_val tok rfl) ?_
          refine o_yield rfl rfl rfl (y_val tok rfl) ?_
          refine o_end [0, 5, 116, 117, 118] rfl ?_
          refine x_then ?_
          have hyes : (decide (lastI d.fenced.l j < k) && givenB d k) = true := by rw [decide_eq_true (by omega), h.2]; rfl
          rw [hyes, Bool.true_and] at hjq
          have hls := lastI_succ h_k
          rw [wrapI (n := (j : Int) + 1) (by omega) (by omega), ← hls]
          refine x_round (j + 1) (⟨by omega, by rw [hjq, hls]⟩) (by first | omega | (dsimp only; omega)) (by repeat (first | exact SubF.nil | refine SubF.cons rfl ?_)) (by repeat (first | exact SubO.nil | refine SubO.cons rfl ?_)) rfl (Vw.le.refl _)
      ·
        simp only [Bool.and_eq_true, Bool.or_eq_true, Bool.not_eq_true', Bool.or_eq_false_iff, Bool.and_eq_false_iff, decide_eq_true_eq, decide_eq_false_iff_not, beq_iff_eq, bne_iff_ne, Bool.not_eq_false', beq_eq_false_iff_ne, bne_eq_false_iff_eq, ne_eq, Decidable.not_not, Int.not_lt, Int.not_le] at h
        refine c_exit ?_
        refine x_then_exit ?_
        refine x_then_exit ?_
        refine x_block_hit ?_
        refine x_then ?_
        refine c_seq ?_
        refine c_region ?_
        refine o_yield rfl rfl rfl (y_val tok rfl) ?_
        refine o_end [2] rfl ?_
        refine x_then ?_
        refine c_ret ?_
        refine b_ret tok rfl ?_
        have hjL : j = d.fenced.l.length := by omega
        have : fenF d 0 d.fenced.l = true := by rw [hjq, hjL, List.drop_length]; rfl
        intro E w' hm _
        exact ⟨by rw [hch, this]; rfl, below1 hb hm (Vw.le.refl _) rfl rfl rfl⟩
end Go.Proofs.Ytipmgnhbcaniiaa

/- Whether a device may be: the document's. -/
set_option linter.unusedVariables false
set_option linter.unusedSimpArgs false
set_option maxRecDepth 100000
namespace Go.Proofs.Ytipmgnhbcaniiaa
open Go Go.Eng Go.RowKit

theorem dcheck_c (V : Vw) (d : Device) (w : World) (hV : V.le (vw w)) (hd0 : DevIn V d) : Calls Try.prog 42 #[d.val] w fun e w' => e = .returned (I (if checkB d = true then 0 else 2)) ∧ Below w.heap.size w w' := by
  obtain ⟨⟨sv, sl⟩, ⟨cv, cl⟩, ⟨kv, kl⟩, nx, ⟨fv, fl⟩⟩ := d
  obtain ⟨a1, n1, c1, rfl⟩ := sl_shape hd0.s.sl
  obtain ⟨a2, n2, c2, rfl⟩ := sl_shape hd0.cache.sl
  obtain ⟨a3, n3, c3, rfl⟩ := sl_shape hd0.keys.sl
  obtain ⟨a4, n4, c4, rfl⟩ := sl_shape hd0.fenced.sl
  have hd := hd0.mono hV
  refine enter (E := E0) (O := []) (nl := 0) (V := vw w) [.a (.v (⟨⟨.slice a1 n1 c1, sl⟩, ⟨.slice a2 n2 c2, cl⟩, ⟨.slice a3 n3 c3, kl⟩, nx, ⟨.slice a4 n4 c4, fl⟩⟩ : Device).val)] Try.func42 rfl rfl (mem0 E0 0 w) rfl rfl ?_
  refine c_seq ?_
  refine c_region ?_
  refine o_new tok rfl rfl rfl rfl ?_
  refine o_yield rfl rfl rfl (y_val tok rfl) ?_
  refine o_end [1] rfl ?_
  refine x_then ?_
  refine c_seq ?_
  refine c_seq ?_
  refine c_region ?_
  refine o_yield rfl rfl rfl (y_val tok rfl) ?_
  refine o_yield rfl rfl rfl (y_val tok rfl) ?_
  refine o_new tok rfl rfl rfl rfl ?_
  refine o_yield rfl rfl rfl (y_val tok rfl) ?_
  refine o_end [3] rfl ?_
  refine x_then ?_
  refine c_seq ?_
  refine c_region ?_
  refine o_yield rfl rfl rfl (y_val tok rfl) ?_
  refine o_call (.a (.v _)) rfl rfl fnok55 rfl rfl rfl (fun hg E w1 hm => by exact wmay_c ⟨⟨.slice a1 n1 c1, sl⟩, ⟨.slice a2 n2 c2, cl⟩, ⟨.slice a3 n3 c3, kl⟩, nx, ⟨.slice a4 n4 c4, fl⟩⟩ _ _ (hm.lit 1 _ _ rfl) (hd.mono (hm.leDel (l := 1) rfl))) ?_
  refine o_yield rfl rfl rfl (y_val tok rfl) ?_
  refine o_end [9] rfl ?_
  refine x_then ?_
  refine c_cond rfl (fun h => ?_) (fun h => ?_)
  ·
    simp only [Bool.and_eq_true, Bool.or_eq_true, Bool.not_eq_true', Bool.or_eq_false_iff, Bool.and_eq_false_iff, decide_eq_true_eq, decide_eq_false_iff_not, beq_iff_eq, bne_iff_ne, Bool.not_eq_false', beq_eq_false_iff_ne, bne_eq_false_iff_eq, ne_eq, Decidable.not_not, Int.not_lt, Int.not_le] at h
    refine c_seq ?_
    refine c_region ?_
    refine o_yield rfl rfl rfl (y_val tok rfl) ?_
    refine o_end [2] rfl ?_
    refine x_then ?_
    refine c_ret ?_
    refine x_then_ret ?_
    refine b_ret tok rfl ?_
    intro E w' hm _
    refine ⟨?_, hm.below (Vw.le.refl _)⟩
    rw [if_neg (by rw [h]; simp)]
    rfl
  ·
    simp only [Bool.and_eq_true, Bool.or_eq_true, Bool.not_eq_true', Bool.or_eq_false_iff, Bool.and_eq_false_iff, decide_eq_true_eq, decide_eq_false_iff_not, beq_iff_eq, bne_iff_ne, Bool.not_eq_false', beq_eq_false_iff_ne, bne_eq_false_iff_eq, ne_eq, Decidable.not_not, Int.not_lt, Int.not_le] at h
    refine c_skip ?_
    refine x_then ?_
    refine c_seq ?_
    refine c_region ?_
    refine o_yield rfl rfl rfl (y_val tok rfl) ?_
    refine o_end [2] rfl ?_
    refine x_then ?_
    refine c_ret ?_
    refine b_ret tok rfl ?_
    intro E w' hm _
    refine ⟨?_, hm.below (Vw.le.refl _)⟩
    rw [if_pos h]
    rfl

theorem refCheck_c (V : Vw) (d : Device) (w : World) (hV : V.le (vw w)) (hd0 : DevIn V d) : Calls Try.prog 26 #[d.val] w fun e w' => e = .returned (I (if checkB d = true then 0 else 2)) ∧ Below w.heap.size w w' := by
  obtain ⟨⟨sv, sl⟩, ⟨cv, cl⟩, ⟨kv, kl⟩, nx, ⟨fv, fl⟩⟩ := d
  obtain ⟨a1, n1, c1, rfl⟩ := sl_shape hd0.s.sl
  obtain ⟨a2, n2, c2, rfl⟩ := sl_shape hd0.cache.sl
  obtain ⟨a3, n3, c3, rfl⟩ := sl_shape hd0.keys.sl
  obtain ⟨a4, n4, c4, rfl⟩ := sl_shape hd0.fenced.sl
  have hd := hd0.mono hV
  have hsn := hd.sn
  have hcn := hd.cn
  have hkn := hd.kn
  have hfn := hd.fn
  simp only [maxLen] at hsn hcn hkn hfn
  generalize hD : (⟨⟨.slice a1 n1 c1, sl⟩, ⟨.slice a2 n2 c2, cl⟩, ⟨.slice a3 n3 c3, kl⟩, nx, ⟨.slice a4 n4 c4, fl⟩⟩ : Device) = D at *
  have hDs : D.s = ⟨.slice a1 n1 c1, sl⟩ := by rw [← hD]
  have hDc : D.cache = ⟨.slice a2 n2 c2, cl⟩ := by rw [← hD]
  have hDk : D.keys = ⟨.slice a3 n3 c3, kl⟩ := by rw [← hD]
  have hDn : D.next_ = nx := by rw [← hD]
  have hDf : D.fenced = ⟨.slice a4 n4 c4, fl⟩ := by rw [← hD]
  have hS := hd.s
  have hC := hd.cache
  have hK := hd.keys
  have hF := hd.fenced
  have hca := hd.ca
  rw [hDs] at hS
  rw [hDc] at hC hca
  rw [hDk] at hK
  rw [hDf] at hF
  simp only at hS hC hK hF hca
  have hgv := fun (key : Int) (w1 : World) (hle : (vw w).le (vw w1)) => refGiven_c (vw w) D key w1 hle hd.keys ⟨a1, n1, c1, by rw [hDs]⟩ ⟨a2, n2, c2, by rw [hDc]⟩ ⟨a4, n4, c4, by rw [hDf]⟩
  have hval : D.val = .agg #[.slice a1 n1 c1, .slice a2 n2 c2, .slice a3 n3 c3, I nx, .slice a4 n4 c4] := by rw [← hD]
  have hhead : headB D = (decide (0 < sl.length) && (shortB sl && decide (0 < kl.length ∧ kl.length ≤ 16 ∧ cl.length = kl.length ∧ 1 ≤ nx ∧ nx ≤ 68719476736))) := by rw [← hD]; rfl
  have hcheck : checkB D = (headB D && (keysF D 0 kl cl && fenF D 0 fl)) := by rw [checkB, hDk, hDc, hDf]
  have hko : ∀ i k c, keyOkB D i k c = (cacheF (sl.length : Int) [] c.l && (decide (k = 0) || (givenB D k && decide (k.tmod 16 = (i : Int))))) := fun i k c => by rw [keyOkB, hDs]
  rw [hval] at hgv ⊢
  clear hD hDs hDc hDk hDn hDf hd hd0 hval
  refine enter (E := E0) (O := []) (nl := 0) (V := vw w) [.a (.v (.agg #[.slice a1 n1 c1, .slice a2 n2 c2, .slice a3 n3 c3, I nx, .slice a4 n4 c4]))] Try.func26 rfl rfl (mem0 E0 0 w) rfl rfl ?_
  refine c_seq ?_
  refine c_region ?_
  refine o_new tok rfl rfl rfl rfl ?_
  refine o_yield rfl rfl rfl (y_val tok rfl) ?_
  refine o_end [1] rfl ?_
  refine x_then ?_
  refine c_seq ?_
  refine c_seq ?_
  refine c_region ?_
  refine o_yield rfl rfl rfl (y_val tok rfl) ?_
  refine o_yield rfl rfl rfl (y_val tok rfl) ?_
  refine o_yield rfl rfl rfl (y_len tok rfl (fun hg => hS.sl)) ?_
  refine o_yield rfl rfl rfl (y_val tok rfl) ?_
  refine o_yield rfl rfl rfl (y_val tok rfl) ?_
  refine o_yield rfl rfl rfl (y_val tok rfl) ?_
  refine o_yield rfl rfl rfl (y_val tok rfl) ?_
  refine o_yield rfl rfl rfl (y_len tok rfl (fun hg => hK.sl)) ?_
  refine o_yield rfl rfl rfl (y_val tok rfl) ?_
  refine o_yield rfl rfl rfl (y_val tok rfl) ?_
  refine o_yield rfl rfl rfl (y_val tok rfl) ?_
  refine o_yield rfl rfl rfl (y_val tok rfl) ?_
  refine o_yield rfl rfl rfl (y_val tok rfl) ?_
  refine o_yield rfl rfl rfl (y_len tok rfl (fun hg => hK.sl)) ?_
  refine o_yield rfl rfl rfl (y_val tok rfl) ?_
  refine o_yield rfl rfl rfl (y_val tok rfl) ?_
  refine o_yield rfl rfl rfl (y_val tok rfl) ?_
  refine o_yield rfl rfl rfl (y_val tok rfl) ?_
  refine o_yield rfl rfl rfl (y_val tok rfl) ?_
  refine o_yield rfl rfl rfl (y_len tok rfl (fun hg => hC.sl)) ?_
  refine o_yield rfl rfl rfl (y_val tok rfl) ?_
  refine o_yield rfl rfl rfl (y_val tok rfl) ?_
  refine o_yield rfl rfl rfl (y_len tok rfl (fun hg => hK.sl)) ?_
  refine o_yield rfl rfl rfl (y_val tok rfl) ?_
  refine o_yield rfl rfl rfl (y_val tok rfl) ?_
  refine o_yield rfl rfl rfl (y_val tok rfl) ?_
  refine o_yield rfl rfl rfl (y_val tok rfl) ?_
  refine o_yield rfl rfl rfl (y_val tok rfl) ?_
  refine o_yield rfl rfl rfl (y_val tok rfl) ?_
  refine o_yield rfl rfl rfl (y_val tok rfl) ?_
  refine o_yield rfl rfl rfl (y_val tok rfl) ?_
  refine o_yield rfl rfl rfl (y_val tok rfl) ?_
  refine o_yield rfl rfl rfl (y_val tok rfl) ?_
  refine o_yield rfl rfl rfl (y_val tok rfl) ?_
  refine o_yield rfl rfl rfl (y_val tok rfl) ?_
  refine o_end [1, 40] rfl ?_
  refine x_then ?_
  refine c_cond rfl (fun h => ?_) (fun h => ?_)
  ·
    simp only [Bool.and_eq_true, Bool.or_eq_true, Bool.not_eq_true', Bool.or_eq_false_iff, Bool.and_eq_false_iff, decide_eq_true_eq, decide_eq_false_iff_not, beq_iff_eq, bne_iff_ne, Bool.not_eq_false', beq_eq_false_iff_ne, bne_eq_false_iff_eq, ne_eq, Decidable.not_not, Int.not_lt, Int.not_le] at h
    refine c_seq ?_
    refine c_region ?_
    refine o_yield rfl rfl rfl (y_val tok rfl) ?_
    refine o_end [2] rfl ?_
    refine x_then ?_
    refine c_ret ?_
    refine x_then_ret ?_
    refine b_ret tok rfl ?_
    intro E w' hm _
    refine ⟨?_, hm.below (Vw.le.refl _)⟩
    rw [if_neg]
    · rfl
    · intro hc
      simp only [hcheck, hhead, Bool.and_eq_true, decide_eq_true_eq] at hc
      omega
  ·
    simp only [Bool.and_eq_true, Bool.or_eq_true, Bool.not_eq_true', Bool.or_eq_false_iff, Bool.and_eq_false_iff, decide_eq_true_eq, decide_eq_false_iff_not, beq_iff_eq, bne_iff_ne, Bool.not_eq_false', beq_eq_false_iff_ne, bne_eq_false_iff_eq, ne_eq, Decidable.not_not, Int.not_lt, Int.not_le] at h
    refine c_skip ?_
    refine x_then ?_
    refine c_seq ?_
    refine c_seq ?_
    refine c_region ?_
    refine o_yield rfl rfl rfl (y_val tok rfl) ?_
    refine o_end [1, 3] rfl ?_
    refine x_then ?_
    refine c_block ?_
    have h1 := h
    refine c_loopK [1] [0] rfl rfl (σ := Nat) (fun i => [(3, .a (.v (I i)))]) (fun i => [(0, .lit [.v (.slice a1 n1 c1), .v (.slice a2 n2 c2), .v (.slice a3 n3 c3), .v (I nx), .v (.slice a4 n4 c4)] 35)]) (fun i => i ≤ sl.length ∧ shortB sl = shortB (sl.drop i)) (fun i => sl.length - i) (0) (⟨by omega, rfl⟩) (by repeat (first | exact SubF.nil | refine SubF.cons rfl ?_)) (by repeat (first | exact SubO.nil | refine SubO.cons rfl ?_)) rfl ?_
    rintro i ⟨hi, heq⟩
    refine c_seq ?_
    refine c_seq ?_
    refine c_region ?_
    refine o_yield rfl rfl rfl (y_val tok rfl) ?_
    refine o_yield rfl rfl rfl (y_val tok rfl) ?_
    refine o_yield rfl rfl rfl (y_val tok rfl) ?_
    refine o_yield rfl rfl rfl (y_len tok rfl (fun hg => hS.sl)) ?_
    refine o_yield rfl rfl rfl (y_val tok rfl) ?_
    refine o_end [1, 3, 45] rfl ?_
    refine x_then ?_
    refine c_cond rfl (fun h => ?_) (fun h => ?_)
    ·
      simp only [Bool.and_eq_true, Bool.or_eq_true, Bool.not_eq_true', Bool.or_eq_false_iff, Bool.and_eq_false_iff, decide_eq_true_eq, decide_eq_false_iff_not, beq_iff_eq, bne_iff_ne, Bool.not_eq_false', beq_eq_false_iff_ne, bne_eq_false_iff_eq, ne_eq, Decidable.not_not, Int.not_lt, Int.not_le] at h
      refine c_skip ?_
      refine x_then ?_
      refine c_seq ?_
      refine c_block ?_
      refine c_seq ?_
      refine c_region ?_
      refine o_yield rfl rfl rfl (y_val tok rfl) ?_
      refine o_yield rfl rfl rfl (y_val tok rfl) ?_
      refine o_yield rfl rfl rfl (y_val tok rfl) ?_
      obtain ⟨x, h_x⟩ := hS.at (k := i) (by omega)
      rw [drop_at h_x] at heq
      have hlt_x := lt_of_at h_x
      refine o_yield rfl rfl rfl (y_idx tok rfl (fun hg => hS.sl) (fun hg => ⟨by omega, by omega⟩)) ?_
      refine o_yield rfl rfl rfl (y_lel tok (i) 0 (x) rfl (fun hg => hS) (fun hg => h_x) rfl rfl) ?_
      refine o_yield rfl rfl rfl (y_val tok rfl) ?_
      refine o_yield rfl rfl rfl (y_val tok rfl) ?_
      refine o_end [1, 3, 54] rfl ?_
      refine x_then ?_
      refine c_cond rfl (fun h => ?_) (fun h => ?_)
      ·
        simp only [Bool.and_eq_true, Bool.or_eq_true, Bool.not_eq_true', Bool.or_eq_false_iff, Bool.and_eq_false_iff, decide_eq_true_eq, decide_eq_false_iff_not, beq_iff_eq, bne_iff_ne, Bool.not_eq_false', beq_eq_false_iff_ne, bne_eq_false_iff_eq, ne_eq, Decidable.not_not, Int.not_lt, Int.not_le] at h
        refine c_seq ?_
        refine c_region ?_
        refine o_yield rfl rfl rfl (y_val tok rfl) ?_
        refine o_end [2] rfl ?_
        refine x_then ?_
        refine c_ret ?_
        refine x_block_ret ?_
        refine x_then_ret ?_
        refine x_then_ret ?_
        refine x_block_ret ?_
        refine x_then_ret ?_
        refine b_ret tok rfl ?_
        intro E w' hm _
        refine ⟨?_, hm.below (Vw.le.refl _)⟩
        rw [if_neg]
        · rfl
        · intro hc
          have hno : shortB (x :: sl.drop (i + 1)) = false := by
            rw [shortB, List.any_cons, decide_eq_true (by omega)]; rfl
          rw [hno] at heq
          simp only [hcheck, hhead, heq, Bool.and_eq_true] at hc
          exact absurd hc.1.2.1 (by simp)
      ·
        simp only [Bool.and_eq_true, Bool.or_eq_true, Bool.not_eq_true', Bool.or_eq_false_iff, Bool.and_eq_false_iff, decide_eq_true_eq, decide_eq_false_iff_not, beq_iff_eq, bne_iff_ne, Bool.not_eq_false', beq_eq_false_iff_ne, bne_eq_false_iff_eq, ne_eq, Decidable.not_not, Int.not_lt, Int.not_le] at h
        refine c_skip ?_
        refine x_block ?_
        refine x_then ?_
        refine c_region ?_
        refine o_yield rfl rfl rfl (y_val tok rfl) ?_
        refine o_yield rfl rfl rfl (y_val tok rfl) ?_
        refine o_yield rfl rfl rfl (y_val tok rfl) ?_
        refine o_end [1, 3] rfl ?_
        refine x_then ?_
        have hyes : shortB (x :: sl.drop (i + 1)) = shortB (sl.drop (i + 1)) := by rw [shortB, List.any_cons, decide_eq_false (by omega), Bool.false_or]; rfl
        rw [wrapI (n := (i : Int) + 1) (by omega) (by omega)]
        refine x_round (i + 1) (⟨by omega, by rw [heq, hyes]⟩) (by first | omega | (dsimp only; omega)) (by repeat (first | exact SubF.nil | refine SubF.cons rfl ?_)) (by repeat (first | exact SubO.nil | refine SubO.cons rfl ?_)) rfl (Vw.le.refl _)
    ·
      simp only [Bool.and_eq_true, Bool.or_eq_true, Bool.not_eq_true', Bool.or_eq_false_iff, Bool.and_eq_false_iff, decide_eq_true_eq, decide_eq_false_iff_not, beq_iff_eq, bne_iff_ne, Bool.not_eq_false', beq_eq_false_iff_ne, bne_eq_false_iff_eq, ne_eq, Decidable.not_not, Int.not_lt, Int.not_le] at h
      refine c_exit ?_
      refine x_then_exit ?_
      refine x_then_exit ?_
      refine x_block_hit ?_
      refine x_then ?_
      refine c_seq ?_
      refine c_seq ?_
      refine c_region ?_
      refine o_yield rfl rfl rfl (y_val tok rfl) ?_
      refine o_end [1, 4] rfl ?_
      refine x_then ?_
      refine c_block ?_
      have hsh : shortB sl = true := by
        rw [heq, List.drop_eq_nil_of_le (by omega)]; rfl
      have hh : headB D = true := by
        simp only [hhead, hsh, Bool.and_eq_true, decide_eq_true_eq]
        exact ⟨by omega, trivial, by omega, by omega, by omega, by omega, by omega⟩
      rw [hh, Bool.true_and] at hcheck
      refine c_loopK [1] [0] rfl rfl (σ := Nat) (fun i => [(4, .a (.v (I i)))]) (fun i => [(0, .lit [.v (.slice a1 n1 c1), .v (.slice a2 n2 c2), .v (.slice a3 n3 c3), .v (I nx), .v (.slice a4 n4 c4)] 35)]) (fun i => i ≤ kl.length ∧ keysF D 0 kl cl = keysF D i (kl.drop i) (cl.drop i)) (fun i => kl.length - i) (0) (⟨by omega, rfl⟩) (by repeat (first | exact SubF.nil | refine SubF.cons rfl ?_)) (by repeat (first | exact SubO.nil | refine SubO.cons rfl ?_)) rfl ?_
      rintro i ⟨hi, heq⟩
      refine c_seq ?_
      refine c_seq ?_
      refine c_region ?_
      refine o_yield rfl rfl rfl (y_val tok rfl) ?_
      refine o_yield rfl rfl rfl (y_val tok rfl) ?_
      refine o_yield rfl rfl rfl (y_val tok rfl) ?_
      refine o_yield rfl rfl rfl (y_len tok rfl (fun hg => hK.sl)) ?_
      refine o_yield rfl rfl rfl (y_val tok rfl) ?_
      refine o_end [1, 4, 59] rfl ?_
      refine x_then ?_
      refine c_cond rfl (fun h => ?_) (fun h => ?_)
      ·
        simp only [Bool.and_eq_true, Bool.or_eq_true, Bool.not_eq_true', Bool.or_eq_false_iff, Bool.and_eq_false_iff, decide_eq_true_eq, decide_eq_false_iff_not, beq_iff_eq, bne_iff_ne, Bool.not_eq_false', beq_eq_false_iff_ne, bne_eq_false_iff_eq, ne_eq, Decidable.not_not, Int.not_lt, Int.not_le] at h
        refine c_skip ?_
        refine x_then ?_
        refine c_seq ?_
        refine c_block ?_
        refine c_seq ?_
        refine c_draw mixed (by kernel_rfl) ?_
        refine d_yield rfl rfl rfl (y_val tok rfl) rfl ?_
        refine d_yield rfl rfl rfl (y_val tok rfl) rfl ?_
        refine d_yield rfl rfl rfl (y_val tok rfl) rfl ?_
        obtain ⟨k, h_k⟩ := hK.at (k := i) (by omega)
        obtain ⟨c, h_c⟩ := hC.at (k := i) (by omega)
        obtain ⟨hcs, hcl⟩ := hca c (List.mem_of_getElem? h_c)
        rw [drop_at h_k, drop_at h_c, keysF, hko] at heq
        have hlt_c := lt_of_at h_c
        refine d_yield rfl rfl rfl (y_idx tok rfl (fun hg => hC.sl) (fun hg => ⟨by omega, by omega⟩)) rfl ?_
        refine d_yield rfl rfl rfl (y_lel tok (i) 0 (c) rfl (fun hg => hC) (fun hg => h_c) rfl rfl) rfl ?_
        refine d_yield rfl rfl rfl (y_val tok rfl) rfl ?_
        refine d_yield rfl rfl rfl (y_val tok rfl) rfl ?_
        refine d_yield rfl rfl rfl (y_len tok rfl (fun hg => hS.sl)) rfl ?_
        refine d_call (.a (.v _)) rfl rfl fnok50 rfl rfl rfl (fun hg E w1 hm => by exact refCached_c (vw w) c.v c.l _ _ hm.leV hcs hcl) ?_
        refine d_yield rfl rfl rfl (y_val tok rfl) rfl ?_
        refine d_yield rfl rfl rfl (y_val tok rfl) rfl ?_
        refine d_yield rfl rfl rfl (y_val tok rfl) rfl ?_
        refine d_yield rfl rfl rfl (y_val tok rfl) rfl ?_
        refine d_yield rfl rfl rfl (y_val tok rfl) rfl ?_
        have hlt_k := lt_of_at h_k
        refine d_yield rfl rfl rfl (y_idx tok rfl (fun hg => hK.sl) (fun hg => ⟨by omega, by omega⟩)) rfl ?_
        refine d_yield rfl rfl rfl (y_lel tok (i) 0 (k) rfl (fun hg => hK) (fun hg => h_k) rfl rfl) rfl ?_
        refine d_yield rfl rfl rfl (y_val tok rfl) rfl ?_
        refine d_yield rfl rfl rfl (y_val tok rfl) rfl ?_
        refine d_yield rfl rfl rfl (y_val tok rfl) rfl ?_
        refine d_yield rfl rfl rfl (y_val tok rfl) rfl ?_
        refine d_yield rfl rfl rfl (y_val tok rfl) rfl ?_
        refine d_yield rfl rfl rfl (y_val tok rfl) rfl ?_
        have hlt_k := lt_of_at h_k
        refine d_yield rfl rfl rfl (y_idx tok rfl (fun hg => hK.sl) (fun hg => ⟨by omega, by omega⟩)) rfl ?_
        refine d_yield rfl rfl rfl (y_lel tok (i) 0 (k) rfl (fun hg => hK) (fun hg => h_k) rfl rfl) rfl ?_
        refine d_call (.a (.v _)) rfl rfl fnok31 rfl rfl rfl (fun hg E w1 hm => by exact hgv k _ hm.leV) ?_
        refine d_yield rfl rfl rfl (y_val tok rfl) rfl ?_
        refine d_yield rfl rfl rfl (y_val tok rfl) rfl ?_
        refine d_yield rfl rfl rfl (y_val tok rfl) rfl ?_
        refine d_yield rfl rfl rfl (y_val tok rfl) rfl ?_
        refine d_yield rfl rfl rfl (y_val tok rfl) rfl ?_
        have hlt_k := lt_of_at h_k
        refine d_yield rfl rfl rfl (y_idx tok rfl (fun hg => hK.sl) (fun hg => ⟨by omega, by omega⟩)) rfl ?_
        refine d_yield rfl rfl rfl (y_lel tok (i) 0 (k) rfl (fun hg => hK) (fun hg => h_k) rfl rfl) rfl ?_
        refine d_yield rfl rfl rfl (y_rem rfl (fun hg => by decide)) rfl ?_
        refine d_yield rfl rfl rfl (y_val tok rfl) rfl ?_
        refine d_yield rfl rfl rfl (y_val tok rfl) rfl ?_
        refine d_yield rfl rfl rfl (y_val tok rfl) rfl ?_
        refine d_yield rfl rfl rfl (y_val tok rfl) rfl ?_
        refine d_yield rfl rfl rfl (y_val tok rfl) rfl ?_
        refine d_end [1, 4, 99] rfl ?_
        refine x_then ?_
        refine c_cond rfl (fun h => ?_) (fun h => ?_)
        ·
          simp only [Bool.and_eq_true, Bool.or_eq_true, Bool.not_eq_true', Bool.or_eq_false_iff, Bool.and_eq_false_iff, decide_eq_true_eq, decide_eq_false_iff_not, beq_iff_eq, bne_iff_ne, Bool.not_eq_false', beq_eq_false_iff_ne, bne_eq_false_iff_eq, ne_eq, Decidable.not_not, Int.not_lt, Int.not_le] at h
          refine c_seq ?_
          refine c_region ?_
          refine o_yield rfl rfl rfl (y_val tok rfl) ?_
          refine o_end [2] rfl ?_
          refine x_then ?_
          refine c_ret ?_
          refine x_block_ret ?_
          refine x_then_ret ?_
          refine x_then_ret ?_
          refine x_block_ret ?_
          refine x_then_ret ?_
          refine b_ret tok rfl ?_
          have hno : (cacheF (sl.length : Int) [] c.l && (decide (k = 0) || (givenB D k && decide (k.tmod 16 = (i : Int))))) = false := by
            rw [Bool.eq_false_iff]
            intro hc
            simp only [Bool.and_eq_true, Bool.or_eq_true, decide_eq_true_eq] at hc
            rcases h with h | ⟨h1, h2⟩
            · rw [hc.1] at h; cases h
            · rcases hc.2 with h3 | ⟨h3, h4⟩
              · exact h1 h3
              · rw [h3] at h2; simp only [Bool.true_eq_false, false_or] at h2; exact h2 h4
          intro E w' hm _
          refine ⟨?_, hm.below (Vw.le.refl _)⟩
          rw [hcheck, heq, hno]
          rfl
        ·
          simp only [Bool.and_eq_true, Bool.or_eq_true, Bool.not_eq_true', Bool.or_eq_false_iff, Bool.and_eq_false_iff, decide_eq_true_eq, decide_eq_false_iff_not, beq_iff_eq, bne_iff_ne, Bool.not_eq_false', beq_eq_false_iff_ne, bne_eq_false_iff_eq, ne_eq, Decidable.not_not, Int.not_lt, Int.not_le] at h
          refine c_skip ?_
          refine x_block ?_
          refine x_then ?_
          refine c_region ?_
          refine o_yield rfl rfl rfl (y_val tok rfl) ?_
          refine o_yield rfl rfl rfl (y_val tok rfl) ?_
          refine o_yield rfl rfl rfl (y_val tok rfl) ?_
          refine o_end [1, 4] rfl ?_
          refine x_then ?_
          have hyes : (cacheF (sl.length : Int) [] c.l && (decide (k = 0) || (givenB D k && decide (k.tmod 16 = (i : Int))))) = true := by
            simp only [Bool.and_eq_true, Bool.or_eq_true, decide_eq_true_eq]
            exact ⟨h.1, h.2⟩
          rw [hyes, Bool.true_and] at heq
          rw [wrapI (n := (i : Int) + 1) (by omega) (by omega)]
          refine x_round (i + 1) (⟨by omega, heq⟩) (by first | omega | (dsimp only; omega)) (by repeat (first | exact SubF.nil | refine SubF.cons rfl ?_)) (by repeat (first | exact SubO.nil | refine SubO.cons rfl ?_)) rfl (Vw.le.refl _)
      ·
        simp only [Bool.and_eq_true, Bool.or_eq_true, Bool.not_eq_true', Bool.or_eq_false_iff, Bool.and_eq_false_iff, decide_eq_true_eq, decide_eq_false_iff_not, beq_iff_eq, bne_iff_ne, Bool.not_eq_false', beq_eq_false_iff_ne, bne_eq_false_iff_eq, ne_eq, Decidable.not_not, Int.not_lt, Int.not_le] at h
        refine c_exit ?_
        refine x_then_exit ?_
        refine x_then_exit ?_
        refine x_block_hit ?_
        refine x_then ?_
        refine c_seq ?_
        refine c_seq ?_
        refine c_region ?_
        refine o_yield rfl rfl rfl (y_val tok rfl) ?_
        refine o_end [1, 5] rfl ?_
        refine x_then ?_
        refine c_block ?_
        have hkeys : keysF D 0 kl cl = true := by rw [heq, List.drop_eq_nil_of_le (show kl.length ≤ i by omega)]; rfl
        rw [hkeys, Bool.true_and] at hcheck
        refine c_loopK [1] [0] rfl rfl (σ := Nat) (fun j => [(5, .a (.v (I j)))]) (fun j => [(0, .lit [.v (.slice a1 n1 c1), .v (.slice a2 n2 c2), .v (.slice a3 n3 c3), .v (I nx), .v (.slice a4 n4 c4)] 35)]) (fun j => j ≤ fl.length ∧ fenF D 0 fl = fenF D (lastI fl j) (fl.drop j)) (fun j => fl.length - j) (0) (⟨by omega, rfl⟩) (by repeat (first | exact SubF.nil | refine SubF.cons rfl ?_)) (by repeat (first | exact SubO.nil | refine SubO.cons rfl ?_)) rfl ?_
        rintro j ⟨hj, hjq⟩
        refine c_seq ?_
        refine c_seq ?_
        refine c_region ?_
        refine o_yield rfl rfl rfl (y_val tok rfl) ?_
        refine o_yield rfl rfl rfl (y_val tok rfl) ?_
        refine o_yield rfl rfl rfl (y_val tok rfl) ?_
        refine o_yield rfl rfl rfl (y_len tok rfl (fun hg => hF.sl)) ?_
        refine o_yield rfl rfl rfl (y_val tok rfl) ?_
        refine o_end [1, 5, 104] rfl ?_
        refine x_then ?_
        refine c_cond rfl (fun h => ?_) (fun h => ?_)
        ·
          simp only [Bool.and_eq_true, Bool.or_eq_true, Bool.not_eq_true', Bool.or_eq_false_iff, Bool.and_eq_false_iff, decide_eq_true_eq, decide_eq_false_iff_not, beq_iff_eq, bne_iff_ne, Bool.not_eq_false', beq_eq_false_iff_ne, bne_eq_false_iff_eq, ne_eq, Decidable.not_not, Int.not_lt, Int.not_le] at h
          refine c_skip ?_
          refine x_then ?_
          refine c_seq ?_
          refine c_block ?_
          refine c_seq ?_
          refine c_draw mixed (by kernel_rfl) ?_
          refine d_yield rfl rfl rfl (y_val tok rfl) rfl ?_
          refine d_yield rfl rfl rfl (y_val tok rfl) rfl ?_
          refine d_yield rfl rfl rfl (y_val tok rfl) rfl ?_
          refine d_yield rfl rfl rfl (y_val tok rfl) rfl ?_
          obtain ⟨k, h_k⟩ := hF.at (k := j) (by omega)
          obtain ⟨q, h_q⟩ : ∃ q, fl[j - 1]? = some q := ⟨fl[j - 1]'(by omega), by rw [List.getElem?_eq_getElem (by omega)]⟩
          have hlast : (j = 0 ∧ lastI fl j = 0) ∨ (0 < j ∧ lastI fl j = q) := by
            cases j with
            | zero => exact .inl ⟨rfl, rfl⟩
            | succ j' => exact .inr ⟨by omega, lastI_succ h_q⟩
          have hg16 : givenB D k = true → 16 ≤ k := fun hc => by simp only [givenB, Bool.and_eq_true, decide_eq_true_eq] at hc; exact hc.1.1
          rw [drop_at h_k, fenF] at hjq
          have hlt_k := lt_of_at h_k
          refine d_yield rfl rfl rfl (y_idx tok rfl (fun hg => hF.sl) (fun hg => ⟨by omega, by omega⟩)) rfl ?_
          refine d_yield rfl rfl rfl (y_lel tok (j) 0 (k) rfl (fun hg => hF) (fun hg => h_k) rfl rfl) rfl ?_
          refine d_call (.a (.v _)) rfl rfl fnok31 rfl rfl rfl (fun hg E w1 hm => by exact hgv k _ hm.leV) ?_
          refine d_yield rfl rfl rfl (y_val tok rfl) rfl ?_
          refine d_yield rfl rfl rfl (y_val tok rfl) rfl ?_
          refine d_yield rfl rfl rfl (y_val tok rfl) rfl ?_
          refine d_yield rfl rfl rfl (y_val tok rfl) rfl ?_
          refine d_yield rfl rfl rfl (y_val tok rfl) rfl ?_
          refine d_yield rfl rfl rfl (y_val tok rfl) rfl ?_
          refine d_yield rfl rfl rfl (y_val tok rfl) rfl ?_
          refine d_yield rfl rfl rfl (y_val tok rfl) rfl ?_
          have hlt_k := lt_of_at h_k
          refine d_yield rfl rfl rfl (y_idx tok rfl (fun hg => hF.sl) (fun hg => ⟨by omega, by omega⟩)) rfl ?_
          refine d_yield rfl rfl rfl (y_lel tok (j) 0 (k) rfl (fun hg => hF) (fun hg => h_k) rfl rfl) rfl ?_
          refine d_yield rfl rfl rfl (y_val tok rfl) rfl ?_
          refine d_yield rfl rfl rfl (y_val tok rfl) rfl ?_
          refine d_yield rfl rfl rfl (y_val tok rfl) rfl ?_
          refine d_yield rfl rfl rfl (y_val tok rfl) rfl ?_
          refine d_yield rfl rfl rfl (y_idxK tok ((j - 1) * 1 + 0) rfl (by rw [wrapI (by omega) (by omega)]; dsimp only; omega) (fun hg => hF.sl) (fun hg => by simp at hg; rw [wrapI (by omega) (by omega)]; omega)) rfl ?_
          refine d_yield rfl rfl rfl (y_lel tok (j - 1) 0 (q) rfl (fun hg => hF) (fun hg => h_q) rfl rfl) rfl ?_
          refine d_yield rfl rfl rfl (y_val tok rfl) rfl ?_
          refine d_yield rfl rfl rfl (y_val tok rfl) rfl ?_
          refine d_yield rfl rfl rfl (y_val tok rfl) rfl ?_
          refine d_end [1, 5, 132] rfl ?_
          refine x_then ?_
          refine c_cond rfl (fun h => ?_) (fun h => ?_)
          ·
            simp only [Bool.and_eq_true, Bool.or_eq_true, Bool.not_eq_true', Bool.or_eq_false_iff, Bool.and_eq_false_iff, decide_eq_true_eq, decide_eq_false_iff_not, beq_iff_eq, bne_iff_ne, Bool.not_eq_false', beq_eq_false_iff_ne, bne_eq_false_iff_eq, ne_eq, Decidable.not_not, Int.not_lt, Int.not_le] at h
            refine c_seq ?_
            refine c_region ?_
            refine o_yield rfl rfl rfl (y_val tok rfl) ?_
            refine o_end [2] rfl ?_
            refine x_then ?_
            refine c_ret ?_
            refine x_block_ret ?_
            refine x_then_ret ?_
            refine x_then_ret ?_
            refine x_block_ret ?_
            refine x_then_ret ?_
            refine b_ret tok rfl ?_
            have hno : (decide (lastI fl j < k) && givenB D k) = false := by
              rcases h with h | h
              · rw [h, Bool.and_false]
              · rw [decide_eq_false (by omega)]; rfl
            intro E w' hm _
            refine ⟨?_, hm.below (Vw.le.refl _)⟩
            rw [hcheck, hjq, hno]
            rfl
          ·
            simp only [Bool.and_eq_true, Bool.or_eq_true, Bool.not_eq_true', Bool.or_eq_false_iff, Bool.and_eq_false_iff, decide_eq_true_eq, decide_eq_false_iff_not, beq_iff_eq, bne_iff_ne, Bool.not_eq_false', beq_eq_false_iff_ne, bne_eq_false_iff_eq, ne_eq, Decidable.not_not, Int.not_lt, Int.not_le] at h
            refine c_skip ?_
            refine x_block ?_
            refine x_then ?_
            refine c_region ?_
            refine o_yield rfl rfl rfl (y_val tok rfl) ?_
            refine o_yield rfl rfl rfl (y_val tok rfl) ?_
            refine o_yield rfl rfl rfl (y_val tok rfl) ?_
            refine o_end [1, 5] rfl ?_
            refine x_then ?_
            have h16 := hg16 h.1
            have hyes : (decide (lastI fl j < k) && givenB D k) = true := by rw [decide_eq_true (by omega), h.1]; rfl
            rw [hyes, Bool.true_and] at hjq
            have hls := lastI_succ h_k
            rw [wrapI (n := (j : Int) + 1) (by omega) (by omega)]
            refine x_round (j + 1) (⟨by omega, by rw [hjq, hls]⟩) (by first | omega | (dsimp only; omega)) (by repeat (first | exact SubF.nil | refine SubF.cons rfl ?_)) (by repeat (first | exact SubO.nil | refine SubO.cons rfl ?_)) rfl (Vw.le.refl _)
        ·
          simp only [Bool.and_eq_true, Bool.or_eq_true, Bool.not_eq_true', Bool.or_eq_false_iff, Bool.and_eq_false_iff, decide_eq_true_eq, decide_eq_false_iff_not, beq_iff_eq, bne_iff_ne, Bool.not_eq_false', beq_eq_false_iff_ne, bne_eq_false_iff_eq, ne_eq, Decidable.not_not, Int.not_lt, Int.not_le] at h
          refine c_exit ?_
          refine x_then_exit ?_
          refine x_then_exit ?_
          refine x_block_hit ?_
          refine x_then ?_
          refine c_seq ?_
          refine c_region ?_
          refine o_yield rfl rfl rfl (y_val tok rfl) ?_
          refine o_end [2] rfl ?_
          refine x_then ?_
          refine c_ret ?_
          refine b_ret tok rfl ?_
          have hfe : fenF D 0 fl = true := by rw [hjq, List.drop_eq_nil_of_le (show fl.length ≤ j by omega)]; rfl
          intro E w' hm _
          refine ⟨?_, hm.below (Vw.le.refl _)⟩
          rw [hcheck, hfe]
          rfl
end Go.Proofs.Ytipmgnhbcaniiaa

/- A block as it stands: the program's. -/
set_option linter.unusedVariables false
set_option linter.unusedSimpArgs false
set_option maxRecDepth 100000
namespace Go.Proofs.Ytipmgnhbcaniiaa
open Go Go.Eng Go.RowKit

def nowL (T : List ByteArray) (g : Geo) (b : Int) (k : Nat) : List ByteArray := (List.range k).map fun (j : Nat) => T.getD (dataV g b (j : Int)).toNat ByteArray.empty

theorem nowL_succ (T : List ByteArray) (g : Geo) (b : Int) (k : Nat) : nowL T g b (k + 1) = nowL T g b k ++ [T.getD (dataV g b (k : Int)).toNat ByteArray.empty] := by simp [nowL, List.range_succ]
theorem nowL_len (T : List ByteArray) (g : Geo) (b : Int) (k : Nat) : (nowL T g b k).length = k := by simp [nowL]

def nowB (g : Geo) (d : Device) (b : Int) : Bool := checkB d && (geoB g && decide ((d.s.l.length : Int) = totV g ∧ 0 ≤ dataV g b 0))

/-- What stands there, and how it ends. -/
def nowV (g : Geo) (d : Device) (b : Int) : ByteArray × Int :=
  if nowB g d b = true then (if (nowL d.s.l g b g.per.toNat).all (fun x => decide (x.size ≤ 256)) = true then (catS (nowL d.s.l g b g.per.toNat), 0) else (ByteArray.empty, 50)) else (ByteArray.empty, 2)

theorem data_in {g : Geo} {b : Int} (hg : geoB g = true) (h0 : 0 ≤ dataV g b 0) {k : Nat} (hk : (k : Int) < g.per) : ∃ q : Nat, dataV g b (k : Int) = (q : Int) ∧ (q : Int) < totV g := by
  have hf := geo_facts hg
  have hb : 0 ≤ b ∧ b < g.blocks := by
    unfold dataV at h0
    split at h0
    · rename_i h; exact ⟨h.2.1, h.2.2.1⟩
    · omega
  have hd : dataV g b (k : Int) = dataAt g + b * g.per + k := by rw [dataV, if_pos ⟨hg, hb.1, hb.2, by omega, hk⟩]
  have hd0 : dataV g b 0 = dataAt g + b * g.per + 0 := by rw [dataV, if_pos ⟨hg, hb.1, hb.2, by omega, by omega⟩]
  have ht : totV g = dataAt g + g.blocks * g.per := by rw [totV, if_pos hg]
  have hm : (b + 1) * g.per ≤ g.blocks * g.per := Int.mul_le_mul_of_nonneg_right (by omega) (by omega)
  rw [Int.add_mul] at hm
  exact ⟨(dataV g b (k : Int)).toNat, by omega, by omega⟩

theorem takeOk_c (V : Vw) (g : Geo) (bk : Int) (k : Nat) (v : Value) (L : List ByteArray) (got : ByteArray) (hk : (k : Int) < g.per) (hk2 : k ≤ 1000) (hg : got.size ≤ 256) (hn : L.length ≤ 1099511627776) (w : World) (hV : V.le (vw w)) (hs : SlOf V encS 1 v L) :
    Calls Try.prog 14 #[g.val, (⟨bk, k, ⟨v, L⟩⟩ : Fetching).val, S got] w fun e w' => ∃ x V', e = .returned x ∧ Below w.heap.size w w' ∧ Vext w.heap.size V V' w' ∧ ∃ a n c, x = .tuple #[.agg #[I bk, I ((k + 1 : Nat) : Int), .slice a n c], I 0] ∧ SlOf V' encS 1 (.slice a n c) (L ++ [got]) := by
  refine (ftake_c V ⟨bk, k, ⟨v, L⟩⟩ g got w hV hs hn).mono ?_
  rintro e w' ⟨x, V', he, hb, hx, h | h | h⟩
  · omega
  · simp only at h; omega
  · simp only at h
    rw [wrapI (n := (k : Int) + 1) (by omega) (by omega)] at h
    exact ⟨x, V', he, hb, hx, h.2.2⟩

theorem takeBig_c (V : Vw) (g : Geo) (f : Fetching) (got : ByteArray) (hg : 256 < got.size) (hn : f.parts.l.length ≤ 1099511627776) (w : World) (hV : V.le (vw w)) (hs : SlOf V encS 1 f.parts.v f.parts.l) :
    Calls Try.prog 14 #[g.val, f.val, S got] w fun e w' => e = .returned (.tuple #[f.val, I 50]) ∧ Below w.heap.size w w' := by
  refine (ftake_c V f g got w hV hs hn).mono ?_
  rintro e w' ⟨x, V', he, hb, hx, h | h | h⟩
  · exact ⟨by rw [he, h.2], hb⟩
  · omega
  · omega

theorem fnow_c (V : Vw) (g : Geo) (ok : g.Ok) (d : Device) (blk : Int) (w : World) (hV : V.le (vw w)) (hd0 : DevIn V d) : Calls Try.prog 16 #[g.val, d.val, I blk] w fun e w' => e = .returned (.tuple #[S (nowV g d blk).1, I (nowV g d blk).2]) ∧ Below w.heap.size w w' := by
  obtain ⟨⟨sv, sl⟩, ⟨cv, cl⟩, ⟨kv, kl⟩, nx, ⟨fv, fl⟩⟩ := d
  obtain ⟨a1, n1, c1, rfl⟩ := sl_shape hd0.s.sl
  obtain ⟨a2, n2, c2, rfl⟩ := sl_shape hd0.cache.sl
  obtain ⟨a3, n3, c3, rfl⟩ := sl_shape hd0.keys.sl
  obtain ⟨a4, n4, c4, rfl⟩ := sl_shape hd0.fenced.sl
  have hd := hd0.mono hV
  have hS := hd.s
  have hsn := hd.sn
  simp only [maxLen] at hS hsn
  generalize hD : (⟨⟨.slice a1 n1 c1, sl⟩, ⟨.slice a2 n2 c2, cl⟩, ⟨.slice a3 n3 c3, kl⟩, nx, ⟨.slice a4 n4 c4, fl⟩⟩ : Device) = D at *
  have hval : D.val = .agg #[.slice a1 n1 c1, .slice a2 n2 c2, .slice a3 n3 c3, I nx, .slice a4 n4 c4] := by rw [← hD]
  have hDl : D.s.l = sl := by rw [← hD]
  have hchk := fun (w1 : World) (hle : (vw w).le (vw w1)) => dcheck_c (vw w) D w1 hle hd
  have hnb : nowB g D blk = (checkB D && (geoB g && decide ((sl.length : Int) = totV g ∧ 0 ≤ dataV g blk 0))) := by rw [nowB, hDl]
  rw [hval] at hchk ⊢
  clear hD hd hd0 hval
  refine enter (E := E0) (O := []) (nl := 0) (V := vw w) [.a (.v g.val), .a (.v (.agg #[.slice a1 n1 c1, .slice a2 n2 c2, .slice a3 n3 c3, I nx, .slice a4 n4 c4])), .a (.v (I blk))] Try.func16 rfl rfl (mem0 E0 0 w) rfl rfl ?_
  refine c_seq ?_
  refine c_region ?_
  refine o_new tok rfl rfl rfl rfl ?_
  refine o_new tok rfl rfl rfl rfl ?_
  refine o_yield rfl rfl rfl (y_val tok rfl) ?_
  refine o_yield rfl rfl rfl (y_val tok rfl) ?_
  refine o_end [2, 3, 4] rfl ?_
  refine x_then ?_
  refine c_seq ?_
  refine c_seq ?_
  refine c_draw mixed (by kernel_rfl) ?_
  refine d_yield rfl rfl rfl (y_val tok rfl) rfl ?_
  refine d_call (.a (.v _)) rfl rfl fnok42 rfl rfl rfl (fun hg E w1 hm => by exact hchk _ hm.leV) ?_
  refine d_yield rfl rfl rfl (y_val tok rfl) rfl ?_
  refine d_yield rfl rfl rfl (y_val tok rfl) rfl ?_
  refine d_yield rfl rfl rfl (y_val tok rfl) rfl ?_
  refine d_call (.a (.v _)) rfl rfl fnok43 rfl rfl rfl (fun hg E w1 hm => by exact geoMay_c g ok _) ?_
  refine d_yield rfl rfl rfl (y_val tok rfl) rfl ?_
  refine d_yield rfl rfl rfl (y_val tok rfl) rfl ?_
  refine d_yield rfl rfl rfl (y_val tok rfl) rfl ?_
  refine d_yield rfl rfl rfl (y_val tok rfl) rfl ?_
  refine d_yield rfl rfl rfl (y_val tok rfl) rfl ?_
  refine d_yield rfl rfl rfl (y_len tok rfl (fun hg => hS.sl)) rfl ?_
  refine d_yield rfl rfl rfl (y_val tok rfl) rfl ?_
  refine d_call (.a (.v _)) rfl rfl fnok44 rfl rfl rfl (fun hg E w1 hm => by exact total_c g ok _) ?_
  refine d_yield rfl rfl rfl (y_val tok rfl) rfl ?_
  refine d_yield rfl rfl rfl (y_val tok rfl) rfl ?_
  refine d_yield rfl rfl rfl (y_val tok rfl) rfl ?_
  refine d_yield rfl rfl rfl (y_val tok rfl) rfl ?_
  refine d_yield rfl rfl rfl (y_val tok rfl) rfl ?_
  refine d_call (.a (.v _)) rfl rfl fnok38 rfl rfl rfl (fun hg E w1 hm => by exact data_c g ok blk 0 _) ?_
  refine d_yield rfl rfl rfl (y_val tok rfl) rfl ?_
  refine d_yield rfl rfl rfl (y_val tok rfl) rfl ?_
  refine d_end [2, 3, 4, 31] rfl ?_
  refine x_then ?_
  refine c_cond rfl (fun h => ?_) (fun h => ?_)
  ·
    simp only [Bool.and_eq_true, Bool.or_eq_true, Bool.not_eq_true', Bool.or_eq_false_iff, Bool.and_eq_false_iff, decide_eq_true_eq, decide_eq_false_iff_not, beq_iff_eq, bne_iff_ne, Bool.not_eq_false', beq_eq_false_iff_ne, bne_eq_false_iff_eq, ne_eq, Decidable.not_not, Int.not_lt, Int.not_le] at h
    refine c_seq ?_
    refine c_region ?_
    refine o_yield rfl rfl rfl (y_val tok rfl) ?_
    refine o_yield rfl rfl rfl (y_val tok rfl) ?_
    refine o_end [6, 7] rfl ?_
    refine x_then ?_
    refine c_ret ?_
    refine x_then_ret ?_
    refine b_ret tok rfl ?_
    intro E w' hm _
    refine ⟨?_, hm.below (Vw.le.refl _)⟩
    have hno : nowB g D blk = false := by
      rw [Bool.eq_false_iff]
      intro hc
      simp only [hnb, Bool.and_eq_true, decide_eq_true_eq] at hc
      rw [if_pos hc.1, hc.2.1] at h
      simp at h
      omega
    rw [nowV, hno]
    rfl
  ·
    simp only [Bool.and_eq_true, Bool.or_eq_true, Bool.not_eq_true', Bool.or_eq_false_iff, Bool.and_eq_false_iff, decide_eq_true_eq, decide_eq_false_iff_not, beq_iff_eq, bne_iff_ne, Bool.not_eq_false', beq_eq_false_iff_ne, bne_eq_false_iff_eq, ne_eq, Decidable.not_not, Int.not_lt, Int.not_le] at h
    have hyes : nowB g D blk = true := by
      rw [hnb]
      simp only [Bool.and_eq_true, decide_eq_true_eq]
      obtain ⟨⟨⟨h1, h2⟩, h3⟩, h4⟩ := h
      refine ⟨?_, h2, by omega, by omega⟩
      by_cases hc : checkB D = true
      · exact hc
      · rw [if_neg hc] at h1; omega
    simp only [hnb, Bool.and_eq_true, decide_eq_true_eq] at hyes
    obtain ⟨hck, hgg, htot, hd0⟩ := hyes
    clear h
    have hf := geo_facts hgg
    obtain ⟨per, hper⟩ : ∃ per : Nat, g.per = per := ⟨g.per.toNat, by omega⟩
    have hpn : g.per.toNat = per := by omega
    refine c_skip ?_
    refine x_then ?_
    refine c_seq ?_
    refine c_region ?_
    refine o_yield rfl rfl rfl (y_val tok rfl) ?_
    refine o_yield rfl rfl rfl (y_val tok rfl) ?_
    refine o_new tok rfl rfl rfl rfl ?_
    refine o_store tok rfl rfl rfl (by first | exact ⟨trivial, trivial⟩ | (repeat' first | exact trivial | exact rfl | apply And.intro); done | simp [onesP, oneP, lk, Value.oneCell']) ?_
    refine o_end [2, 3, 4, 8] rfl ?_
    refine x_then ?_
    refine c_seq ?_
    refine c_seq ?_
    refine c_region ?_
    refine o_yield rfl rfl rfl (y_val tok rfl) ?_
    refine o_end [2, 3, 4, 8] rfl ?_
    refine x_then ?_
    refine c_block ?_
    have hnv : nowV g D blk = if (nowL sl g blk per).all (fun x => decide (x.size ≤ 256)) = true then (catS (nowL sl g blk per), 0) else (ByteArray.empty, 50) := by
      rw [nowV, if_pos (by rw [hnb, hck, hgg, decide_eq_true ⟨htot, hd0⟩]; rfl), hDl, hpn]
    refine c_loopV [2, 3, 4, 8] [0, 1, 2] rfl rfl (σ := Nat × Value × Vw) (fun y => []) (fun y => [(0, .lit (g.cells.map .v) 23), (1, .lit [.v (.slice a1 n1 c1), .v (.slice a2 n2 c2), .v (.slice a3 n3 c3), .v (I nx), .v (.slice a4 n4 c4)] 35), (2, .lit [.v (I blk), .v (I y.1), .v y.2.1] 47)]) (fun y => y.2.2) (fun y => y.1 ≤ per ∧ (vw w).le y.2.2 ∧ SlOf y.2.2 encS 1 y.2.1 (nowL sl g blk y.1) ∧ (nowL sl g blk y.1).all (fun x => decide (x.size ≤ 256)) = true) (fun y => per - y.1) ((0, .slice none 0 0, vw w)) (⟨by omega, Vw.le.refl _, slNil _ _ _ _ (fun _ => rfl), rfl⟩) (by repeat (first | exact SubF.nil | refine SubF.cons rfl ?_)) (by repeat (first | exact SubO.nil | refine SubO.cons rfl ?_)) rfl (Vw.le.refl _) ?_
    rintro ⟨i, v, W⟩ ⟨hi, hW, hsv, hall⟩
    try dsimp only
    simp only at hi hW hsv hall
    obtain ⟨a5, n5, c5, rfl⟩ := sl_shape hsv.sl
    have hnl := nowL_len sl g blk i
    refine c_seq ?_
    refine c_seq ?_
    refine c_region ?_
    refine o_yield rfl rfl rfl (y_val tok rfl) ?_
    refine o_yield rfl rfl rfl (y_val tok rfl) ?_
    refine o_call (.a (.v _)) rfl rfl fnok13 rfl rfl rfl (fun hg E w1 hm => by exact fover_c ⟨blk, i, ⟨.slice a5 n5 c5, nowL sl g blk i⟩⟩ g _ _ _ rfl _) ?_
    refine o_yield rfl rfl rfl (y_val tok rfl) ?_
    refine o_end [2, 3, 4, 8, 37] rfl ?_
    refine x_then ?_
    refine c_cond rfl (fun h => ?_) (fun h => ?_)
    ·
      simp only [Bool.and_eq_true, Bool.or_eq_true, Bool.not_eq_true', Bool.or_eq_false_iff, Bool.and_eq_false_iff, decide_eq_true_eq, decide_eq_false_iff_not, beq_iff_eq, bne_iff_ne, Bool.not_eq_false', beq_eq_false_iff_ne, bne_eq_false_iff_eq, ne_eq, Decidable.not_not, Int.not_lt, Int.not_le] at h
      obtain ⟨q, hq, hqt⟩ := data_in hgg hd0 (k := i) (by omega)
      obtain ⟨x, h_x⟩ := hS.at (k := q) (by omega)
      have hgd : sl.getD (dataV g blk (i : Int)).toNat ByteArray.empty = x := by rw [hq]; simp [List.getD, h_x]
      have hsucc := nowL_succ sl g blk i
      rw [hgd] at hsucc
      have hSW := hS.mono hW
      have hilt : i < per := by omega
      have hmem : x ∈ nowL sl g blk per := by
        rw [nowL, List.mem_map]
        exact ⟨i, by simp [hilt], hgd⟩
      have hql : q < sl.length := by omega
      clear h
      have hdq : ∀ w1, Calls Try.prog 38 #[g.val, I blk, I (i : Int)] w1 fun e w' => e = .returned (I q) ∧ Below w1.heap.size w1 w' := fun w1 => by have := data_c g ok blk i w1; rw [hq] at this; exact this
      by_cases hbig : 256 < x.size
      · skip
        refine c_skip ?_
        refine x_then ?_
        refine c_block ?_
        refine c_seq ?_
        refine c_heldS [15] mixed rfl (by repeat (first | exact SubO.nil | refine SubO.cons rfl ?_)) (by first | rfl | simp [okCels, allOk_plain]) ?_
        refine t_takeD 0 rfl (by kernel_rfl) rfl rfl rfl (y_val tok rfl) rfl ?_
        refine t_takeD 1 rfl (by kernel_rfl) rfl rfl rfl (y_val tok rfl) rfl ?_
        refine t_takeD 2 rfl (by kernel_rfl) rfl rfl rfl (y_val tok rfl) rfl ?_
        refine t_takeD 3 rfl (by kernel_rfl) rfl rfl rfl (y_val tok rfl) rfl ?_
        refine t_takeD 4 rfl (by kernel_rfl) rfl rfl rfl (y_val tok rfl) rfl ?_
        refine t_takeD 5 rfl (by kernel_rfl) rfl rfl rfl (y_val tok rfl) rfl ?_
        refine t_takeD 6 rfl (by kernel_rfl) rfl rfl rfl (y_val tok rfl) rfl ?_
        refine t_takeD 7 rfl (by kernel_rfl) rfl rfl rfl (y_val tok rfl) rfl ?_
        refine t_go ?_
        refine h_one 8 (by kernel_rfl) ?_
        refine h_call 8 (.a (.v _)) rfl rfl rfl fnok38 rfl rfl rfl (fun hg E w1 hm => by exact hdq _) ?_
        refine h_one 9 (by kernel_rfl) ?_
        refine h_yield 9 rfl rfl rfl rfl (y_idx tok rfl (fun hg => hSW.sl) (fun hg => ⟨by omega, by omega⟩)) ?_
        refine h_one 10 (by kernel_rfl) ?_
        refine h_yield 10 rfl rfl rfl rfl (y_lel tok q 0 x rfl (fun hg => hSW) (fun hg => h_x) rfl rfl) ?_
        refine h_one 11 (by kernel_rfl) ?_
        refine h_call 11 (.a (.v _)) rfl rfl rfl fnok14 rfl rfl rfl (fun hg E w1 hm => by exact takeBig_c W g ⟨blk, i, ⟨.slice a5 n5 c5, nowL sl g blk i⟩⟩ x hbig (by simp only; omega) _ hm.leV hsv) ?_
        refine h_one 12 (by kernel_rfl) ?_
        refine h_yield 12 rfl rfl rfl rfl (y_val tok rfl) ?_
        refine h_takeD 13 rfl (by kernel_rfl) rfl rfl rfl rfl (y_val tok rfl) rfl ?_
        refine h_takeR 14 rfl (by kernel_rfl) rfl rfl rfl (fun _ => y_val tok rfl) rfl ?_
        refine h_one 15 (by kernel_rfl) ?_
        refine h_store 15 tok rfl rfl rfl rfl (by first | exact ⟨trivial, trivial⟩ | (repeat' first | exact trivial | exact rfl | apply And.intro); done | simp [onesP, oneP, lk, Value.oneCell']) (.inl rfl) ?_
        refine h_one 16 (by kernel_rfl) ?_
        refine h_yield 16 rfl rfl rfl rfl (y_val tok rfl) ?_
        refine h_done [2, 3, 4, 8, 9] (by kernel_rfl) rfl ?_
        refine x_then ?_
        refine c_seq ?_
        refine c_region ?_
        refine o_yield rfl rfl rfl (y_val tok rfl) ?_
        refine o_yield rfl rfl rfl (y_val tok rfl) ?_
        refine o_end [2, 3, 4, 8, 9, 54] rfl ?_
        refine x_then ?_
        refine c_cond rfl (fun h => ?_) (fun h => ?_)
        ·
          simp only [Bool.and_eq_true, Bool.or_eq_true, Bool.not_eq_true', Bool.or_eq_false_iff, Bool.and_eq_false_iff, decide_eq_true_eq, decide_eq_false_iff_not, beq_iff_eq, bne_iff_ne, Bool.not_eq_false', beq_eq_false_iff_ne, bne_eq_false_iff_eq, ne_eq, Decidable.not_not, Int.not_lt, Int.not_le] at h
          refine c_seq ?_
          refine c_region ?_
          refine o_yield rfl rfl rfl (y_val tok rfl) ?_
          refine o_yield rfl rfl rfl (y_val tok rfl) ?_
          refine o_yield rfl rfl rfl (y_val tok rfl) ?_
          refine o_end [6, 7] rfl ?_
          refine x_then ?_
          refine c_ret ?_
          refine x_block_ret ?_
          refine x_then_ret ?_
          refine x_block_ret ?_
          refine x_then_ret ?_
          refine b_ret tok rfl ?_
          intro E w' hm _
          refine ⟨?_, hm.below (hW)⟩
          rw [hnv, if_neg (fun hc => by have := List.all_eq_true.1 hc x hmem; simp at this; omega)]
          rfl
        ·
          simp only [Bool.and_eq_true, Bool.or_eq_true, Bool.not_eq_true', Bool.or_eq_false_iff, Bool.and_eq_false_iff, decide_eq_true_eq, decide_eq_false_iff_not, beq_iff_eq, bne_iff_ne, Bool.not_eq_false', beq_eq_false_iff_ne, bne_eq_false_iff_eq, ne_eq, Decidable.not_not, Int.not_lt, Int.not_le] at h
          exfalso
          simp at h
      · skip
        refine c_skip ?_
        refine x_then ?_
        refine c_block ?_
        refine c_seq ?_
        refine c_heldS [15] mixed rfl (by repeat (first | exact SubO.nil | refine SubO.cons rfl ?_)) (by first | rfl | simp [okCels, allOk_plain]) ?_
        refine t_takeD 0 rfl (by kernel_rfl) rfl rfl rfl (y_val tok rfl) rfl ?_
        refine t_takeD 1 rfl (by kernel_rfl) rfl rfl rfl (y_val tok rfl) rfl ?_
        refine t_takeD 2 rfl (by kernel_rfl) rfl rfl rfl (y_val tok rfl) rfl ?_
        refine t_takeD 3 rfl (by kernel_rfl) rfl rfl rfl (y_val tok rfl) rfl ?_
        refine t_takeD 4 rfl (by kernel_rfl) rfl rfl rfl (y_val tok rfl) rfl ?_
        refine t_takeD 5 rfl (by kernel_rfl) rfl rfl rfl (y_val tok rfl) rfl ?_
        refine t_takeD 6 rfl (by kernel_rfl) rfl rfl rfl (y_val tok rfl) rfl ?_
        refine t_takeD 7 rfl (by kernel_rfl) rfl rfl rfl (y_val tok rfl) rfl ?_
        refine t_go ?_
        refine h_one 8 (by kernel_rfl) ?_
        refine h_call 8 (.a (.v _)) rfl rfl rfl fnok38 rfl rfl rfl (fun hg E w1 hm => by exact hdq _) ?_
        refine h_one 9 (by kernel_rfl) ?_
        refine h_yield 9 rfl rfl rfl rfl (y_idx tok rfl (fun hg => hSW.sl) (fun hg => ⟨by omega, by omega⟩)) ?_
        refine h_one 10 (by kernel_rfl) ?_
        refine h_yield 10 rfl rfl rfl rfl (y_lel tok q 0 x rfl (fun hg => hSW) (fun hg => h_x) rfl rfl) ?_
        refine h_one 11 (by kernel_rfl) ?_
        refine h_callV 11 (fun z V' => ∃ a n c, z = .tuple #[.agg #[I blk, I ((i + 1 : Nat) : Int), .slice a n c], I 0] ∧ SlOf V' encS 1 (.slice a n c) (nowL sl g blk i ++ [x])) rfl rfl rfl fnok14 rfl rfl (fun hg E w1 hm => by exact takeOk_c W g blk i _ (nowL sl g blk i) x (by omega) (by omega) (by omega) (by omega) _ hm.leV hsv) ?_
        rintro z W6 hle6 hz
        obtain ⟨a6, n6, c6, rfl, hs6⟩ := hz rfl
        rw [← hsucc] at hs6
        refine h_one 12 (by kernel_rfl) ?_
        refine h_yield 12 rfl rfl rfl rfl (y_val tok rfl) ?_
        refine h_takeD 13 rfl (by kernel_rfl) rfl rfl rfl rfl (y_val tok rfl) rfl ?_
        refine h_takeR 14 rfl (by kernel_rfl) rfl rfl rfl (fun _ => y_val tok rfl) rfl ?_
        refine h_one 15 (by kernel_rfl) ?_
        refine h_store 15 tok rfl rfl rfl rfl (by first | exact ⟨trivial, trivial⟩ | (repeat' first | exact trivial | exact rfl | apply And.intro); done | simp [onesP, oneP, lk, Value.oneCell']) (.inl rfl) ?_
        refine h_one 16 (by kernel_rfl) ?_
        refine h_yield 16 rfl rfl rfl rfl (y_val tok rfl) ?_
        refine h_done [2, 3, 4, 8, 9] (by kernel_rfl) rfl ?_
        refine x_then ?_
        refine c_seq ?_
        refine c_region ?_
        refine o_yield rfl rfl rfl (y_val tok rfl) ?_
        refine o_yield rfl rfl rfl (y_val tok rfl) ?_
        refine o_end [2, 3, 4, 8, 9, 54] rfl ?_
        refine x_then ?_
        refine c_cond rfl (fun h => ?_) (fun h => ?_)
        ·
          simp only [Bool.and_eq_true, Bool.or_eq_true, Bool.not_eq_true', Bool.or_eq_false_iff, Bool.and_eq_false_iff, decide_eq_true_eq, decide_eq_false_iff_not, beq_iff_eq, bne_iff_ne, Bool.not_eq_false', beq_eq_false_iff_ne, bne_eq_false_iff_eq, ne_eq, Decidable.not_not, Int.not_lt, Int.not_le] at h
          exfalso
          simp at h
        ·
          simp only [Bool.and_eq_true, Bool.or_eq_true, Bool.not_eq_true', Bool.or_eq_false_iff, Bool.and_eq_false_iff, decide_eq_true_eq, decide_eq_false_iff_not, beq_iff_eq, bne_iff_ne, Bool.not_eq_false', beq_eq_false_iff_ne, bne_eq_false_iff_eq, ne_eq, Decidable.not_not, Int.not_lt, Int.not_le] at h
          refine c_skip ?_
          refine x_block ?_
          refine x_then ?_
          refine x_round ((i + 1, .slice a6 n6 c6, W6)) (⟨by omega, hW.trans hle6, hs6, by rw [hsucc, List.all_append, hall]; simp; omega⟩) (by first | omega | (dsimp only; omega)) (by repeat (first | exact SubF.nil | refine SubF.cons rfl ?_)) (by repeat (first | exact SubO.nil | refine SubO.cons rfl ?_)) rfl (Vw.le.refl _)
    ·
      simp only [Bool.and_eq_true, Bool.or_eq_true, Bool.not_eq_true', Bool.or_eq_false_iff, Bool.and_eq_false_iff, decide_eq_true_eq, decide_eq_false_iff_not, beq_iff_eq, bne_iff_ne, Bool.not_eq_false', beq_eq_false_iff_ne, bne_eq_false_iff_eq, ne_eq, Decidable.not_not, Int.not_lt, Int.not_le] at h
      refine c_exit ?_
      refine x_then_exit ?_
      refine x_then_exit ?_
      refine x_block_hit ?_
      refine x_then ?_
      refine c_seq ?_
      refine c_region ?_
      refine o_yield rfl rfl rfl (y_val tok rfl) ?_
      have hip : i = per := by omega
      subst hip
      have hcl : (catL (nowL sl g blk i)).length ≤ 256 * 8 := by
        have : ∀ (l : List ByteArray), l.all (fun x => decide (x.size ≤ 256)) = true → (catL l).length ≤ 256 * l.length := by
          intro l
          induction l with
          | nil => intro _; simp [catL]
          | cons a r ih =>
            intro h
            rw [List.all_cons, Bool.and_eq_true, decide_eq_true_eq] at h
            have := ih h.2
            have hz := size_list a
            simp only [catL, List.flatMap_cons, List.length_append, List.length_cons] at this ⊢
            omega
        have := this _ hall
        omega
      refine o_call (.a (.v _)) rfl rfl fnok17 rfl rfl rfl (fun hg E w1 hm => by exact ftext_c W ⟨blk, i, ⟨.slice a5 n5 c5, nowL sl g blk i⟩⟩ _ hm.leV hsv (by simp only; omega) (by simp only; omega)) ?_
      refine o_yield rfl rfl rfl (y_val tok rfl) ?_
      refine o_yield rfl rfl rfl (y_val tok rfl) ?_
      refine o_end [6, 7] rfl ?_
      refine x_then ?_
      refine c_ret ?_
      refine b_ret tok rfl ?_
      intro E w' hm _
      refine ⟨?_, hm.below (hW)⟩
      rw [hnv, if_pos hall]
      rfl
end Go.Proofs.Ytipmgnhbcaniiaa

/- A block as it stands: the document's. -/
set_option linter.unusedVariables false
set_option linter.unusedSimpArgs false
set_option maxRecDepth 100000
namespace Go.Proofs.Ytipmgnhbcaniiaa
open Go Go.Eng Go.RowKit

theorem catL_le : ∀ (l : List ByteArray), l.all (fun x => decide (x.size ≤ 256)) = true → (catL l).length ≤ 256 * l.length
  | [], _ => by simp [catL]
  | a :: r, h => by
    rw [List.all_cons, Bool.and_eq_true, decide_eq_true_eq] at h
    have := catL_le r h.2
    have hz := size_list a
    simp only [catL, List.flatMap_cons, List.length_append, List.length_cons] at this ⊢
    omega

end Go.Proofs.Ytipmgnhbcaniiaa

/- A new device: the document's. -/
set_option linter.unusedVariables false
set_option linter.unusedSimpArgs false
set_option maxRecDepth 100000
namespace Go.Proofs.Ytipmgnhbcaniiaa
open Go Go.Eng Go.RowKit

def newDev (sl : List ByteArray) (n : Nat) (sv cv kv : Value) : Device := ⟨⟨sv, sl⟩, ⟨cv, List.replicate n ⟨.slice none 0 0, []⟩⟩, ⟨kv, List.replicate n 0⟩, 1, ⟨.slice none 0 0, []⟩⟩

end Go.Proofs.Ytipmgnhbcaniiaa

/- What is settled, act by act: plain. -/
set_option linter.unusedVariables false
set_option linter.unusedSimpArgs false
set_option maxRecDepth 100000
namespace Go.Proofs.Ytipmgnhbcaniiaa
open Go Go.Eng Go.RowKit

def wrS (T : List ByteArray) (c : Cell) : List ByteArray := T.set c.sector.toNat c.b
def wrA (T : List ByteArray) (l : List Cell) : List ByteArray := l.foldl wrS T

theorem wrA_len (l : List Cell) : ∀ T : List ByteArray, (wrA T l).length = T.length := by
  induction l with
  | nil => intro T; rfl
  | cons c r ih => intro T; rw [wrA, List.foldl_cons]; exact (ih _).trans (by rw [wrS, List.length_set])

theorem wrA_snoc (T : List ByteArray) (l : List Cell) (c : Cell) : wrA T (l ++ [c]) = wrS (wrA T l) c := by simp [wrA]

theorem wrA_off {q : Nat} : ∀ (l : List Cell) (T : List ByteArray), (∀ c ∈ l, c.sector.toNat ≠ q) → (wrA T l)[q]? = T[q]?
  | [], T, _ => rfl
  | c :: r, T, h => by
    have ih := wrA_off r (wrS T c) (fun x hx => h x (List.mem_cons_of_mem _ hx))
    rw [wrA, List.foldl_cons]
    refine ih.trans ?_
    rw [wrS, List.getElem?_set_ne (h c List.mem_cons_self)]

theorem wrA_at : ∀ (l : List Cell) (T : List ByteArray) (c : Cell), c ∈ l → (∀ i j : Nat, i < j → ∀ x y : Cell, l[i]? = some x → l[j]? = some y → x.sector.toNat ≠ y.sector.toNat) → c.sector.toNat < T.length → (wrA T l)[c.sector.toNat]? = some c.b
  | [], T, c, hc, _, _ => by cases hc
  | x :: r, T, c, hc, hp, hlt => by
    rw [wrA, List.foldl_cons]
    rcases List.mem_cons.1 hc with rfl | hc
    · have := wrA_off (q := c.sector.toNat) r (wrS T c) (fun y hy => by
        obtain ⟨j, hj⟩ := List.mem_iff_getElem?.1 hy
        exact (hp 0 (j + 1) (by omega) c y rfl (by simpa using hj)).symm)
      refine this.trans ?_
      rw [wrS, List.getElem?_set_self hlt]
    · exact wrA_at r (wrS T x) c hc (fun i j hij a b ha hb => hp (i + 1) (j + 1) (by omega) a b (by simpa using ha) (by simpa using hb)) (by rw [wrS, List.length_set]; exact hlt)

/-- Cells of unlike sectors of a device, each not too great. -/
structure CellsOk (n : Int) (l : List Cell) : Prop where
  lo : ∀ c ∈ l, 0 ≤ c.sector ∧ c.sector < n ∧ c.b.size ≤ 512
  up : ∀ i j : Nat, i < j → ∀ x y : Cell, l[i]? = some x → l[j]? = some y → x.sector < y.sector

theorem CellsOk.ne {n : Int} {l : List Cell} (h : CellsOk n l) : ∀ i j : Nat, i < j → ∀ x y : Cell, l[i]? = some x → l[j]? = some y → x.sector.toNat ≠ y.sector.toNat := by
  intro i j hij x y hx hy
  have h1 := h.up i j hij x y hx hy
  have h2 := h.lo x (List.mem_of_getElem? hx)
  omega

theorem CellsOk.drop {n : Int} {l : List Cell} (h : CellsOk n l) (k : Nat) : CellsOk n (l.drop k) :=
  ⟨fun c hc => h.lo c (List.mem_of_mem_drop hc), fun i j hij x y hx hy => h.up (k + i) (k + j) (by omega) x y (by rwa [List.getElem?_drop] at hx) (by rwa [List.getElem?_drop] at hy)⟩

theorem CellsOk.take {n : Int} {l : List Cell} (h : CellsOk n l) (k : Nat) : CellsOk n (l.take k) := by
  have ht : ∀ (i : Nat) (x : Cell), (l.take k)[i]? = some x → l[i]? = some x := fun i x hx => by
    rw [List.getElem?_take] at hx
    split at hx
    · exact hx
    · cases hx
  exact ⟨fun c hc => h.lo c (List.mem_of_mem_take hc), fun i j hij x y hx hy => h.up i j hij x y (ht i x hx) (ht j y hy)⟩

theorem cacheF_ok {n : Int} : ∀ (l : List Cell) (seen : List Int), CellsOk n l → (∀ c ∈ l, ¬ c.sector ∈ seen) → cacheF n seen l = true
  | [], _, _, _ => rfl
  | c :: r, seen, h, hs => by
    obtain ⟨h1, h2, h3⟩ := h.lo c List.mem_cons_self
    refine cacheF_cons.2 ⟨⟨h1, h2, h3, hs c List.mem_cons_self⟩, cacheF_ok r _ (h.drop 1) (fun x hx hm => ?_)⟩
    rcases List.mem_append.1 hm with hm | hm
    · exact hs x (List.mem_cons_of_mem _ hx) hm
    · obtain ⟨j, hj⟩ := List.mem_iff_getElem?.1 hx
      have := h.up 0 (j + 1) (by omega) c x rfl (by simpa using hj)
      simp at hm
      omega

theorem data_lt {g : Geo} {n k : Int} (hg : geoB g = true) (h1 : 0 ≤ n) (h2 : n < g.blocks) (h3 : 0 ≤ k) (h4 : k < g.per) : dataAt g ≤ dataV g n k ∧ dataV g n k < totV g ∧ 1 ≤ dataAt g := by
  have hf := geo_facts hg
  have m1 := Int.mul_nonneg h1 (show 0 ≤ g.per by omega)
  have m2 : (n + 1) * g.per ≤ g.blocks * g.per := Int.mul_le_mul_of_nonneg_right (by omega) (by omega)
  have m3 := Int.mul_nonneg (show 0 ≤ g.slots by omega) (show 0 ≤ 1 + g.journal by omega)
  rw [Int.add_mul] at m2
  have hd : dataAt g = 1 + 2 * g.nodes + g.log + g.slots * (1 + g.journal) := rfl
  rw [dataV_eq hg h1 h2 h3 h4, totV, if_pos hg]
  omega

theorem piece_size (t : ByteArray) (k : Nat) : (pieceAt t k).size ≤ 256 := by
  have := piece_list t k
  have h2 : (pieceAt t k).data.toList.length ≤ 256 := by rw [this]; rw [List.length_take]; omega
  have h3 := size_list (pieceAt t k)
  omega

theorem cells_ok {g : Geo} {l : List Block} (hm : mayL g l = true) : CellsOk (totV g) (allCells g l) := by
  have hm2 := hm
  rw [mayL, Bool.and_eq_true] at hm2
  obtain ⟨hg, hmf⟩ := hm2
  have hf := geo_facts hg
  have hat := mayF_at hmf
  have hper : g.per = (g.per.toNat : Int) := by omega
  have hp : 0 < g.per.toNat := by omega
  constructor
  · intro c hc
    rw [allCells, cellsN, List.mem_map] at hc
    obtain ⟨j, hj, rfl⟩ := hc
    rw [List.mem_range] at hj
    have hd : j / g.per.toNat < l.length := (Nat.div_lt_iff_lt_mul hp).2 hj
    have hmod := Nat.mod_lt j hp
    obtain ⟨b, hb⟩ : ∃ b, l[j / g.per.toNat]? = some b := ⟨l[j / g.per.toNat], by simp [hd]⟩
    obtain ⟨_, k2, _, k4, _⟩ := hat _ b hb
    have hs := data_lt (n := b.n) (k := ((j % g.per.toNat : Nat) : Int)) hg (by omega) k2 (by omega) (by omega)
    have hz := piece_size b.text (j % g.per.toNat)
    rw [cellAt, blkAt_eq hb]
    dsimp only
    omega
  · have hup : ∀ d i : Nat, i + d + 1 < l.length * g.per.toNat → (cellAt g g.per.toNat l i).sector < (cellAt g g.per.toNat l (i + d + 1)).sector := by
      intro d
      induction d with
      | zero => intro i hi; exact cell_up (i := i + 0 + 1) hm hper hi (by omega)
      | succ d ih =>
        intro i hi
        have h1 := ih i (by omega)
        have h2 := cell_up (i := i + (d + 1) + 1) hm hper hi (by omega)
        rw [show i + (d + 1) + 1 - 1 = i + d + 1 by omega] at h2
        omega
    intro i j hij x y hx hy
    have hj : j < l.length * g.per.toNat := by
      have := (List.getElem?_eq_some_iff.1 hy).1
      rwa [allCells, cellsN_len] at this
    rw [allCells, cellsN_at (by omega)] at hx
    rw [allCells, cellsN_at hj] at hy
    cases hx; cases hy
    have := hup (j - i - 1) i (by omega)
    rw [show i + (j - i - 1) + 1 = j by omega] at this
    exact this

theorem fmt_data {g : Geo} (hg : geoB g = true) (top hd : ByteArray) {q : Nat} (hq : dataAt g ≤ (q : Int)) (hq2 : (q : Int) < totV g) : ∀ i : Nat, (i : Int) ≤ g.slots → (fmtTo g top hd i)[q]? = some ByteArray.empty
  | 0, _ => by
    have hf := geo_facts hg
    have m3 := Int.mul_nonneg (show 0 ≤ g.slots by omega) (show 0 ≤ 1 + g.journal by omega)
    have hd : dataAt g = 1 + 2 * g.nodes + g.log + g.slots * (1 + g.journal) := rfl
    rw [fmtTo, List.getElem?_set_ne (by omega), List.getElem?_replicate, if_pos (by omega)]
  | i + 1, hi => by
    have hf := geo_facts hg
    have hh : headV g (i : Int) = 1 + 2 * g.nodes + g.log + (i : Int) * (1 + g.journal) := by rw [headV, if_pos ⟨hg, by omega, by omega⟩]
    have hd : dataAt g = 1 + 2 * g.nodes + g.log + g.slots * (1 + g.journal) := rfl
    have h1 : 0 ≤ (i : Int) * (1 + g.journal) := Int.mul_nonneg (by omega) (by omega)
    have h2 : ((i : Int) + 1) * (1 + g.journal) ≤ g.slots * (1 + g.journal) := Int.mul_le_mul_of_nonneg_right (by omega) (by omega)
    rw [Int.add_mul] at h2
    rw [fmtTo, List.getElem?_set_ne (by omega)]
    exact fmt_data hg top _ hq hq2 i (by omega)

theorem data_inj {g : Geo} (hg : geoB g = true) {n k n' k' : Int} (h1 : 0 ≤ n) (h2 : n < g.blocks) (h3 : 0 ≤ k) (h4 : k < g.per) (h1' : 0 ≤ n') (h2' : n' < g.blocks) (h3' : 0 ≤ k') (h4' : k' < g.per) (h : dataV g n k = dataV g n' k') : n = n' := by
  rw [dataV_eq hg h1 h2 h3 h4, dataV_eq hg h1' h2' h3' h4'] at h
  rcases Int.lt_trichotomy n n' with hlt | heq | hlt
  · have : (n + 1) * g.per ≤ n' * g.per := Int.mul_le_mul_of_nonneg_right (by omega) (by omega)
    rw [Int.add_mul] at this
    omega
  · exact heq
  · have : (n' + 1) * g.per ≤ n * g.per := Int.mul_le_mul_of_nonneg_right (by omega) (by omega)
    rw [Int.add_mul] at this
    omega

theorem getB_at {n : Int} : ∀ (l : List Block), (∃ (i : Nat) (b : Block), l[i]? = some b ∧ b.n = n ∧ getB l n = (b.text, true)) ∨ ((∀ b ∈ l, b.n ≠ n) ∧ getB l n = (ByteArray.empty, false))
  | [] => .inr ⟨by simp, rfl⟩
  | b :: r => by
    rw [getB]
    by_cases h : b.n = n
    · exact .inl ⟨0, b, rfl, h, by rw [if_pos h]⟩
    · rw [if_neg h]
      rcases getB_at r with ⟨i, c, h1, h2, h3⟩ | ⟨h1, h2⟩
      · exact .inl ⟨i + 1, c, by simpa using h1, h2, h3⟩
      · exact .inr ⟨fun x hx => by
          rcases List.mem_cons.1 hx with rfl | hx
          · exact h
          · exact h1 x hx, h2⟩

/-- What stands behind all writes is each block's text. -/
theorem now_put {g : Geo} {l : List Block} {S : List ByteArray} (hm : mayL g l = true) {n : Int} (h0 : 0 ≤ n) (h1 : n < g.blocks) (top hd : ByteArray) (hS : ∀ q : Nat, dataAt g ≤ (q : Int) → (q : Int) < totV g → S[q]? = (wrA (fmtTo g top hd g.slots.toNat) (allCells g l))[q]?) :
    catS (nowL S g n g.per.toNat) = (getB l n).1 := by
  have hok := cells_ok hm
  have hm2 := hm
  rw [mayL, Bool.and_eq_true] at hm2
  obtain ⟨hg, hmf⟩ := hm2
  have hf := geo_facts hg
  have hat := mayF_at hmf
  have hfl := fmtTo_len g top hd g.slots.toNat
  rcases getB_at l (n := n) with ⟨i, b, hb, hbn, hget⟩ | ⟨hno, hget⟩
  · obtain ⟨_, k2, k3, k4, _⟩ := hat i b hb
    have hil := (List.getElem?_eq_some_iff.1 hb).1
    rw [hget]
    dsimp only
    have hnow : nowL S g n g.per.toNat = pieceL g.per.toNat b.text := by
      rw [nowL, pieceL]
      apply List.map_congr_left
      intro j hj
      rw [List.mem_range] at hj
      have hdl := data_lt (n := n) (k := (j : Int)) hg h0 h1 (by omega) (by omega)
      have hc : (⟨dataV g b.n ((j : Nat) : Int), pieceAt b.text j⟩ : Cell) ∈ allCells g l := by
        rw [allCells, cellsN, List.mem_map]
        refine ⟨i * g.per.toNat + j, ?_, cellAt_eq g hb hj⟩
        rw [List.mem_range]
        have : (i + 1) * g.per.toNat ≤ l.length * g.per.toNat := Nat.mul_le_mul_right _ hil
        rw [Nat.add_mul] at this
        omega
      have hw := wrA_at _ (fmtTo g top hd g.slots.toNat) _ hc hok.ne (by rw [hfl]; dsimp only; rw [hbn]; omega)
      dsimp only at hw
      rw [hbn] at hw
      rw [List.getD, hS _ (by omega) (by omega), hw]
      rfl
    rw [hnow, catS_pieces (by omega)]
  · rw [hget]
    dsimp only
    have hnow : nowL S g n g.per.toNat = List.replicate g.per.toNat ByteArray.empty := by
      rw [nowL, List.eq_replicate_iff]
      refine ⟨by simp, fun x hx => ?_⟩
      rw [List.mem_map] at hx
      obtain ⟨j, hj, rfl⟩ := hx
      rw [List.mem_range] at hj
      have hdl := data_lt (n := n) (k := (j : Int)) hg h0 h1 (by omega) (by omega)
      rw [List.getD, hS _ (by omega) (by omega), wrA_off, fmt_data hg top _ (by omega) (by omega) _ (by omega)]
      · rfl
      · intro c hc he
        rw [allCells, cellsN, List.mem_map] at hc
        obtain ⟨j', hj', rfl⟩ := hc
        rw [List.mem_range] at hj'
        have hp : 0 < g.per.toNat := by omega
        have hdd' : j' / g.per.toNat < l.length := (Nat.div_lt_iff_lt_mul hp).2 hj'
        have hmod := Nat.mod_lt j' hp
        obtain ⟨b, hb⟩ : ∃ b, l[j' / g.per.toNat]? = some b := ⟨l[j' / g.per.toNat], by simp [hdd']⟩
        obtain ⟨_, k2, _, k4, _⟩ := hat _ b hb
        rw [cellAt, blkAt_eq hb] at he
        dsimp only at he
        have hdl2 := data_lt (n := b.n) (k := ((j' % g.per.toNat : Nat) : Int)) hg (by omega) k2 (by omega) (by omega)
        exact hno b (List.mem_of_getElem? hb) (data_inj hg (by omega) k2 (by omega) (by omega) h0 h1 (by omega) (by omega) (show dataV g b.n ((j' % g.per.toNat : Nat) : Int) = dataV g n (j : Int) by omega))
    rw [hnow]
    have : ∀ k, catL (List.replicate k ByteArray.empty) = [] := by
      intro k
      induction k with
      | zero => rfl
      | succ k ih => rw [List.replicate_succ, catL, List.flatMap_cons, ← catL, ih]; rfl
    rw [catS, this]
    rfl
end Go.Proofs.Ytipmgnhbcaniiaa
