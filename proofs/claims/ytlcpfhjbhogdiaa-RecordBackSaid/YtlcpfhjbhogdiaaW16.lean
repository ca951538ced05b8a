/- What the document says of some records. -/
import Derived.Test.YtlcpfhjbhogdiaaWho
set_option linter.unusedVariables false
set_option linter.unusedSimpArgs false
set_option maxRecDepth 100000
namespace Go.Proofs.Ytlcpfhjbhogdiaa
open Go Go.Eng Go.RowKit

/-- record.Of, its rows as ones that nobody writes. -/
def OfVal (g : Geo) (key lsn : Int) (l : List Block) (x : Value) (V' : Vw) : Prop :=
  (OfOk g key lsn l ∧ ∃ v, x = .tuple #[v, I 0] ∧ SlOf V' Record.cells 6 v (allRecs g key lsn l)) ∨ (¬ OfOk g key lsn l ∧ x = .tuple #[.slice none 0 0, I 2])

theorem of_cV (V : Vw) (g : Geo) (ok : g.Ok) (key lsn : Int) (sv : Value) (l : List Block) (w : World) (hV : V.le (vw w)) (hs : SlOf V Block.cells 2 sv l) (hn : l.length ≤ lim) :
    Calls Try.prog 18 #[g.val, I key, I lsn, sv] w fun e w' => ∃ x V', e = .returned x ∧ Below w.heap.size w w' ∧ Vext w.heap.size V V' w' ∧ OfVal g key lsn l x V' := by
  refine (of_c V g ok key lsn sv l w hV hs hn).mono ?_
  rintro e w' ⟨h | ⟨h1, rfl⟩, hb⟩
  · obtain ⟨h1, v, rfl, hown⟩ := h
    obtain ⟨V', hx, hsl⟩ := ownsRow_vext hV hb hown
    exact ⟨_, V', rfl, hb, hx, .inl ⟨h1, v, rfl, hsl, fun _ => rfl⟩⟩
  · exact ⟨_, V, rfl, hb, Vext.same hV hb, .inr ⟨h1, rfl⟩⟩

abbrev geoX : Geo := ⟨1, 1, 2, 2, 9, 8, 1, 2⟩
theorem geoX_ok : geoX.Ok := by constructor <;> simp [R64]

def abS : ByteArray := ⟨#[97, 98]⟩

theorem ofX : OfOk geoX 16 7 [⟨1, abS⟩] := by
  refine ⟨by decide, by simp, by decide, by decide, ?_, ?_, by decide⟩
  · intro i b hb
    cases i with
    | zero => simp at hb; subst hb; exact ⟨by decide, by decide, by decide⟩
    | succ i => simp at hb
  · intro j hj
    have : j = 0 ∨ j = 1 := by simp at hj; omega
    rcases this with rfl | rfl <;> decide

theorem recsX : allRecs geoX 16 7 [⟨1, abS⟩] = [⟨16, 7, 1, 0, abS, 0⟩, ⟨16, 8, 1, 1, ByteArray.empty, 0⟩, ⟨16, 9, 0, 0, ByteArray.empty, 2⟩] := by rfl

abbrev rec0 : Record := ⟨0, 0, 0, 0, ByteArray.empty, 0⟩
abbrev rec2 : Record := ⟨0, 0, 0, 0, ByteArray.empty, 2⟩

theorem wakes16_c (w : World) : Calls Try.prog 16 #[] w fun e w' => e = .returned (.bool true) ∧ Below w.heap.size w w' := by
  refine enter (E := E0) (O := []) (nl := 0) (V := vw w) [] Try.func16 rfl rfl (mem0 E0 0 w) rfl rfl ?_
  refine c_seq ?_
  refine c_region ?_
  refine o_yield rfl rfl rfl (y_val tok rfl) ?_
  refine o_end [] rfl ?_
  refine x_then ?_
  refine c_seq ?_
  refine c_region ?_
  refine o_yield rfl rfl rfl (y_val tok rfl) ?_
  refine o_yield rfl rfl rfl (y_val tok rfl) ?_
  refine o_new tok rfl rfl rfl rfl ?_
  refine o_new tok rfl rfl rfl rfl ?_
  refine o_store tok rfl rfl rfl (by first | exact ⟨trivial, trivial⟩ | simp [onesP, oneP, lk, Value.oneCell']) ?_
  refine o_store tok rfl rfl rfl (by first | exact ⟨trivial, trivial⟩ | simp [onesP, oneP, lk, Value.oneCell']) ?_
  refine o_end [1, 2] rfl ?_
  refine x_then ?_
  refine c_seq ?_
  refine c_region ?_
  refine o_yield rfl rfl rfl (y_val tok rfl) ?_
  refine o_new tok rfl rfl rfl rfl ?_
  refine o_store tok rfl rfl rfl (by first | exact ⟨trivial, trivial⟩ | simp [onesP, oneP, lk, Value.oneCell']) ?_
  refine o_end [1, 2, 3] rfl ?_
  refine x_then ?_
  refine c_seq ?_
  refine c_region ?_
  refine o_yield rfl rfl rfl (y_val tok rfl) ?_
  refine o_yield rfl rfl rfl (y_val tok rfl) ?_
  refine o_bs tok rfl rfl rfl rfl (fun b1 V1 hle1 hb1 => ?_)
  refine o_callV (OfVal geoX 16 7 [⟨1, abS⟩]) rfl rfl fnok18 rfl rfl (fun hg E w1 hm => by exact of_cV V1 geoX geoX_ok 16 7 _ [⟨1, abS⟩] _ hm.leV (SlOf.ofBlock (enc := Block.cells) (sz := 2) (l := [⟨1, abS⟩]) (hb1 rfl) rfl (fun _ => rfl) (Nat.le_refl _)) (by simp [lim])) ?_
  rintro x V2 hle2 hx
  rcases hx rfl with ⟨_, v, rfl, hsl⟩ | ⟨hno, _⟩
  rotate_left
  · exact absurd ofX hno
  rw [recsX] at hsl
  refine o_yield rfl rfl rfl (y_val tok rfl) ?_
  refine o_yield rfl rfl rfl (y_val tok rfl) ?_
  refine o_yield rfl rfl rfl (y_val tok rfl) ?_
  refine o_yield rfl rfl rfl (y_val tok rfl) ?_
  refine o_yield rfl rfl rfl (y_val tok rfl) ?_
  refine o_end [1, 2, 3, 4, 5] rfl ?_
  refine x_then ?_
  refine c_seq ?_
  refine c_region ?_
  refine o_yield rfl rfl rfl (y_val tok rfl) ?_
  refine o_yield rfl rfl rfl (y_val tok rfl) ?_
  refine o_yield rfl rfl rfl (y_val tok rfl) ?_
  refine o_yield rfl rfl rfl (y_val tok rfl) ?_
  refine o_bs tok rfl rfl rfl rfl (fun b3 V3 hle3 hb3 => ?_)
  refine o_call (.a (.v _)) rfl rfl fnok20 rfl rfl rfl (fun hg E w1 hm => by exact whole_c V3 _ [rec0, rec0, rec2, rec0] _ hm.leV (SlOf.ofBlock (enc := Record.cells) (sz := 6) (l := [rec0, rec0, rec2, rec0]) (hb3 rfl) rfl (fun _ => rfl) (Nat.le_refl _)) (by simp [lim])) ?_
  refine o_yield rfl rfl rfl (y_val tok rfl) ?_
  refine o_yield rfl rfl rfl (y_val tok rfl) ?_
  refine o_yield rfl rfl rfl (y_val tok rfl) ?_
  refine o_yield rfl rfl rfl (y_val tok rfl) ?_
  refine o_bs tok rfl rfl rfl rfl (fun b4 V4 hle4 hb4 => ?_)
  refine o_call (.a (.v _)) rfl rfl fnok20 rfl rfl rfl (fun hg E w1 hm => by exact whole_c V4 _ [rec0, rec2] _ hm.leV (SlOf.ofBlock (enc := Record.cells) (sz := 6) (l := [rec0, rec2]) (hb4 hg) rfl (fun _ => rfl) (Nat.le_refl _)) (by simp [lim])) ?_
  refine o_yield rfl rfl rfl (y_val tok rfl) ?_
  refine o_yield rfl rfl rfl (y_val tok rfl) ?_
  refine o_yield rfl rfl rfl (y_val tok rfl) ?_
  refine o_yield rfl rfl rfl (y_val tok rfl) ?_
  refine o_yield rfl rfl rfl (y_val tok rfl) ?_
  refine o_yield rfl rfl rfl (y_val tok rfl) ?_
  refine o_yield rfl rfl rfl (y_val tok rfl) ?_
  refine o_yield rfl rfl rfl (y_val tok rfl) ?_
  have hsl' := hsl.mono (hle3.trans hle4)
  refine o_yield rfl rfl rfl (y_len tok rfl (fun hg => hsl'.sl)) ?_
  refine o_yield rfl rfl rfl (y_val tok rfl) ?_
  refine o_yield rfl rfl rfl (y_val tok rfl) ?_
  refine o_yield rfl rfl rfl (y_val tok rfl) ?_
  refine o_yield rfl rfl rfl (y_val tok rfl) ?_
  refine o_yield rfl rfl rfl (y_idx tok rfl (fun hg => hsl'.sl) (fun hg => ⟨by decide, by decide⟩)) ?_
  refine o_yield rfl rfl rfl (y_fel tok rfl (fun hg => hsl'.sl) (fun hg => by decide)) ?_
  refine o_yield rfl rfl rfl (y_lel tok (0) 4 (_) rfl (fun hg => hsl') (fun hg => rfl) rfl rfl) ?_
  refine o_yield rfl rfl rfl (y_val tok rfl) ?_
  refine o_yield rfl rfl rfl (y_val tok rfl) ?_
  refine o_yield rfl rfl rfl (y_val tok rfl) ?_
  refine o_yield rfl rfl rfl (y_val tok rfl) ?_
  refine o_yield rfl rfl rfl (y_idx tok rfl (fun hg => hsl'.sl) (fun hg => ⟨by decide, by decide⟩)) ?_
  refine o_yield rfl rfl rfl (y_fel tok rfl (fun hg => hsl'.sl) (fun hg => by decide)) ?_
  refine o_yield rfl rfl rfl (y_lel tok (1) 4 (_) rfl (fun hg => hsl') (fun hg => rfl) rfl rfl) ?_
  refine o_yield rfl rfl rfl (y_val tok rfl) ?_
  refine o_yield rfl rfl rfl (y_val tok rfl) ?_
  refine o_yield rfl rfl rfl (y_val tok rfl) ?_
  refine o_yield rfl rfl rfl (y_val tok rfl) ?_
  refine o_yield rfl rfl rfl (y_idx tok rfl (fun hg => hsl'.sl) (fun hg => ⟨by decide, by decide⟩)) ?_
  refine o_yield rfl rfl rfl (y_fel tok rfl (fun hg => hsl'.sl) (fun hg => by decide)) ?_
  refine o_yield rfl rfl rfl (y_lel tok (2) 5 (_) rfl (fun hg => hsl') (fun hg => rfl) rfl rfl) ?_
  refine o_yield rfl rfl rfl (y_val tok rfl) ?_
  refine o_yield rfl rfl rfl (y_val tok rfl) ?_
  refine o_yield rfl rfl rfl (y_val tok rfl) ?_
  refine o_yield rfl rfl rfl (y_val tok rfl) ?_
  refine o_yield rfl rfl rfl (y_idx tok rfl (fun hg => hsl'.sl) (fun hg => ⟨by decide, by decide⟩)) ?_
  refine o_yield rfl rfl rfl (y_fel tok rfl (fun hg => hsl'.sl) (fun hg => by decide)) ?_
  refine o_yield rfl rfl rfl (y_lel tok (2) 1 (_) rfl (fun hg => hsl') (fun hg => rfl) rfl rfl) ?_
  refine o_yield rfl rfl rfl (y_val tok rfl) ?_
  refine o_yield rfl rfl rfl (y_val tok rfl) ?_
  refine o_yield rfl rfl rfl (y_val tok rfl) ?_
  refine o_yield rfl rfl rfl (y_val tok rfl) ?_
  refine o_call (.a (.v _)) rfl rfl fnok19 rfl rfl rfl (fun hg E w1 hm => by exact many_c geoX geoX_ok _ _) ?_
  refine o_yield rfl rfl rfl (y_val tok rfl) ?_
  refine o_yield rfl rfl rfl (y_val tok rfl) ?_
  refine o_yield rfl rfl rfl (y_val tok rfl) ?_
  refine o_end [0] rfl ?_
  refine x_then ?_
  refine c_ret ?_
  refine b_ret tok rfl ?_
  intro E w' hm _
  refine ⟨?_, hm.below ((((hle1.trans hle2).trans hle3)).trans hle4)⟩
  show Ending.returned (.bool _) = Ending.returned (.bool true)
  congr 2
  simp only [ByteArray.toList_eq]
  decide
end Go.Proofs.Ytlcpfhjbhogdiaa
