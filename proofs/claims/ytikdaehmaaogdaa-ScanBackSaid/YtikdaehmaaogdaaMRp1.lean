import Derived.Test.YtikdaehmaaogdaaMLLn
import Derived.Test.YtikdaehmaaogdaaEng39
/- What is whole of a journal's records; blocks where nothing is whole. -/
set_option linter.unusedVariables false
set_option linter.unusedSimpArgs false
set_option maxRecDepth 100000
namespace Go.Proofs.Ytikdaehmaaogdaa
open Go Go.Eng Go.RowKit

theorem sl_cap {V : Vw} {v : Value} {sz m : Nat} {xs : List Value} (h : IsSl V v sz m xs) : ∃ a c, v = .slice a m c ∧ m ≤ c ∧ IsSl V (.slice a m m) sz m xs := by
  rcases h with ⟨h0, ⟨a, c, rfl, rfl⟩ | ⟨b, off, cap, cs, e, f, rfl, hg, hle, hx, hc⟩⟩
  · exact ⟨a, c, rfl, Nat.zero_le _, h0, .inl ⟨a, 0, rfl, rfl⟩⟩
  · exact ⟨_, cap, rfl, hc, h0, .inr ⟨b, off, m, cs, e, f, rfl, hg, hle, hx, Nat.le_refl _⟩⟩

theorem sl_pre {V : Vw} {a : Option Addr} {m c sz : Nat} {xs : List Value} (h : IsSl V (.slice a m c) sz m xs) {k : Nat} (hk : k ≤ m) : IsSl V (.slice a k k) sz k (xs.take (k * sz)) := by
  obtain ⟨h0, h1⟩ := h
  have hm := Nat.mul_le_mul_right sz hk
  refine ⟨by rw [List.length_take]; omega, ?_⟩
  rcases h1 with ⟨a', c', he, rfl⟩ | ⟨b, off, cap, cs, e, f, he, hg, hle, hx, hc⟩
  · cases he
    have : k = 0 := by omega
    subst this
    exact .inl ⟨_, _, rfl, rfl⟩
  · cases he
    refine .inr ⟨b, off, k, cs, e, f, rfl, hg, by omega, ?_, Nat.le_refl _⟩
    rw [hx, List.take_take]
    congr 1
    omega

theorem sl_take {α : Type} {V : Vw} {enc : α → List Value} {sz : Nat} {a : Option Addr} {n c : Nat} {l : List α} (h : SlOf V enc sz (.slice a n c) l) {k : Nat} (hk : k ≤ l.length) : SlOf V enc sz (.slice a k k) (l.take k) := by
  obtain ⟨a', c', he, _, _⟩ := sl_cap h.sl
  cases he
  have := sl_pre h.sl hk
  rw [flatMap_take h.len] at this
  refine ⟨?_, h.len⟩
  have hl : (l.take k).length = k := by rw [List.length_take]; omega
  rw [hl]
  exact this

theorem sWhole_c (V : Vw) (a : Option Addr) (n c : Nat) (l : List Record) (w : World) (hV : V.le (vw w)) (hs0 : SlOf V Record.cells 6 (.slice a n c) l) (hn : l.length ≤ 1000000) :
    Calls Try.prog 64 #[.slice a n c] w fun e w' => e = .returned (.slice a (whole l) (whole l)) ∧ Below w.heap.size w w' := by
  have hs := hs0.mono hV
  have hwl := whole_le l
  obtain ⟨a', c', he, hlc, _⟩ := sl_cap hs.sl
  cases he
  refine enter (E := E0) (O := []) (nl := 0) (V := vw w) [.a (.v (.slice a l.length c))] Try.func64 rfl rfl (mem0 E0 0 w) rfl rfl ?_
  refine c_seq ?_
  refine c_region ?_
  refine o_yield rfl rfl rfl (y_val tok rfl) ?_
  refine o_end [0] rfl ?_
  refine x_then ?_
  refine c_seq ?_
  refine c_region ?_
  refine o_yield rfl rfl rfl (y_val tok rfl) ?_
  refine o_call (.a (.v _)) rfl rfl fnok66 rfl rfl rfl (fun hg E w1 hm => by exact whole_c (vw w) _ l _ hm.leV hs (by simp only [lim]; omega)) ?_
  refine o_yield rfl rfl rfl (y_val tok rfl) ?_
  refine o_end [0, 3] rfl ?_
  refine x_then ?_
  refine c_seq ?_
  refine c_region ?_
  refine o_yield rfl rfl rfl (y_val tok rfl) ?_
  refine o_yield rfl rfl rfl (y_val tok rfl) ?_
  refine o_yield rfl rfl rfl (y_val tok rfl) ?_
  refine o_yield rfl rfl rfl (y_sl3 tok rfl (fun hg => ⟨by omega, by omega, by omega⟩)) ?_
  refine o_yield rfl rfl rfl (y_val tok rfl) ?_
  refine o_end [2] rfl ?_
  refine x_then ?_
  refine c_ret ?_
  refine b_ret tok rfl ?_
  rw [Int.toNat_natCast]
  intro E w' hm _
  refine ⟨?_, hm.below (Vw.le.refl _)⟩
  rfl

theorem sEnd_c (V : Vw) (sv : Value) (l : List Record) (tail : Int) (w : World) (hV : V.le (vw w)) (hs0 : SlOf V Record.cells 6 sv l) (hn : l.length ≤ 1000000) :
    Calls Try.prog 28 #[I tail, sv] w fun e w' => e = .returned (I (IntKind.i64.wrap (tail + whole l))) ∧ Below w.heap.size w w' := by
  have hs := hs0.mono hV
  refine enter (E := E0) (O := []) (nl := 0) (V := vw w) [.a (.v (I tail)), .a (.v sv)] Try.func28 rfl rfl (mem0 E0 0 w) rfl rfl ?_
  refine c_seq ?_
  refine c_region ?_
  refine o_yield rfl rfl rfl (y_val tok rfl) ?_
  refine o_end [0, 1] rfl ?_
  refine x_then ?_
  refine c_seq ?_
  refine c_region ?_
  refine o_yield rfl rfl rfl (y_val tok rfl) ?_
  refine o_yield rfl rfl rfl (y_val tok rfl) ?_
  refine o_call (.a (.v _)) rfl rfl fnok66 rfl rfl rfl (fun hg E w1 hm => by exact whole_c (vw w) _ l _ hm.leV hs (by simp only [lim]; omega)) ?_
  refine o_yield rfl rfl rfl (y_val tok rfl) ?_
  refine o_yield rfl rfl rfl (y_val tok rfl) ?_
  refine o_end [4] rfl ?_
  refine x_then ?_
  refine c_ret ?_
  refine b_ret tok rfl ?_
  intro E w' hm _
  refine ⟨?_, hm.below (Vw.le.refl _)⟩
  rfl

end Go.Proofs.Ytikdaehmaaogdaa

/- What a replay does at each place. -/
set_option linter.unusedVariables false
set_option linter.unusedSimpArgs false
set_option maxRecDepth 100000
namespace Go.Proofs.Ytikdaehmaaogdaa
open Go Go.Eng Go.RowKit

abbrev fnV (f : Nat) : Value := .func (.func f) #[] #[]
abbrev deedsV : Value := .agg #[fnV 114, fnV 115, fnV 116, fnV 117, fnV 118, fnV 119, fnV 120, fnV 121]

end Go.Proofs.Ytikdaehmaaogdaa

/- A replay's next act. -/
set_option linter.unusedVariables false
set_option linter.unusedSimpArgs false
set_option maxRecDepth 100000
namespace Go.Proofs.Ytikdaehmaaogdaa
open Go Go.Eng Go.RowKit

abbrev rpL (slot key at_ tail : Int) (lv cv : Value) (i en : Int) : List Value := [I slot, I key, I8 at_, I tail, lv, cv, I i, I en]
abbrev rpV (slot key at_ tail : Int) (lv cv : Value) (i en : Int) : Value := .agg #[I slot, I key, I8 at_, I tail, lv, cv, I i, I en]
abbrev wkC (slot key at_ tail : Int) (lv cv : Value) (i en : Int) (g : Geo) : List Value := [I slot, I key, I8 at_, I tail, lv, cv, I i, I en, I g.nodes, I g.slots, I g.blocks, I g.per, I g.journal, I g.log, I g.lease, I g.wait]
abbrev actV (kind sector : Int) (b : ByteArray) : Value := .agg #[I8 kind, I sector, S b, I 0]

def readK (k : Int) : Int := if k < 0 then 0 else 1
def readN (k : Int) : Int := if k < 0 then 0 else k

def tailK (g : Geo) (slot en : Int) : Int := if (headS en).2 = 0 ∧ 0 ≤ headV g slot then 2 else 0
def tailN (g : Geo) (slot en : Int) : Int := if (headS en).2 = 0 ∧ 0 ≤ headV g slot then headV g slot else 0
def tailT (g : Geo) (slot en : Int) : ByteArray := if (headS en).2 = 0 ∧ 0 ≤ headV g slot then (headS en).1 else ByteArray.empty

end Go.Proofs.Ytikdaehmaaogdaa

/- Behind an act of a replay: the header, the last act. -/
set_option linter.unusedVariables false
set_option linter.unusedSimpArgs false
set_option maxRecDepth 100000
namespace Go.Proofs.Ytikdaehmaaogdaa
open Go Go.Eng Go.RowKit

end Go.Proofs.Ytikdaehmaaogdaa

/- Behind the last record of a journal that has nothing whole. -/
set_option linter.unusedVariables false
set_option linter.unusedSimpArgs false
set_option maxRecDepth 100000
namespace Go.Proofs.Ytikdaehmaaogdaa
open Go Go.Eng Go.RowKit

end Go.Proofs.Ytikdaehmaaogdaa

/- Going over the records that were read, and one more. -/
set_option linter.unusedVariables false
set_option linter.unusedSimpArgs false
set_option maxRecDepth 100000
namespace Go.Proofs.Ytikdaehmaaogdaa
open Go Go.Eng Go.RowKit

theorem rp_take {α : Type} {l : List α} {i : Nat} {x : α} (h : l[i]? = some x) : l.take (i + 1) = l.take i ++ [x] := by
  rw [List.take_add_one, h]; rfl

end Go.Proofs.Ytikdaehmaaogdaa

/- Behind a journal's sector, where nothing is whole. -/
set_option linter.unusedVariables false
set_option linter.unusedSimpArgs false
set_option maxRecDepth 100000
namespace Go.Proofs.Ytikdaehmaaogdaa
open Go Go.Eng Go.RowKit

/-- A replay's cells behind a sector: d: the reading is over. -/
abbrev wkR (d : Bool) (slot key tail : Int) (a : Option Addr) (n c : Nat) (ca : Option Addr) (cn cc : Nat) (i en : Int) (g : Geo) : List Value :=
  wkC slot key (if d = true then 3 else 1) tail (.slice a n c) (.slice (if d = true then none else ca) (if d = true then 0 else cn) (if d = true then 0 else cc)) (if d = true then 0 else i) (if d = true then IntKind.i64.wrap tail else en) g

/-- The records behind a sector. -/
def rowL (L : List Record) (s : ByteArray) (key lsn : Int) : List Record := if isB s key lsn = true then L ++ [isV s key lsn] else L
def rowD (g : Geo) (L : List Record) (s : ByteArray) (key lsn : Int) : Bool := !(isB s key lsn && decide ((L.length : Int) + 1 < g.journal))

def RowQ (V : Vw) (b : Nat) (g : Geo) (slot key tail : Int) (ca : Option Addr) (cn cc : Nat) (i en : Int) (L : List Record) (s : ByteArray) (lsn : Int) (w : World) (e : Ending) (w' : World) : Prop :=
  e = .returned (I 0) ∧ Go.Eng.Touch (· = b) w w' ∧ ∃ a n c V', Vext w.heap.size V V' w' ∧ SlOf V' Record.cells 6 (.slice a n c) (rowL L s key lsn) ∧
    w'.heap[b]? = some (.cells (wkR (rowD g L s key lsn) slot key tail a n c ca cn cc i en g).toArray 110 (0, 0))

end Go.Proofs.Ytikdaehmaaogdaa

/- Behind a journal's sector, told of the whole replay. -/
set_option linter.unusedVariables false
set_option linter.unusedSimpArgs false
set_option maxRecDepth 100000
namespace Go.Proofs.Ytikdaehmaaogdaa
open Go Go.Eng Go.RowKit

abbrev rpR (d : Bool) (slot key tail : Int) (a : Option Addr) (n c : Nat) (ca : Option Addr) (cn cc : Nat) (i en : Int) : Value :=
  rpV slot key (if d = true then 3 else 1) tail (.slice a n c) (.slice (if d = true then none else ca) (if d = true then 0 else cn) (if d = true then 0 else cc)) (if d = true then 0 else i) (if d = true then IntKind.i64.wrap tail else en)

end Go.Proofs.Ytikdaehmaaogdaa

/- Replays compared; what the document says of a journal without records. -/
set_option linter.unusedVariables false
set_option linter.unusedSimpArgs false
set_option maxRecDepth 100000
namespace Go.Proofs.Ytikdaehmaaogdaa
open Go Go.Eng Go.RowKit

theorem rp_read_empty : readB ByteArray.empty = false := by
  have h : ofB 6 ByteArray.empty = false := by
    unfold ofB openB
    simp
  unfold readB
  simp [fieldsR, h]

theorem rp_isB_empty (key lsn : Int) : isB ByteArray.empty key lsn = false := by rw [isB, rp_read_empty]; rfl

abbrev geo21 : Geo := ⟨1, 1, 2, 1, 4, 8, 1, 2⟩
theorem geo21_ok : geo21.Ok := by constructor <;> simp [R64]
theorem geo21_b : geoB geo21 = true := by decide
end Go.Proofs.Ytikdaehmaaogdaa

/- The law: a header that is none is told, and a record of another key, or another lsn, ends the reading. -/
set_option linter.unusedVariables false
set_option linter.unusedSimpArgs false
set_option maxRecDepth 100000
namespace Go.Proofs.Ytikdaehmaaogdaa
open Go Go.Eng Go.RowKit

end Go.Proofs.Ytikdaehmaaogdaa
