import Derived.Test.YthmejhpfhkddiaaMTAsk
import Derived.Test.YthmejhpfhkddiaaEng36
/- Tables, the document's: which may be. -/
set_option linter.unusedVariables false
set_option linter.unusedSimpArgs false
set_option maxRecDepth 100000
namespace Go.Proofs.Ythmejhpfhkddiaa
open Go Go.Eng Go.RowKit

def slotGood (x : Slot) : Prop := 0 ≤ x.key ∧ 0 ≤ x.claim ∧ (x.key = 0 → x.claim = 0)

/-- What the document's Grant leaves. -/
abbrev grMakes (t : Tb) (w : World) : Ending → World → Prop := Makes w (fun _ : Unit => True) (fun _ => .agg [.row 7, .row 9, .row 13]) (fun _ => [(7, (slR t.S).cel), (9, (hoR t.grant.H).cel), (13, (hoR t.grant.Q).cel)]) 14

/-- A table of rows of one's own, read. -/
theorem TbIs.rows {E : Env} {O : Go.Eng.Own} {nl : Nat} {V : Vw} {w : World} (hm : Mem E O nl V w) (a b c : Nat) {t : Tb} (ha : lk O a = some (slR t.S).cel) (hb : lk O b = some (hoR t.H).cel) (hc : lk O c = some (hoR t.Q).cel) : TbIs (vw w) (.agg #[E.κ a, E.κ b, E.κ c]) t := by
  have s1 := hm.rowOf (enc := Slot.cells) (L := t.S) a ha (fun _ => rfl)
  have s2 := hm.rowOf (enc := Hold.cells) (L := t.H) b hb (fun _ => rfl)
  have s3 := hm.rowOf (enc := Hold.cells) (L := t.Q) c hc (fun _ => rfl)
  obtain ⟨x1, y1, z1, e1⟩ := sl_shape s1.sl
  obtain ⟨x2, y2, z2, e2⟩ := sl_shape s2.sl
  obtain ⟨x3, y3, z3, e3⟩ := sl_shape s3.sl
  exact ⟨x1, y1, z1, x2, y2, z2, x3, y3, z3, by rw [e1, e2, e3], e1 ▸ s1, e2 ▸ s2, e3 ▸ s3⟩
end Go.Proofs.Ythmejhpfhkddiaa

/- Tables, the document's: commands. -/
set_option linter.unusedVariables false
set_option linter.unusedSimpArgs false
set_option maxRecDepth 100000
namespace Go.Proofs.Ythmejhpfhkddiaa
open Go Go.Eng Go.RowKit

/-- What the document's free leaves. -/
abbrev frMakes (t : Tb) (w : World) : Ending → World → Prop := Makes w (fun _ : Unit => True) (fun _ => .agg [.row 23, .row 25, .row 29]) (fun _ => [(23, (slR t.S).cel), (25, (hoR t.H).cel), (29, (hoR t.Q).cel)]) 30

end Go.Proofs.Ythmejhpfhkddiaa

/- Tables, the document's: new, and what comes of commands. -/
set_option linter.unusedVariables false
set_option linter.unusedSimpArgs false
set_option maxRecDepth 100000
set_option linter.unusedSectionVars false
namespace Go.Proofs.Ythmejhpfhkddiaa
open Go Go.Eng Go.RowKit

/-- What a key has and waits for. -/
def allA (key : Int) (t : Tb) : List Hold := (t.H ++ t.Q).filter fun h => h.key == key

section
variable (V : Vw) (g : Geo) (tv : Value) (t : Tb) (c : Cmd) (w : World) (ht : t.Fit) (hq1 : t.Q.length + 1 ≤ 100000) (hV : V.le (vw w)) (h : TbIs V tv t)
include ht hq1 hV h

end
end Go.Proofs.Ythmejhpfhkddiaa
