/-
  What a call has made, taken over whole: its own memory in the caller's labels.
-/
import Derived.Test.YtmjdihpdlfidmaaEng35
set_option linter.unusedSimpArgs false
set_option linter.unusedVariables false
namespace Go.Eng
open Go Go.RowKit

def A.sh (d : Nat) : A → A
  | .v x => .v x
  | .ptr l o => .ptr (l + d) o
  | .fn f caps => .fn f (caps.map fun p => (p.1 + d, p.2))
  | .row l => .row (l + d)
  | .el x k => .el x k
  | .rel l k => .rel (l + d) k

def SV.sh (d : Nat) : SV → SV
  | .a x => .a (x.sh d)
  | .agg cs => .agg (cs.map (A.sh d))
  | .tup cs => .tup (cs.map (A.sh d))

def Cel.sh (d : Nat) : Cel → Cel
  | .lit cs e => .lit (cs.map (A.sh d)) e
  | .row e sz n xs => .row e sz n xs
  | .gone => .gone
  | .pin m b => .pin (m + d) b
  | .size k => .size k
  | .keep m b v => .keep (m + d) b v

def shO (d : Nat) : Own → Own
  | [] => []
  | (l, c) :: r => (l + d, c.sh d) :: shO d r

def joinE (E E' : Env) (nl : Nat) : Env := ⟨fun l => if l < nl then E.ρ l else E'.ρ (l - nl), fun l => if l < nl then E.κ l else E'.κ (l - nl)⟩

section
variable {P : Program} {n : Nat} {F : Frame0} {C : List Nat} {O O2 : Own} {nl k2 : Nat} {V : Vw} {E E' : Env} {w w' : World} {o : Oper}

/-- What a call comes to that makes memory: its answer, its own memory. -/
def Makes (w : World) {σ : Type} (Φ : σ → Prop) (s : σ → SV) (O2 : σ → Own) (k2 : Nat) (ex : Ending) (w' : World) : Prop :=
  ∃ x E', ex = .returned ((s x).den E') ∧ Φ x ∧ (s x).ok k2 = true ∧ w.heap.size ≤ w'.heap.size ∧ Mem E' (O2 x) k2 (vw w) w'

end
end Go.Eng
