/-
  Drawn regions: operations that only read, taken in the second phase too.
-/
import Derived.Test.YtmjdihpdlfidmaaEng21
set_option linter.unusedSimpArgs false
set_option linter.unusedVariables false
namespace Go.Eng
open Go Go.RowKit

section
variable {P : Program} {ops : Array Oper} {Q : Exit → Act → World → Prop} {sp : List Nat} {O0 : Own} {nl0 : Nat} {V0 : Vw} {fuel : Nat} {listed : List Bool} {o : Oper} {n : Nat} {F : Frame0} {C : List Nat} {O : Own} {nl : Nat} {V : Vw}

end

/-- A region that makes memory: what stood is read off the state. -/
theorem c_heldR {P : Program} {Q : Exit → Act → World → Prop} {n : Nat} {F : Frame0} {C : List Nat} {O : Own} {nl : Nat} {V : Vw} {id : Nat} {l : List Oper} {O0 : Own} (hmix : P.follows .mixedOrders = true)
    (ho : restO O [] [] = some O0) (hO : SubO O O0) (hok : okCels nl O0 = true)
    (h : TJ P l.toArray Q [] O0 l.length (List.replicate l.length false) n F C O nl V) : KJ ((Code.region id l.toArray true).wp P Q) n F C O nl V :=
  c_held [] O0 hmix hO hok h

/-- A row of one's own, as what may be read of the world. -/
theorem Mem.rowOf {α : Type} {enc : α → List Value} {E : Env} {O : Own} {nl : Nat} {V : Vw} {w : World} (hm : Mem E O nl V w) (l : Nat) {e sz : Nat} {L : List α} (hl : lk O l = some (.row e sz L.length (L.flatMap enc)))
    (he : ∀ x, (enc x).length = sz) : SlOf (vw w) enc sz (E.κ l) L :=
  ⟨ownsRow_sl (hm.row _ _ _ _ _ hl) (fun _ _ => rfl), he⟩

theorem slNil {α : Type} (V : Vw) (enc : α → List Value) (sz c : Nat) (he : ∀ x, (enc x).length = sz) : SlOf V enc sz (.slice none 0 c) [] :=
  ⟨⟨by simp, .inl ⟨none, c, rfl, rfl⟩⟩, he⟩

/-- For looking at a state while a text is written. -/
structure Peek (F : Frame0) (O : Own) (V : Vw) : Prop where
  ok : True
end Go.Eng
