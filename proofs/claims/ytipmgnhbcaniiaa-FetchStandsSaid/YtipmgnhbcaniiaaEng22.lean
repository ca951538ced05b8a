/-
  Drawn regions: operations that only read, taken in the second phase too.
-/
import Derived.Test.YtipmgnhbcaniiaaEng21
set_option linter.unusedSimpArgs false
set_option linter.unusedVariables false
namespace Go.Eng
open Go Go.RowKit

section
variable {P : Program} {ops : Array Oper} {Q : Exit → Act → World → Prop} {sp : List Nat} {O0 : Own} {nl0 : Nat} {V0 : Vw} {fuel : Nat} {listed : List Bool} {o : Oper} {n : Nat} {F : Frame0} {C : List Nat} {O : Own} {nl : Nat} {V : Vw}

theorem Mem.fwd {E0 E : Env} {w : World} (h : Mem E0 O0 nl0 V0 w) (hag : E0.agree nl0 E) (hn : nl0 ≤ nl) : Mem E O0 nl V0 w := by
  have hblk : ∀ {l c}, lk O0 l = some c → blk E l c = blk E0 l c := fun {l c} hl => blk_agree hag (h.lab _ _ hl) c
  refine ⟨?_, ?_, ?_, h.get, ?_, h.os, h.tape, h.output, ?_, ?_, fun l m b hl => ?_, h.big, fun l m b v hl => ?_⟩
  · intro l cs e hl
    have := h.lit _ _ _ hl
    rw [(hag l (h.lab _ _ hl)).1, A.map_agree hag (h.labs _ _ _ hl)]
    exact this
  · intro l e sz m xs hl
    have := h.row _ _ _ _ _ hl
    rw [(hag l (h.lab _ _ hl)).2]
    exact this
  · intro l l' c c' k hl hl' hb hb'
    rw [hblk hl] at hb
    rw [hblk hl'] at hb'
    exact h.sep l l' c c' k hl hl' hb hb'
  · intro l c k hl hb
    rw [hblk hl] at hb
    exact h.off l c k hl hb
  · intro l c hl
    have := h.lab _ _ hl
    omega
  · intro l cs e hl
    exact allOk_mono hn (h.labs _ _ _ hl)
  · obtain ⟨h1, h2⟩ := h.pin l m b hl
    exact ⟨(hag m h2).1.trans h1, by omega⟩
  · obtain ⟨h1, h2, h3⟩ := h.kp l m b v hl
    exact ⟨(hag m h3).1.trans h1, (hag m h3).2.trans h2, by omega⟩

/-- An operation that reads what stood at the region's beginning, or nothing. -/
theorem h_take (i : Nat) {p : List (Nat × Bool)} {g : Bool} {C' : List Nat} {s : SV} {d : Nat} (hi : ops[i]? = some o)
    (htk : takeB ops sp listed.toArray i = true)
    (hg : gd ops F C o.guard = some (p, g, C')) (hd : o.dst = some d) (hc : (Nat.blt d n && !(memN d C')) = true) (hn : Nat.ble nl0 nl = true)
    (hy : Yld P o n F C' O0 nl V0 p g s) (hs : s.ok nl = true)
    (next : HJ P ops Q sp O0 nl0 V0 fuel (setL listed i) n ((d, ⟨p, g, s⟩) :: F) C' O nl V) : HJ P ops Q sp O0 nl0 V0 (fuel + 1) listed n F C O nl V := by
  simp only [takeB, Bool.and_eq_true, Bool.not_eq_true'] at htk
  obtain ⟨⟨⟨⟨hr, hfr⟩, hsel⟩, hw⟩, hns⟩ := htk
  constructor
  intro E0 E a w hag hdf hf hm hM
  obtain ⟨h1, h2, h3, h4⟩ := gd_sound hf hg
  simp only [Bool.and_eq_true, blt_iff, Bool.not_eq_true'] at hc
  obtain ⟨hisp, hsp⟩ := waitsB_spec hw
  refine wpAnyG_first (v := if g then s.den E else undef) hi (Region.noSelect_spec hsel) (fun c a w h => h.elim) hisp hsp fuel listed.toArray a w (Region.free_spec hi hfr) (by simpa using hr) ?_ hns (hM hns) ?_
  · cases g with
    | true =>
      refine .inl ⟨h1, fun w' hm' => ?_⟩
      have := (hy rfl E a w' h2 h3.symm (hm'.fwd hag (by simpa using hn))).1
      simpa [Yv] using this
    | false => exact .inr ⟨h1, by simp⟩
  · rw [← setL_eq, hd]
    exact next.out E0 E _ w hag (by simp [Act.put, hdf]) (Frm.put (p := p) (g := g) h2 hc.1 hc.2 h3 h4 (fun _ => hs)) hm (fun _ => hM hns)
end

/-- A region that makes memory: what stood is read off the state. -/
theorem c_heldR {P : Program} {Q : Exit → Act → World → Prop} {n : Nat} {F : Frame0} {C : List Nat} {O : Own} {nl : Nat} {V : Vw} {id : Nat} {l : List Oper} {O0 : Own} (hmix : P.follows .mixedOrders = true)
    (ho : restO O [] [] = some O0) (hO : SubO O O0) (hok : okCels nl O0 = true)
    (h : TJ P l.toArray Q [] O0 l.length (List.replicate l.length false) n F C O nl V) : KJ ((Code.region id l.toArray true).wp P Q) n F C O nl V :=
  c_held [] O0 hmix hO hok h

/-- A row of one's own, as what may be read of the world. -/
theorem Mem.rowOf {α : Type} {enc : α → List Value} {E : Env} {O : Own} {nl : Nat} {V : Vw} {w : World} (hm : Mem E O nl V w) (l : Nat) {e sz : Nat} {L : List α} (hl : lk O l = some (.row e sz L.length (L.flatMap enc)))
    (he : ∀ x, (enc x).length = sz) : SlOf (vw w) enc sz (E.κ l) L :=
  ⟨ownsRow_sl (hm.row _ _ _ _ _ hl) (fun _ _ => rfl), he⟩

theorem slNil {α : Type} (V : Vw) (enc : α → List Value) (sz c : Nat) (he : ∀ x, (enc x).length = sz) : SlOf V enc sz (.slice none 0 c) [] :=
  ⟨⟨by simp, .inl ⟨none, c, rfl, rfl⟩⟩, he⟩

/-- For looking at a state while a text is written. -/
structure Peek (F : Frame0) (O : Own) (V : Vw) : Prop where
  ok : True
end Go.Eng
