/-
  Regions whose order is open, where each operation has one value whatever the order.
-/
import Derived.Test.YtipmgnhbcaniiaaEng6
import Derived.Deep.Quiet
set_option linter.unusedSimpArgs false
set_option linter.unusedVariables false
namespace Go.Eng
open Go Go.RowKit

/-- What is known while such a region is carried out. -/
structure DJ (P : Program) (ops : Array Oper) (Q : Exit → Act → World → Prop) (l : List Oper) (n : Nat) (F : Frame0) (C : List Nat) (O : Own) (nl : Nat) (V : Vw) : Prop where
  out : ∀ E a, a.defers = [] → Frm E n F C nl a.tmps → wpQuiet P ops (fun w => Mem E O nl V w) (fun a' => ∀ w', Mem E O nl V w' → Q .normal a' w') l a

section
variable {P : Program} {tt : List (Nat × TI)} {ops : Array Oper} {Q : Exit → Act → World → Prop} {o : Oper} {rest : List Oper}
  {n : Nat} {F : Frame0} {C : List Nat} {O : Own} {nl : Nat} {V : Vw} {K : Act → World → Prop}

theorem Mem.drawn {E : Env} {w : World} (hm : Mem E O nl V w) (m : Nat) : Mem E O nl V { w with drawn := m } :=
  hm.keep ⟨rfl, rfl, rfl, Nat.le_refl _, fun _ _ => rfl⟩

theorem c_draw {id : Nat} {l : List Oper} (hm : P.follows .mixedOrders = true) (hB : Region.lexB .any l.toArray = true) (h : DJ P l.toArray Q l n F C O nl V) :
    KJ ((Code.region id l.toArray true).wp P Q) n F C O nl V :=
  ⟨fun E a w hd hf hmem => wp_region_quiet (C := fun w => Mem E O nl V w) hm hB (hmem.drawn _) (by simpa using h.out E a hd hf)⟩

theorem d_end (ts : List Nat) {F' : Frame0} (hk : keepF F ts [] = some F') (h : KJ (Q .normal) n F' [] O nl V) : DJ P ops Q [] n F C O nl V :=
  ⟨fun E a hd hf => fun w' hm => h.out E a w' hd (hf.plain (keepF_plain ts [] F' (fun t e h => by simp [lk] at h) hk)) hm⟩

theorem d_yield {p : List (Nat × Bool)} {g : Bool} {C' : List Nat} {s : SV} {d : Nat}
    (hg : gd ops F C o.guard = some (p, g, C')) (hd : o.dst = some d) (hc : (Nat.blt d n && !(memN d C')) = true)
    (hy : Yld P o n F C' O nl V p g s) (hs : s.ok nl = true)
    (next : DJ P ops Q rest n ((d, ⟨p, g, s⟩) :: F) C' O nl V) : DJ P ops Q (o :: rest) n F C O nl V := by
  constructor
  intro E a hdf hf
  obtain ⟨h1, h2, h3, h4⟩ := gd_sound hf hg
  simp only [Bool.and_eq_true, blt_iff, Bool.not_eq_true'] at hc
  unfold wpQuiet
  rw [h1]
  cases g with
  | true =>
    simp only [if_true]
    refine ⟨s.den E, fun w hm => ?_, ?_⟩
    · unfold Oper.quietAt
      rw [(hy rfl E a w h2 h3.symm hm).1]
      exact ⟨rfl, rfl⟩
    · rw [hd]
      refine next.out E _ (by simp [Act.put, hdf]) ?_
      have := Frm.put (p := p) (g := true) h2 hc.1 hc.2 h3 h4 (fun _ => hs)
      simpa using this
  | false =>
    simp only [Bool.false_eq_true, if_false, hd]
    refine next.out E _ (by simp [Act.put, hdf]) ?_
    have := Frm.put (p := p) (g := false) (s := s) h2 hc.1 hc.2 h3 h4 (by simp)
    simpa using this

theorem d_call {p : List (Nat × Bool)} {g : Bool} {C' : List Nat} {d f : Nat} {ss : List SV} (s : SV)
    (hg : gd ops F C o.guard = some (p, g, C')) (hv : evalC F p o.op = some (f, ss)) (hok : FnOk P f) (hd : o.dst = some d) (hc : (Nat.blt d n && !(memN d C')) = true) (hs : s.ok nl = true)
    (hcall : g = true → ∀ E w, Mem E O nl V w → Calls P f (ss.map (SV.den E)).toArray w fun e w' => e = .returned (s.den E) ∧ Below w.heap.size w w')
    (next : DJ P ops Q rest n ((d, ⟨p, g, s⟩) :: F) C' O nl V) : DJ P ops Q (o :: rest) n F C O nl V := by
  constructor
  intro E a hdf hf
  obtain ⟨h1, h2, h3, h4⟩ := gd_sound hf hg
  simp only [Bool.and_eq_true, blt_iff, Bool.not_eq_true'] at hc
  unfold wpQuiet
  rw [h1]
  cases g with
  | true =>
    simp only [if_true]
    refine ⟨s.den E, fun w hm => ?_, ?_⟩
    · unfold Oper.quietAt
      rw [(evalC_sound h2 h3.symm hv hok w).1]
      refine ⟨rfl, (hcall rfl E w hm).mono ?_⟩
      rintro e w' ⟨rfl, hb⟩
      exact ⟨rfl, hm.keep hb⟩
    · rw [hd]
      refine next.out E _ (by simp [Act.put, hdf]) ?_
      have := Frm.put (p := p) (g := true) h2 hc.1 hc.2 h3 h4 (fun _ => hs)
      simpa using this
  | false =>
    simp only [Bool.false_eq_true, if_false, hd]
    refine next.out E _ (by simp [Act.put, hdf]) ?_
    have := Frm.put (p := p) (g := false) (s := s) h2 hc.1 hc.2 h3 h4 (by simp)
    simpa using this

end
end Go.Eng
