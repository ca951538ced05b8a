/-
  What a call has made, taken over whole: its own memory in the caller's labels.
-/
import Derived.Test.YtipmgnhbcaniiaaEng35
set_option linter.unusedSimpArgs false
set_option linter.unusedVariables false
namespace Go.Eng
open Go Go.RowKit

def A.sh (d : Nat) : A → A
  | .v x => .v x
  | .ptr l o => .ptr (l + d) o
  | .fn f caps => .fn f (caps.map fun p => (p.1 + d, p.2))
  | .row l => .row (l + d)
  | .el x k => .el x k
  | .rel l k => .rel (l + d) k

def SV.sh (d : Nat) : SV → SV
  | .a x => .a (x.sh d)
  | .agg cs => .agg (cs.map (A.sh d))
  | .tup cs => .tup (cs.map (A.sh d))

def Cel.sh (d : Nat) : Cel → Cel
  | .lit cs e => .lit (cs.map (A.sh d)) e
  | .row e sz n xs => .row e sz n xs
  | .gone => .gone
  | .pin m b => .pin (m + d) b
  | .size k => .size k
  | .keep m b v => .keep (m + d) b v

def shO (d : Nat) : Own → Own
  | [] => []
  | (l, c) :: r => (l + d, c.sh d) :: shO d r

def joinE (E E' : Env) (nl : Nat) : Env := ⟨fun l => if l < nl then E.ρ l else E'.ρ (l - nl), fun l => if l < nl then E.κ l else E'.κ (l - nl)⟩

theorem joinE_ρ (E E' : Env) (nl q : Nat) : (joinE E E' nl).ρ (q + nl) = E'.ρ q := by
  simp only [joinE]
  rw [if_neg (by omega), Nat.add_sub_cancel]

theorem joinE_κ (E E' : Env) (nl q : Nat) : (joinE E E' nl).κ (q + nl) = E'.κ q := by
  simp only [joinE]
  rw [if_neg (by omega), Nat.add_sub_cancel]

theorem joinE_agree (E E' : Env) (nl : Nat) : E.agree nl (joinE E E' nl) := fun l hl => ⟨by simp only [joinE]; rw [if_pos hl], by simp only [joinE]; rw [if_pos hl]⟩

theorem A.den_sh (E E' : Env) (nl : Nat) (x : A) : (x.sh nl).den (joinE E E' nl) = x.den E' := by
  cases x with
  | v x => rfl
  | ptr l o => simp only [A.sh, A.den, joinE_ρ]
  | fn f caps =>
    simp only [A.sh, A.den, List.map_map]
    congr 2
    apply List.map_congr_left
    intro p hp
    simp only [Function.comp, joinE_ρ]
  | row l => simp only [A.sh, A.den, joinE_κ]
  | el x k => rfl
  | rel l k => simp only [A.sh, A.den, joinE_κ]

theorem A.map_sh (E E' : Env) (nl : Nat) (cs : List A) : (cs.map (A.sh nl)).map (A.den (joinE E E' nl)) = cs.map (A.den E') := by
  rw [List.map_map]
  apply List.map_congr_left
  intro x _
  exact A.den_sh E E' nl x

theorem SV.den_sh (E E' : Env) (nl : Nat) (s : SV) : (s.sh nl).den (joinE E E' nl) = s.den E' := by
  cases s with
  | a x => exact A.den_sh E E' nl x
  | agg cs => simp only [SV.sh, SV.den, A.map_sh]
  | tup cs => simp only [SV.sh, SV.den, A.map_sh]

theorem A.ok_sh {nl k : Nat} {x : A} (h : x.ok k = true) : (x.sh nl).ok (nl + k) = true := by
  cases x with
  | v x => rfl
  | ptr l o => simp only [A.ok, A.sh, blt_iff] at h ⊢; omega
  | fn f caps =>
    simp only [A.ok, A.sh, capsOk_iff] at h ⊢
    intro p hp
    obtain ⟨q, hq, rfl⟩ := List.mem_map.1 hp
    have := h q hq
    dsimp only
    omega
  | row l => simp only [A.ok, A.sh, blt_iff] at h ⊢; omega
  | el x k => rfl
  | rel l k => simp only [A.ok, A.sh, blt_iff] at h ⊢; omega

theorem allOk_sh {nl k : Nat} {cs : List A} (h : allOk k cs = true) : allOk (nl + k) (cs.map (A.sh nl)) = true := by
  rw [allOk_iff] at h ⊢
  intro x hx
  obtain ⟨y, hy, rfl⟩ := List.mem_map.1 hx
  exact A.ok_sh (h y hy)

theorem SV.ok_sh {nl k : Nat} {s : SV} (h : s.ok k = true) : (s.sh nl).ok (nl + k) = true := by
  cases s with
  | a x => exact A.ok_sh h
  | agg cs => exact allOk_sh h
  | tup cs => exact allOk_sh h

theorem blk_sh (E E' : Env) (nl q : Nat) (y : Cel) : blk (joinE E E' nl) (q + nl) (y.sh nl) = blk E' q y := by
  cases y <;> simp only [Cel.sh, blk, joinE_ρ, joinE_κ]

theorem lk_join {O : Own} {nl l : Nat} {x : Cel} : ∀ {O2 : Own}, lk (shO nl O2 ++ O) l = some x → (∃ q y, l = q + nl ∧ lk O2 q = some y ∧ x = y.sh nl) ∨ lk O l = some x
  | [], h => .inr h
  | (k, c) :: r, h => by
    simp only [shO, List.cons_append] at h
    rw [lk_cons] at h
    split at h
    · rename_i e
      cases h
      exact .inl ⟨k, c, e.symm, lk_same _ _ _, rfl⟩
    · rename_i e
      rcases lk_join h with ⟨q, y, h1, h2, h3⟩ | h1
      · exact .inl ⟨q, y, h1, by rw [lk_other _ _ (fun e' => e (by rw [h1, e']))]; exact h2, h3⟩
      · exact .inr h1

section
variable {P : Program} {n : Nat} {F : Frame0} {C : List Nat} {O O2 : Own} {nl k2 : Nat} {V : Vw} {E E' : Env} {w w' : World} {o : Oper}

theorem Mem.join (hm : Mem E O nl V w) (h2 : Mem E' O2 k2 (vw w) w') (hsz : w.heap.size ≤ w'.heap.size) : Mem (joinE E E' nl) (shO nl O2 ++ O) (nl + k2) V w' := by
  have ag := joinE_agree E E' nl
  have new : ∀ q y k, lk O2 q = some y → blk E' q y = some k → w.heap.size ≤ k := fun q y k hl hk => Array.getElem?_eq_none_iff.1 (h2.off _ _ k hl hk)
  have keep : ∀ k, k < w.heap.size → w'.heap[k]? = w.heap[k]? := fun k hk => by
    have : w.heap[k]? = some w.heap[k] := by simp [hk]
    rw [this]
    exact h2.get k _ this
  refine ⟨?_, ?_, ?_, fun k o hk => h2.get _ _ (hm.get _ _ hk), ?_, h2.os.trans hm.os, h2.tape.trans hm.tape, h2.output.trans hm.output, ?_, ?_, ?_, ?_, ?_⟩
  · intro l cs e h
    rcases lk_join h with ⟨q, y, rfl, hy, hx⟩ | hx
    · cases y <;> simp only [Cel.sh] at hx <;> cases hx
      rename_i cs0
      rw [joinE_ρ, A.map_sh]
      exact h2.lit _ _ _ hy
    · have hlt := hm.lt (k := E.ρ l) hx rfl
      rw [(ag l (hm.lab _ _ hx)).1, keep _ hlt, hm.lit _ _ _ hx, A.map_agree ag (hm.labs _ _ _ hx)]
  · intro l e sz n xs h
    rcases lk_join h with ⟨q, y, rfl, hy, hx⟩ | hx
    · cases y <;> simp only [Cel.sh] at hx <;> cases hx
      rw [joinE_κ]
      exact h2.row _ _ _ _ _ hy
    · rw [(ag l (hm.lab _ _ hx)).2]
      exact ownsRow_block (hm.row _ _ _ _ _ hx) fun k hk => keep k (hm.lt hx (by simpa [blk] using hk))
  · intro l l' x x' k h h' hk hk'
    rcases lk_join h with ⟨q, y, rfl, hy, rfl⟩ | hx
    · rw [blk_sh] at hk
      rcases lk_join h' with ⟨q', y', rfl, hy', rfl⟩ | hx'
      · rw [blk_sh] at hk'
        rw [h2.sep q q' y y' k hy hy' hk hk']
      · rw [blk_agree ag (hm.lab _ _ hx')] at hk'
        have a := hm.lt hx' hk'
        have b := new _ _ k hy hk
        omega
    · rw [blk_agree ag (hm.lab _ _ hx)] at hk
      rcases lk_join h' with ⟨q', y', rfl, hy', rfl⟩ | hx'
      · rw [blk_sh] at hk'
        have a := hm.lt hx hk
        have b := new _ _ k hy' hk'
        omega
      · rw [blk_agree ag (hm.lab _ _ hx')] at hk'
        exact hm.sep _ _ _ _ k hx hx' hk hk'
  · intro l x k h hk
    rcases lk_join h with ⟨q, y, rfl, hy, rfl⟩ | hx
    · rw [blk_sh] at hk
      have b := new _ _ k hy hk
      cases hv : V.get k with
      | none => rfl
      | some ob =>
        have := (Array.getElem?_eq_some_iff.1 (hm.get _ _ hv)).1
        omega
    · rw [blk_agree ag (hm.lab _ _ hx)] at hk
      exact hm.off _ _ k hx hk
  · intro l x h
    rcases lk_join h with ⟨q, y, rfl, hy, rfl⟩ | hx
    · have := h2.lab _ _ hy; omega
    · have := hm.lab _ _ hx; omega
  · intro l cs e h
    rcases lk_join h with ⟨q, y, rfl, hy, hx⟩ | hx
    · cases y <;> simp only [Cel.sh] at hx <;> cases hx
      exact allOk_sh (h2.labs _ _ _ hy)
    · exact allOk_mono (by omega) (hm.labs _ _ _ hx)
  · intro l m b h
    rcases lk_join h with ⟨q, y, rfl, hy, hx⟩ | hx
    · cases y <;> simp only [Cel.sh] at hx <;> cases hx
      obtain ⟨h1, h3⟩ := h2.pin _ _ _ hy
      exact ⟨by rw [joinE_ρ]; exact h1, by omega⟩
    · obtain ⟨h1, h3⟩ := hm.pin _ _ _ hx
      exact ⟨(ag m h3).1.trans h1, by omega⟩
  · intro l k h
    rcases lk_join h with ⟨q, y, rfl, hy, hx⟩ | hx
    · cases y <;> simp only [Cel.sh] at hx <;> cases hx
      exact h2.big _ _ hy
    · exact Nat.le_trans (hm.big _ _ hx) hsz
  · intro l m b v h
    rcases lk_join h with ⟨q, y, rfl, hy, hx⟩ | hx
    · cases y <;> simp only [Cel.sh] at hx <;> cases hx
      obtain ⟨h1, h3, h4⟩ := h2.kp _ _ _ _ hy
      exact ⟨by rw [joinE_ρ]; exact h1, by rw [joinE_κ]; exact h3, by omega⟩
    · obtain ⟨h1, h3, h4⟩ := hm.kp _ _ _ _ hx
      exact ⟨(ag m h4).1.trans h1, (ag m h4).2.trans h3, by omega⟩

/-- What a call comes to that makes memory: its answer, its own memory. -/
def Makes (w : World) {σ : Type} (Φ : σ → Prop) (s : σ → SV) (O2 : σ → Own) (k2 : Nat) (ex : Ending) (w' : World) : Prop :=
  ∃ x E', ex = .returned ((s x).den E') ∧ Φ x ∧ (s x).ok k2 = true ∧ w.heap.size ≤ w'.heap.size ∧ Mem E' (O2 x) k2 (vw w) w'

end
end Go.Eng
