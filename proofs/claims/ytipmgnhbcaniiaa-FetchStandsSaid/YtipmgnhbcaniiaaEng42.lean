/-
  Calls that make memory of their own and show new memory besides; rows of one's own whose slices are known as plain values.
-/
import Derived.Test.YtipmgnhbcaniiaaEng41
set_option linter.unusedSimpArgs false
set_option linter.unusedVariables false
namespace Go.Eng
open Go Go.RowKit

/-- A slice whose memory is not older than so many blocks. -/
def NewSl (base : Nat) (v : Value) : Prop := ∀ k, v.ownBlock = some k → base ≤ k

theorem NewSl.nil (base : Nat) (n c : Nat) : NewSl base (.slice none n c) := fun k h => by cases h

/-- What is new in a view. -/
def NewIn (base : Nat) (W V : Vw) : Prop := ∀ k o, base ≤ k → W.get k = some o → V.get k = some o

theorem IsSl.newIn {base : Nat} {W V : Vw} {v : Value} {sz n : Nat} {xs : List Value} (h : IsSl W v sz n xs) (hn : NewSl base v) (hV : NewIn base W V) : IsSl V v sz n xs := by
  refine ⟨h.1, ?_⟩
  rcases h.2 with h1 | ⟨b, off, cap, cs, e, fz, h1, h2, h3, h4⟩
  · exact .inl h1
  · exact .inr ⟨b, off, cap, cs, e, fz, h1, hV _ _ (hn b (by rw [h1]; rfl)) h2, h3, h4⟩

theorem SlOf.newIn {α : Type} {base : Nat} {W V : Vw} {enc : α → List Value} {sz : Nat} {v : Value} {l : List α} (h : SlOf W enc sz v l) (hn : NewSl base v) (hV : NewIn base W V) : SlOf V enc sz v l :=
  ⟨h.sl.newIn hn hV, h.len⟩

theorem newSl_off {w : World} {W : Vw} {v : Value} (hle : (vw w).le W) (h : ∀ k, v.ownBlock = some k → W.get k = none) : NewSl w.heap.size v := by
  intro k hk
  by_cases hlt : k < w.heap.size
  · have h1 : w.heap[k]? = some w.heap[k] := by simp [hlt]
    have := hle.get k _ h1
    rw [h k hk] at this
    cases this
  · omega

theorem NewIn.grown {w w' : World} {V W : Vw} {E : Env} {O : Own} {nl : Nat} (hm : Mem E O nl W w') : NewIn w.heap.size W (V.grown w w') := by
  intro k o hk h
  simp only [Vw.grown]
  rw [if_neg (by omega)]
  exact hm.get _ _ h

section
variable {P : Program} {tt : List (Nat × TI)} {n : Nat} {F : Frame0} {C : List Nat} {O : Own} {nl : Nat} {V : Vw} {o : Oper}

theorem Mem.seen {E : Env} {w : World} {V' : Vw} (hm : Mem E O nl V w) (hle : V.le V') (hget : ∀ k o, V'.get k = some o → w.heap[k]? = some o) (hoff : ∀ l c k, lk O l = some c → blk E l c = some k → V'.get k = none) : Mem E O nl V' w :=
  ⟨hm.lit, hm.row, hm.sep, hget, hoff, hm.os.trans hle.os.symm, hm.tape.trans hle.tape.symm, hm.output.trans hle.output.symm, hm.lab, hm.labs, hm.pin, hm.big, hm.kp⟩

/-- V and what is new in W. -/
def Vw.over (V : Vw) (base : Nat) (W : Vw) : Vw := ⟨fun k => if k < base then V.get k else W.get k, V.os, V.tape, V.output⟩

/-- What a call comes to that makes memory: its answer, its own memory, what else is seen that is new. -/
def MakesV (w : World) {σ : Type} (Φ : σ → Vw → Prop) (s : σ → SV) (O2 : σ → Own) (k2 : Nat) (ex : Ending) (w' : World) : Prop :=
  ∃ x W E', ex = .returned ((s x).den E') ∧ (s x).ok k2 = true ∧ w.heap.size ≤ w'.heap.size ∧ Mem E' (O2 x) k2 W w' ∧ (vw w).le W ∧ ∀ V', NewIn w.heap.size W V' → Φ x V'

theorem s_makesV {p : List (Nat × Bool)} {f : Nat} {ss : List SV} {σ : Type} (Φ : σ → Vw → Prop) (s : σ → SV) (O2 : σ → Own) (k2 : Nat) (hv : evalC F p o.op = some (f, ss)) (hok : FnOk P f)
    (hspec : ∀ E w, Mem E O nl V w → Calls P f (ss.map (SV.den E)).toArray w (MakesV w Φ s O2 k2)) :
    StepTo P o p n F C O nl V (σ := σ × Vw) (fun x => V.le x.2 ∧ Φ x.1 x.2) (fun x => (s x.1).sh nl) (fun x => shO nl (O2 x.1) ++ O) (nl + k2) (fun x => x.2) := by
  constructor
  intro E a' w hf hgv hm K Q hK
  obtain ⟨hr, _⟩ := evalC_sound hf hgv hv hok w
  unfold Oper.wp
  rw [hr, Oper.upon_enter]
  refine (hspec E w hm).mono ?_
  rintro ex w' ⟨x, W, E', rfl, hsok, hsz, hmW, hle, hΦ⟩
  have hm' : Mem E' (O2 x) k2 (vw w) w' := by
    refine ⟨hmW.lit, hmW.row, hmW.sep, fun k o hk => hmW.get k o (hle.get _ _ hk), fun l c k hl hb => ?_, hmW.os.trans hle.os, hmW.tape.trans hle.tape, hmW.output.trans hle.output, hmW.lab, hmW.labs, hmW.pin, hmW.big, hmW.kp⟩
    cases hq : (vw w).get k with
    | none => rfl
    | some ob => have h1 := hle.get _ _ hq; rw [hmW.off l c k hl hb] at h1; cases h1
  have hj := hm.join hm' hsz
  have hVlt : ∀ k o, V.get k = some o → k < w.heap.size := fun k o hk => by
    have := hm.get k o hk
    exact (Array.getElem?_eq_some_iff.1 this).1
  have hle2 : V.le (V.over w.heap.size W) := by
    refine ⟨fun k o hk => ?_, rfl, rfl, rfl⟩
    show (if _ then _ else _) = _
    rw [if_pos (hVlt k o hk)]
    exact hk
  have hmem : Mem (joinE E E' nl) (shO nl (O2 x) ++ O) (nl + k2) (V.over w.heap.size W) w' := by
    refine hj.seen hle2 (fun k o hk => ?_) (fun l c k hl hb => ?_)
    · change (if _ then _ else _) = _ at hk
      split at hk
      · exact hj.get k o hk
      · exact hmW.get k o hk
    · show (if _ then _ else _) = _
      split
      · exact hj.off l c k hl hb
      · rename_i hnlt
        rcases lk_join hl with ⟨q, y, rfl, hy, rfl⟩ | hx
        · rw [blk_sh] at hb
          exact hmW.off q y k hy hb
        · rw [blk_agree (joinE_agree E E' nl) (hm.lab _ _ hx)] at hb
          exact absurd (hm.lt hx hb) hnlt
  have hnew : NewIn w.heap.size W (V.over w.heap.size W) := fun k o hk h => by
    show (if _ then _ else _) = _
    rw [if_neg (by omega)]
    exact h
  have := hK (x, V.over w.heap.size W) (joinE E E' nl) w' ⟨hle2, hΦ _ hnew⟩ (joinE_agree E E' nl) hmem (SV.ok_sh hsok)
  rw [SV.den_sh] at this
  exact this

/-- A row of one's own, as what may be read of the world by its plain slice. -/
theorem Mem.named {α : Type} {enc : α → List Value} {E : Env} {w : World} (hm : Mem E O nl V w) (l q : Nat) {b e sz : Nat} {v : Value} {L : List α} (hl : lk O l = some (.row e sz L.length (L.flatMap enc))) (hq : lk O q = some (.keep l b v))
    (he : ∀ x, (enc x).length = sz) : SlOf (vw w) enc sz v L := by
  have := hm.rowOf l hl he
  rwa [(hm.kp _ _ _ _ hq).2.1] at this
end
/-- A row that is seen whole. -/
def VRow (V : Vw) (v : Value) (e sz m : Nat) (xs : List Value) : Prop :=
  xs.length = m * sz ∧ ((v = .slice none 0 0 ∧ m = 0) ∨ ∃ g cap cur, v = .slice (some ⟨g, 0, none⟩) m cap ∧ V.get g = some (.cells cur e (0, 0)) ∧ m ≤ cap ∧ cap ≤ maxLen ∧ cur.size = cap * sz ∧ cur.toList.take (m * sz) = xs)

theorem VRow.mono {V V' : Vw} (h : V.le V') {v : Value} {e sz m : Nat} {xs : List Value} (hs : VRow V v e sz m xs) : VRow V' v e sz m xs :=
  ⟨hs.1, hs.2.imp id fun ⟨g, cap, cur, h1, h2, h3⟩ => ⟨g, cap, cur, h1, h.get _ _ h2, h3⟩⟩

theorem VRow.newIn {base : Nat} {W V : Vw} {v : Value} {e sz m : Nat} {xs : List Value} (h : VRow W v e sz m xs) (hn : NewSl base v) (hV : NewIn base W V) : VRow V v e sz m xs :=
  ⟨h.1, h.2.imp id fun ⟨g, cap, cur, h1, h2, h3⟩ => ⟨g, cap, cur, h1, hV _ _ (hn g (by rw [h1]; rfl)) h2, h3⟩⟩

theorem VRow.del {V : Vw} {v : Value} {e sz m : Nat} {xs : List Value} {u : Option Nat} (h : VRow V v e sz m xs) (hd : ∀ k, v.ownBlock = some k → u ≠ some k) : VRow (V.delO u) v e sz m xs := by
  refine ⟨h.1, h.2.imp id fun ⟨g, cap, cur, h1, h2, h3⟩ => ⟨g, cap, cur, h1, ?_, h3⟩⟩
  have := hd g (by rw [h1]; rfl)
  cases u with
  | none => exact h2
  | some b =>
    show (if _ then _ else _) = _
    rw [if_neg (fun e => this (by rw [e]))]
    exact h2

theorem VRow.own {V : Vw} {v : Value} {e sz m : Nat} {xs : List Value} {w : World} (h : VRow V v e sz m xs) (hV : ∀ k o, V.get k = some o → w.heap[k]? = some o) : w.ownsRow 0 e sz v m xs :=
  ⟨h.1, h.2.imp id fun ⟨g, cap, cur, h1, h2, h3⟩ => ⟨g, cap, cur, h1, Nat.zero_le _, hV _ _ h2, h3⟩⟩

theorem VRow.sl {V : Vw} {v : Value} {e sz m : Nat} {xs : List Value} (h : VRow V v e sz m xs) : IsSl V v sz m xs := by
  refine ⟨h.1, ?_⟩
  rcases h.2 with ⟨rfl, h1⟩ | ⟨g, cap, cur, rfl, hg, hnc, _, hcs, htake⟩
  · exact .inl ⟨none, 0, rfl, h1⟩
  · refine .inr ⟨g, 0, cap, cur, e, (0, 0), rfl, hg, ?_, ?_, hnc⟩
    · rw [hcs]
      have := Nat.mul_le_mul_right sz hnc
      omega
    · rw [List.drop_zero, htake]

theorem VRow.seen {V : Vw} {v : Value} {e sz m k : Nat} {xs : List Value} (h : VRow V v e sz m xs) (hk : v.ownBlock = some k) : (V.get k).isSome = true := by
  rcases h.2 with ⟨rfl, h1⟩ | ⟨g, cap, cur, rfl, hg, _⟩
  · cases hk
  · have : g = k := by simpa [Value.ownBlock] using hk
    rw [← this, hg]; rfl

theorem ownsRow_VRow {w : World} {b e sz m : Nat} {v : Value} {xs : List Value} {V' : Vw} (h : w.ownsRow b e sz v m xs) (hV : ∀ k, v.ownBlock = some k → V'.get k = w.heap[k]?) : VRow V' v e sz m xs :=
  ⟨h.1, h.2.imp id fun ⟨g, cap, cur, h1, _, h2, h3⟩ => ⟨g, cap, cur, h1, by rw [hV g (by rw [h1]; rfl)]; exact h2, h3⟩⟩

section
variable {P : Program} {tt : List (Nat × TI)} {n : Nat} {F : Frame0} {C : List Nat} {O : Own} {nl : Nat} {V : Vw} {o : Oper}

/-- A row whose slice has a name becomes one that nobody writes. -/
theorem k_freezeN {K : Act → World → Prop} (l q b : Nat) {v : Value} {e sz m : Nat} {xs : List Value} (hl : lk O l = some (.row e sz m xs)) (hq : lk O q = some (.keep l b v))
    (h : ∀ V', V.le V' → VRow V' v e sz m xs → (∀ k, v.ownBlock = some k → V.get k = none) → KJ K n F C ((l, .gone) :: O) nl V') : KJ K n F C O nl V := by
  constructor
  intro E a w hda hf hm
  have hv := (hm.kp _ _ _ _ hq).2.1
  have hrow := hm.row _ _ _ _ _ hl
  rw [hv] at hrow
  have hoff : ∀ k, v.ownBlock = some k → V.get k = none := fun k hk => hm.off l _ k hl (by simpa [blk, hv] using hk)
  let V' : Vw := ⟨fun k => if v.ownBlock = some k then w.heap[k]? else V.get k, V.os, V.tape, V.output⟩
  have hle : V.le V' := by
    refine ⟨fun k ob hk => ?_, rfl, rfl, rfl⟩
    show (if _ then _ else _) = _
    by_cases hq : v.ownBlock = some k
    · rw [hoff k hq] at hk; cases hk
    · rw [if_neg hq]; exact hk
  have hvr : VRow V' v e sz m xs := ownsRow_VRow hrow (fun k hk => by show (if _ then _ else _) = _; rw [if_pos hk])
  refine (h V' hle hvr hoff).out E a w hda hf ?_
  have old : ∀ l' c, lk ((l, Cel.gone) :: O) l' = some c → c = .gone ∨ (l' ≠ l ∧ lk O l' = some c) := by
    intro l' c h
    by_cases e1 : l' = l
    · subst e1; rw [lk_same] at h; cases h; exact .inl rfl
    · rw [lk_other _ _ (fun x => e1 x.symm)] at h; exact .inr ⟨e1, h⟩
  refine ⟨?_, ?_, ?_, fun k o hk => ?_, fun l' c k h' hb => ?_, hm.os, hm.tape, hm.output, ?_, ?_, ?_, ?_, ?_⟩
  · intro l' cs q h'
    rcases old _ _ h' with h1 | ⟨_, h1⟩
    · cases h1
    · exact hm.lit _ _ _ h1
  · intro l' q s n' ys h'
    rcases old _ _ h' with h1 | ⟨_, h1⟩
    · cases h1
    · exact hm.row _ _ _ _ _ h1
  · intro l1 l2 c1 c2 k h1 h2 hk1 hk2
    rcases old _ _ h1 with rfl | ⟨_, h3⟩
    · simp [blk] at hk1
    · rcases old _ _ h2 with rfl | ⟨_, h4⟩
      · simp [blk] at hk2
      · exact hm.sep _ _ _ _ _ h3 h4 hk1 hk2
  · change (if _ then _ else _) = _ at hk
    split at hk
    · exact hk
    · exact hm.get k o hk
  · rcases old _ _ h' with rfl | ⟨hne, h3⟩
    · simp [blk] at hb
    · show (if _ then _ else _) = _
      rw [if_neg, hm.off l' c k h3 hb]
      intro hk
      exact hne (hm.sep _ _ _ _ _ h3 hl hb (by simpa [blk, hv] using hk))
  · intro l' c h'
    by_cases e1 : l' = l
    · subst e1; exact hm.lab _ _ hl
    · rw [lk_other _ _ (fun x => e1 x.symm)] at h'; exact hm.lab _ _ h'
  · intro l' cs q h'
    rcases old _ _ h' with h1 | ⟨_, h1⟩
    · cases h1
    · exact hm.labs _ _ _ h1
  · intro l' q b' h'
    rcases old _ _ h' with h1 | ⟨_, h1⟩
    · cases h1
    · exact hm.pin _ _ _ h1
  · intro l' k h'
    rcases old _ _ h' with h1 | ⟨_, h1⟩
    · cases h1
    · exact hm.big _ _ h1
  · intro l' q b' v' h'
    rcases old _ _ h' with h1 | ⟨_, h1⟩
    · cases h1
    · exact hm.kp _ _ _ _ h1

/-- A row that is seen whole becomes one's own again. -/
theorem k_thawR {K : Act → World → Prop} {v : Value} {e sz m : Nat} {xs : List Value} (hv : VRow V v e sz m xs)
    (h : ∀ b, KJ K n F C ((nl + 1, .keep nl b v) :: (nl, .row e sz m xs) :: O) (nl + 2) (V.delO v.ownBlock)) : KJ K n F C O nl V := by
  constructor
  intro E a w hda hf hm
  have h1 := (hm.addRow (hv.own hm.get) (fun k hk => hv.seen hk)).addKeep nl (by omega)
  have hr : (E.setκ nl v).κ nl = v := by simp [Env.setκ]
  rw [hr] at h1
  exact (h _).out (E.setκ nl v) a w hda (Frm.env (Env.agree_setκ E v) (by omega) hf) h1

/-- What makes a row, its slice by name. -/
theorem StepTo.named {p : List (Nat × Bool)} {σ : Type} {Φ : σ → Prop} {l : Nat} {O2 : σ → Own} {k2 : Nat} {V2 : σ → Vw} (h : StepTo P o p n F C O nl V Φ (fun _ => .a (.row l)) O2 k2 V2) (hl : Nat.blt l k2 = true) (hr : ∀ x, ∃ e sz m xs, lk (O2 x) l = some (.row e sz m xs)) :
    StepTo P o p n F C O nl V (σ := σ × Nat × Option Addr × Nat × Nat) (fun x => Φ x.1) (fun x => .a (.v (.slice x.2.2.1 x.2.2.2.1 x.2.2.2.2))) (fun x => (k2, .keep l x.2.1 (.slice x.2.2.1 x.2.2.2.1 x.2.2.2.2)) :: O2 x.1) (k2 + 1) (fun x => V2 x.1) := by
  constructor
  intro E a w hf hgv hm K Q hK
  refine h.out E a w hf hgv hm K Q (fun x E' w' hΦ hag hm' hok => ?_)
  obtain ⟨e, sz, m, xs, hrow⟩ := hr x
  have ho := hm'.row _ _ _ _ _ hrow
  have hs : ∃ a n c, E'.κ l = .slice a n c := by
    rcases ho.2 with ⟨h1, _⟩ | ⟨g, cap, cur, h1, _⟩
    · exact ⟨_, _, _, h1⟩
    · exact ⟨_, _, _, h1⟩
  obtain ⟨a', n', c', hs⟩ := hs
  have hk := hm'.addKeep l (by simpa [blt_iff] using hl)
  rw [hs] at hk
  have := hK (x, E'.ρ l, a', n', c') E' w' hΦ hag hk rfl
  have hd : (SV.a (A.row l)).den E' = .slice a' n' c' := hs
  rw [hd]
  exact this
end
end Go.Eng
