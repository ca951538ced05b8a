/- A transaction's records: cutting texts, the closure that puts. -/
import Derived.Test.YtlcpfhjbhogdiaaRec
set_option linter.unusedVariables false
set_option linter.unusedSimpArgs false
set_option maxRecDepth 100000
namespace Go.Proofs.Ytlcpfhjbhogdiaa
open Go Go.Eng Go.RowKit


def headOf (s : ByteArray) : ByteArray := s.extract 0 (min s.size 256)
def tailOf (s : ByteArray) : ByteArray := s.extract (min s.size 256) s.size

theorem minI (a : Nat) : (bif false then max (a : Int) 256 else min (a : Int) 256) = ((min a 256 : Nat) : Int) := by
  simp only [cond_false]; omega

theorem cut_c (s : ByteArray) (w : World) : Calls Try.prog 73 #[S s] w fun e w' => e = .returned (.tuple #[S (headOf s), S (tailOf s)]) ∧ Below w.heap.size w w' := by
  refine enter (E := E0) (O := []) (nl := 0) (V := vw w) [.a (.v (S s))] Try.func73 rfl rfl (mem0 E0 0 w) rfl rfl ?_
  refine c_seq ?_
  refine c_region ?_
  refine o_yield rfl rfl rfl (y_val tok rfl) ?_
  refine o_yield rfl rfl rfl (y_val tok rfl) ?_
  refine o_end [0] rfl ?_
  refine x_then ?_
  refine c_seq ?_
  refine c_region ?_
  refine o_yield rfl rfl rfl (y_val tok rfl) ?_
  refine o_yield rfl rfl rfl (y_val tok rfl) ?_
  refine o_yield rfl rfl rfl (y_mm rfl) ?_
  refine o_yield rfl rfl rfl (y_val tok rfl) ?_
  refine o_end [0, 4] rfl ?_
  refine x_then ?_
  refine c_seq ?_
  refine c_draw mixed (by kernel_rfl) ?_
  refine d_yield rfl rfl rfl (y_val tok rfl) rfl ?_
  refine d_yield rfl rfl rfl (y_val tok rfl) rfl ?_
  rw [minI]
  refine d_yield rfl rfl rfl (y_ss tok rfl (fun hg => by simp only [Option.getD]; omega)) rfl ?_
  refine d_yield rfl rfl rfl (y_val tok rfl) rfl ?_
  refine d_yield rfl rfl rfl (y_val tok rfl) rfl ?_
  refine d_yield rfl rfl rfl (y_ss tok rfl (fun hg => by simp only [Option.getD]; omega)) rfl ?_
  refine d_yield rfl rfl rfl (y_val tok rfl) rfl ?_
  refine d_yield rfl rfl rfl (y_val tok rfl) rfl ?_
  refine d_end [2, 3] rfl ?_
  refine x_then ?_
  refine c_ret ?_
  refine b_ret tok rfl ?_
  intro E w' hm _
  exact ⟨rfl, hm.below (Vw.le.refl _)⟩

def Record.at (r : Record) (key lsn : Int) : Record := ⟨key, lsn, r.block, r.k, r.text, r.count⟩

theorem rec_ones (l : List Record) : ∀ u ∈ l.flatMap Record.cells, u.oneCell' = true := by
  intro u hu
  obtain ⟨x, _, hx⟩ := List.mem_flatMap.1 hu
  simp only [Record.cells, List.mem_cons, List.not_mem_nil, or_false] at hx
  rcases hx with rfl | rfl | rfl | rfl | rfl | rfl <;> rfl

abbrev Ptr (b : Nat) : Value := .pointer (some ⟨b, 0, none⟩)

theorem put_c (r : Record) (key lsn : Int) (l : List Record) (bk bl bo : Nat) (v : Value) (w : World) (hk : w.heap[bk]? = some (.cells #[I key] 3 (0, 0))) (hl : w.heap[bl]? = some (.cells #[I lsn] 3 (0, 0)))
    (ho : w.heap[bo]? = some (.cells #[v] 27 (0, 0))) (hr : w.ownsRow 0 37 6 v l.length (l.flatMap Record.cells)) (d2 : bk ≠ bo) (d3 : bl ≠ bo)
    (e1 : v.ownBlock ≠ some bk) (e2 : v.ownBlock ≠ some bl) (e3 : v.ownBlock ≠ some bo) (hn : l.length ≤ 1048576) :
    Calls Try.prog 72 #[r.val, Ptr bk, Ptr bl, Ptr bo] w fun e w' => e = .returned (.bool (recB (r.at key (IntKind.i64.wrap (lsn + l.length))))) ∧
      ∃ v', Go.Eng.Touch (fun k => k = bo ∨ v.ownBlock = some k) w w' ∧ w'.heap[bo]? = some (.cells #[v'] 27 (0, 0)) ∧
        w'.ownsRow 0 37 6 v' (l.length + 1) ((l ++ [r.at key (IntKind.i64.wrap (lsn + l.length))]).flatMap Record.cells) ∧ (v'.ownBlock = v.ownBlock ∨ ∀ k, v'.ownBlock = some k → w.heap.size ≤ k) := by
  have hV : ∀ k, v.ownBlock = some k → ((vw w).get k).isSome = true := fun k h => by
    have := (hr.lt k h).2
    simp [vw, this]
  have hm1 := (mem0 E0 0 w).addRow hr hV
  have get1 : ∀ k, v.ownBlock ≠ some k → ((vw w).delO v.ownBlock).get k = w.heap[k]? := fun k h => by
    cases hv : v.ownBlock with
    | none => rfl
    | some b =>
      simp only [Vw.delO, Vw.del, vw]
      rw [if_neg (fun e => h (by rw [hv, e]))]
  have hm2 := hm1.addLit (b := bo) (e := 27) (cs := [.row 0]) (by rw [get1 bo e3, ho]; rfl) rfl
  have hm3 := (hm2.addPin 1 bo (by simp [Env.setρ]) (by omega)).addSize
  have get2 : ∀ k, v.ownBlock ≠ some k → k ≠ bo → (((vw w).delO v.ownBlock).del bo).get k = w.heap[k]? := fun k h h' => by
    simp only [Vw.del]
    rw [if_neg h', ← get1 k h]
  have hk' := (get2 bk e1 d2).trans hk
  have hl' := (get2 bl e2 d3).trans hl
  generalize hV0 : (((vw w).delO v.ownBlock).del bo) = V0 at hm3 hk' hl' get2
  have hos : V0.os = w.os ∧ V0.tape = w.tape ∧ V0.output = w.output := by
    rw [← hV0]
    cases v.ownBlock <;> exact ⟨rfl, rfl, rfl⟩
  have key0 : ∀ k, V0.get k = none → k < w.heap.size → k = bo ∨ v.ownBlock = some k := fun k hg hlt => by
    by_cases h1 : k = bo
    · exact .inl h1
    · by_cases h2 : v.ownBlock = some k
      · exact .inr h2
      · rw [get2 k h2 h1] at hg
        simp [hlt] at hg
  clear hm1 hm2 hV0
  obtain ⟨E, hE⟩ : ∃ E, E = (E0.setκ 0 v).setρ 1 bo := ⟨_, rfl⟩
  have hb : E.ρ 1 = bo := by rw [hE]; simp [Env.setρ]
  have hvE : E.κ 0 = v := by rw [hE]; simp [Env.setρ, Env.setκ]
  rw [← hE] at hm3
  clear hE
  subst hb hvE
  refine enter [.a (.v r.val), .a (.v (Ptr bk)), .a (.v (Ptr bl)), .a (.ptr 1 0)] Try.func72 rfl rfl (hm3) rfl rfl ?_
  refine c_seq ?_
  refine c_region ?_
  refine o_new tok rfl rfl rfl rfl ?_
  refine o_yield rfl rfl rfl (y_val tok rfl) ?_
  refine o_end [1, 2, 3, 4] rfl ?_
  refine x_then ?_
  refine c_seq ?_
  refine c_held [] ([(3, .size w.heap.size), (2, .pin 1 (E.ρ 1)), (1, .lit [.row 0] 27), (0, .row 37 6 l.length (l.flatMap Record.cells))]) mixed (by repeat (first | exact SubO.nil | refine SubO.cons rfl ?_)) rfl ?_
  refine t_take 0 rfl (by kernel_rfl) rfl rfl rfl (y_ldp tok rfl (fun hg => hk') rfl) rfl ?_
  refine t_take 1 rfl (by kernel_rfl) rfl rfl rfl (y_ldp tok rfl (fun hg => hl') rfl) rfl ?_
  refine t_take 2 rfl (by kernel_rfl) rfl rfl rfl (y_val tok rfl) rfl ?_
  refine t_take 3 rfl (by kernel_rfl) rfl rfl rfl (y_val tok rfl) rfl ?_
  refine t_take 4 rfl (by kernel_rfl) rfl rfl rfl (y_val tok rfl) rfl ?_
  refine t_take 5 rfl (by kernel_rfl) rfl rfl rfl (y_val tok rfl) rfl ?_
  refine t_go ?_
  refine h_one 6 (by kernel_rfl) ?_
  refine h_store 6 tok rfl rfl rfl rfl (by first | exact ⟨trivial, trivial⟩ | simp [onesP, oneP, lk, Value.oneCell']) (.inr ⟨(by repeat (first | exact SubO.nil | refine SubO.cons rfl ?_)), rfl, Vw.le.refl _⟩) ?_
  refine h_one 7 (by kernel_rfl) ?_
  refine h_yield 7 rfl rfl rfl rfl (y_val tok rfl) ?_
  refine h_one 8 (by kernel_rfl) ?_
  refine h_store 8 tok rfl rfl rfl rfl (by first | exact ⟨trivial, trivial⟩ | simp [onesP, oneP, lk, Value.oneCell']) (.inr ⟨(by repeat (first | exact SubO.nil | refine SubO.cons rfl ?_)), rfl, Vw.le.refl _⟩) ?_
  refine h_done [3, 4] (by kernel_rfl) rfl ?_
  refine x_then ?_
  refine c_seq ?_
  refine c_region ?_
  refine o_yield rfl rfl rfl (y_val tok rfl) ?_
  refine o_yield rfl rfl rfl (y_val tok rfl) ?_
  refine o_step rfl rfl rfl rfl rfl (s_bs tok 6 rfl rfl rfl) (fun _ _ => ?_)
  refine o_step rfl rfl rfl rfl rfl (s_app tok (r.at key (IntKind.i64.wrap (lsn + l.length))).cells rfl (fun E w hm => ownsRow_src (hm.row _ _ _ _ _ rfl)) (fun _ _ _ => by simpa using rec_ones [r.at key (IntKind.i64.wrap (lsn + l.length))]) (by dsimp only; omega)) (fun _ _ => ?_)
  refine o_store tok rfl rfl rfl (by first | exact ⟨trivial, trivial⟩ | simp [onesP, oneP, lk, Value.oneCell']) ?_
  refine o_end [4] rfl ?_
  refine x_then ?_
  refine c_seq ?_
  refine c_region ?_
  refine o_yield rfl rfl rfl (y_val tok rfl) ?_
  refine o_call (.a (.v _)) rfl rfl fnok41 rfl rfl rfl (fun hg E w1 hm => by exact recMay_c (r.at key (IntKind.i64.wrap (lsn + l.length))) _) ?_
  refine o_yield rfl rfl rfl (y_val tok rfl) ?_
  refine o_end [5] rfl ?_
  refine x_then ?_
  refine c_ret ?_
  refine b_ret tok rfl ?_
  intro E' w' hm _
  refine ⟨rfl, E'.κ 6, ?_, ?_, ?_, ?_⟩
  · exact hm.touch (Vw.le.refl _) (fun k o hk hS => by rw [get2 k (fun h => hS (.inr h)) (fun h => hS (.inl h))]; exact hk) hos (hm.big 3 _ rfl)
  · rw [← (hm.pin 2 1 _ rfl).1]
    exact hm.lit 1 _ _ rfl
  · have := hm.row 6 _ _ _ _ rfl
    simpa [List.flatMap_append] using this
  · cases hv' : (E'.κ 6).ownBlock with
    | none => exact .inr (fun k h => by cases h)
    | some k =>
      by_cases hlt : k < w.heap.size
      · rcases key0 k (hm.off 6 _ k rfl (by simpa [blk] using hv')) hlt with h | h
        · have := hm.sep 6 1 _ _ k rfl rfl (by simpa [blk] using hv') (by simp [blk, (hm.pin 2 1 _ rfl).1, h])
          cases this
        · exact .inl h.symm
      · exact .inr (fun k' h => by cases h; omega)

section
variable {o : Oper} {n : Nat} {F : Frame0} {C : List Nat} {O : Own} {nl : Nat} {V : Vw}

/-- The closure's call, in the labels of who calls it. -/
theorem s_put {p : List (Nat × Bool)} (a b c rr : Nat) (r : Record) (key lsn : Int) (l : List Record) (x : SV) (hx : ∀ E, x.den E = r.val) (hv : evalC F p o.op = some (72, [x, .a (.ptr a 0), .a (.ptr b 0), .a (.ptr c 0)]))
    (h1 : lk O a = some (.lit [.v (I key)] 3)) (h2 : lk O b = some (.lit [.v (I lsn)] 3)) (h3 : lk O c = some (.lit [.row rr] 27)) (h4 : lk O rr = some (.row 37 6 l.length (l.flatMap Record.cells)))
    (hn : l.length ≤ 1048576) (hab : a ≠ c) (hbc : b ≠ c) :
    StepTo Try.prog o p n F C O nl V (σ := Unit) (fun _ => True) (fun _ => .a (.v (.bool (recB (r.at key (IntKind.i64.wrap (lsn + l.length)))))))
      (fun _ => (c, .lit [.row nl] 27) :: (nl, .row 37 6 (l.length + 1) ((l ++ [r.at key (IntKind.i64.wrap (lsn + l.length))]).flatMap Record.cells)) :: (rr, .gone) :: O) (nl + 1) (fun _ => V) := by
  constructor
  intro E a' w hf hgv hm K Q hK
  obtain ⟨hr, _⟩ := evalC_sound hf hgv hv fnok72 w
  unfold Oper.wp
  rw [hr, Oper.upon_enter]
  have hrow := hm.row _ _ _ _ _ h4
  have nr : ∀ {q : Nat} {cs : List A} {e : Nat}, lk O q = some (.lit cs e) → (E.κ rr).ownBlock ≠ some (E.ρ q) := fun {q cs e} hq h => by
    have := hm.sep rr q _ _ (E.ρ q) h4 hq (by simpa [blk] using h) rfl
    subst this
    rw [h4] at hq
    cases hq
  have hargs : ([x, .a (.ptr a 0), .a (.ptr b 0), .a (.ptr c 0)] : List SV).map (SV.den E) = [r.val, Ptr (E.ρ a), Ptr (E.ρ b), Ptr (E.ρ c)] := by
    simp only [List.map_cons, List.map_nil, hx]
    rfl
  rw [hargs]
  refine (put_c r key lsn l (E.ρ a) (E.ρ b) (E.ρ c) (E.κ rr) w (hm.lit _ _ _ h1) (hm.lit _ _ _ h2) (hm.lit _ _ _ h3) hrow
    (fun h => hab (hm.sep a c _ _ _ h1 h3 rfl (by simp [blk, h]))) (fun h => hbc (hm.sep b c _ _ _ h2 h3 rfl (by simp [blk, h]))) (nr h1) (nr h2) (nr h3) hn).mono ?_
  rintro e w' ⟨rfl, v', ht, hb, hown, hbk⟩
  refine hK () (E.setκ nl v') w' trivial (Env.agree_setκ E v') ?_ rfl
  have hc := hm.lab _ _ h3
  refine hm.regrow (cs' := [.row nl]) h3 h4 ht (by simp [allOk, A.ok, blt_iff]) ?_ hown hbk
  simpa [A.den, Env.setκ] using hb
end
end Go.Proofs.Ytlcpfhjbhogdiaa
