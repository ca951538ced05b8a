import Derived.Test.YtipmgnhbcaniiaaFs3
/- Devices by what they hold; whether they may be. -/
set_option linter.unusedVariables false
set_option linter.unusedSimpArgs false
set_option maxRecDepth 100000
namespace Go.Proofs.Ytipmgnhbcaniiaa
open Go Go.Eng Go.RowKit

/-- A device of these sectors, caches, keys; no key is fenced. -/
def DevC (V : Vw) (v : Value) (S : List ByteArray) (C : List (List Cell)) (K : List Int) (nx : Int) : Prop :=
  ∃ a1 n1 c1 a2 n2 c2 a3 n3 c3 a4 n4 c4, ∃ D : List (Sl Cell), v = .agg #[.slice a1 n1 c1, .slice a2 n2 c2, .slice a3 n3 c3, I nx, .slice a4 n4 c4] ∧ SlOf V encS 1 (.slice a1 n1 c1) S ∧ SlOf V Sl.enc 1 (.slice a2 n2 c2) D ∧
    SlOf V encI64 1 (.slice a3 n3 c3) K ∧ SlOf V encI64 1 (.slice a4 n4 c4) ([] : List Int) ∧ D.map Sl.l = C ∧ ∀ c ∈ D, SlOf V Cell.cells 2 c.v c.l

theorem DevC.mono {V V' : Vw} {v : Value} {S : List ByteArray} {C : List (List Cell)} {K : List Int} {nx : Int} (h : DevC V v S C K nx) (hle : V.le V') : DevC V' v S C K nx := by
  obtain ⟨a1, n1, c1, a2, n2, c2, a3, n3, c3, a4, n4, c4, D, rfl, h1, h2, h3, h4, h5, h6⟩ := h
  exact ⟨a1, n1, c1, a2, n2, c2, a3, n3, c3, a4, n4, c4, D, rfl, h1.mono hle, h2.mono hle, h3.mono hle, h4.mono hle, h5, fun c hc => (h6 c hc).mono hle⟩

structure DevGood (S : List ByteArray) (C : List (List Cell)) (K : List Int) (nx : Int) : Prop where
  s0 : 0 < S.length
  sn : S.length ≤ 100000
  ss : shortB S = true
  k0 : 0 < K.length
  k1 : K.length ≤ 16
  ck : C.length = K.length
  n1 : 1 ≤ nx
  n2 : nx < 1000
  cs : ∀ l ∈ C, cacheF (S.length : Int) [] l = true ∧ l.length ≤ 900
  ks : ∀ (i : Nat) (k : Int), K[i]? = some k → k = 0 ∨ (16 ≤ k ∧ k < 16 * nx ∧ k % 16 = (i : Int))

theorem keysF_ok (d : Device) (hn : 1 ≤ d.next_ ∧ d.next_ < 1000) (hk16 : d.keys.l.length ≤ 16) : ∀ (ks : List Int) (cs : List (Sl Cell)) (i : Nat), i + ks.length ≤ d.keys.l.length → (∀ c ∈ cs, cacheF (d.s.l.length : Int) [] c.l = true) →
    (∀ (j : Nat) (k : Int), ks[j]? = some k → k = 0 ∨ (16 ≤ k ∧ k < 16 * d.next_ ∧ k % 16 = ((i + j : Nat) : Int))) → keysF d i ks cs = true
  | [], _, _, _, _, _ => by rw [keysF]; intros; simp_all
  | _ :: _, [], _, _, _, _ => by rw [keysF]; intros; simp_all
  | k :: ks, c :: cs, i, hl, hc, hk => by
    rw [keysF, Bool.and_eq_true]
    simp only [List.length_cons] at hl
    refine ⟨?_, keysF_ok d hn hk16 ks cs (i + 1) (by omega) (fun x hx => hc x (List.mem_cons_of_mem _ hx)) (fun j x hx => by have := hk (j + 1) x (by simpa using hx); rw [show i + 1 + j = i + (j + 1) by omega]; exact this)⟩
    rw [keyOkB, hc c List.mem_cons_self, Bool.true_and]
    rcases hk 0 k rfl with rfl | ⟨h1, h2, h3⟩
    · rfl
    · have ht : k.tmod 16 = k % 16 := Int.tmod_eq_emod_of_nonneg (by omega)
      have hd : k.tdiv 16 = k / 16 := Int.tdiv_eq_ediv_of_nonneg (by omega)
      rw [givenB, ht, hd, wrapI (by omega) (by omega), decide_eq_true h1, decide_eq_true (show k / 16 < d.next_ by omega), decide_eq_true (show k % 16 < (d.keys.l.length : Int) by omega), decide_eq_true (show k % 16 = (i : Int) by omega)]
      simp

theorem DevGood.check {S : List ByteArray} {C : List (List Cell)} {K : List Int} {nx : Int} (h : DevGood S C K nx) (v1 v2 v3 v4 : Value) {D : List (Sl Cell)} (hD : D.map Sl.l = C) : checkB ⟨⟨v1, S⟩, ⟨v2, D⟩, ⟨v3, K⟩, nx, ⟨v4, []⟩⟩ = true := by
  have hDl : D.length = K.length := by rw [← h.ck, ← hD, List.length_map]
  have h1 : headB ⟨⟨v1, S⟩, ⟨v2, D⟩, ⟨v3, K⟩, nx, ⟨v4, []⟩⟩ = true := by
    have := h.k1; have := h.k0; have := h.n1; have := h.n2; have := h.s0
    rw [headB, h.ss, decide_eq_true (show 0 < S.length from h.s0), decide_eq_true ⟨h.k0, h.k1, hDl, h.n1, by dsimp only; omega⟩]
    rfl
  have h2 := keysF_ok ⟨⟨v1, S⟩, ⟨v2, D⟩, ⟨v3, K⟩, nx, ⟨v4, []⟩⟩ ⟨h.n1, h.n2⟩ h.k1 K D 0 (by simp) (fun c hc => (h.cs c.l (by rw [← hD]; exact List.mem_map_of_mem hc)).1) (fun j k hk => by
    have := h.ks j k hk
    rw [Nat.zero_add]
    exact this)
  rw [checkB, h1]
  dsimp only at h2 ⊢
  rw [h2]
  rfl
end Go.Proofs.Ytipmgnhbcaniiaa

/- What the document's device does: a sector put into a cache. -/
set_option linter.unusedVariables false
set_option linter.unusedSimpArgs false
set_option maxRecDepth 100000
namespace Go.Proofs.Ytipmgnhbcaniiaa
open Go Go.Eng Go.RowKit

def DoR (S : List ByteArray) (C : List (List Cell)) (K : List Int) (nx : Int) (got : ByteArray) (v : Value) (V' : Vw) : Prop := ∃ v1, v = .tuple #[v1, S' got, I 0] ∧ DevC V' v1 S C K nx
where S' (x : ByteArray) : Value := .string x

def DoQ (V : Vw) (S : List ByteArray) (C : List (List Cell)) (K : List Int) (nx : Int) (got : ByteArray) (w : World) (e : Ending) (w' : World) : Prop :=
  ∃ v V', e = .returned v ∧ Below w.heap.size w w' ∧ Vext w.heap.size V V' w' ∧ DoR S C K nx got v V'

theorem le_delO {w : World} {W : Vw} {v : Value} (hle : (vw w).le W) (hn : NewSl w.heap.size v) : (vw w).le (W.delO v.ownBlock) := by
  cases hb : v.ownBlock with
  | none => exact hle
  | some b =>
    refine ⟨fun k o hk => ?_, hle.os, hle.tape, hle.output⟩
    show (if _ then _ else _) = _
    have h1 : k < w.heap.size := (Array.getElem?_eq_some_iff.1 hk).1
    have h2 := hn b hb
    rw [if_neg (by omega)]
    exact hle.get k o hk

theorem fin_dev {E : Env} {O : Go.Eng.Own} {nl : Nat} {V W : Vw} {w w' : World} (hm : Mem E O nl W w') (hle : (vw w).le W) (rS rC rK rF : Nat) {S : List ByteArray} {D : List (Sl Cell)} {K : List Int} (nx : Int)
    {nS nC nK : Nat} {xS xC xK : List Value} (hS : lk O rS = some (.row 9 1 nS xS)) (hC : lk O rC = some (.row 70 1 nC xC)) (hK : lk O rK = some (.row 3 1 nK xK)) (hF : lk O rF = some (.row 3 1 0 []))
    (eS : nS = S.length ∧ xS = S.flatMap encS) (eC : nC = D.length ∧ xC = D.flatMap Sl.enc) (eK : nK = K.length ∧ xK = K.flatMap encI64) (hc : ∀ c ∈ D, SlOf (V.grown w w') Cell.cells 2 c.v c.l) : DevC (V.grown w w') (.agg #[E.κ rS, E.κ rC, E.κ rK, I nx, E.κ rF]) S (D.map Sl.l) K nx := by
  obtain ⟨rfl, rfl⟩ := eS
  obtain ⟨rfl, rfl⟩ := eC
  obtain ⟨rfl, rfl⟩ := eK
  have h1 := SlOf.grown (enc := encS) V (hm.rowFresh hle hS) (fun _ => rfl)
  have h2 := SlOf.grown (enc := Sl.enc) V (hm.rowFresh hle hC) (fun _ => rfl)
  have h3 := SlOf.grown (enc := encI64) V (hm.rowFresh hle hK) (fun _ => rfl)
  have h4 := SlOf.grown (enc := encI64) (L := ([] : List Int)) V (hm.rowFresh hle hF) (fun _ => rfl)
  obtain ⟨a1, n1, c1, e1⟩ := sl_shape h1.sl
  obtain ⟨a2, n2, c2, e2⟩ := sl_shape h2.sl
  obtain ⟨a3, n3, c3, e3⟩ := sl_shape h3.sl
  obtain ⟨a4, n4, c4, e4⟩ := sl_shape h4.sl
  rw [e1] at h1
  rw [e2] at h2
  rw [e3] at h3
  rw [e4] at h4
  exact ⟨a1, n1, c1, a2, n2, c2, a3, n3, c3, a4, n4, c4, D, by rw [e1, e2, e3, e4], h1, h2, h3, h4, rfl, hc⟩

theorem Copies.at {base : Nat} {V : Vw} {l C : List (Sl Cell)} (h : Copies base V l C) {node : Nat} {r : List Cell} (hl : (l.map Sl.l)[node]? = some r) : ∃ a n c, C[node]? = some ⟨.slice a n c, r⟩ ∧ node < C.length := by
  rw [← h.same, List.getElem?_map] at hl
  cases hc : C[node]? with
  | none => rw [hc] at hl; cases hl
  | some x =>
    rw [hc] at hl
    have hxl : x.l = r := by simpa using hl
    obtain ⟨a, n, c, e⟩ := sl_shape (h.row x (List.mem_of_getElem? hc)).sl
    obtain ⟨xv, xl⟩ := x
    dsimp only at hxl e
    subst hxl e
    exact ⟨a, n, c, rfl, (List.getElem?_eq_some_iff.1 hc).1⟩

/-- The other copies, where one of them is taken out of the view. -/
theorem Copies.rest {base : Nat} {V : Vw} {l C : List (Sl Cell)} (h : Copies base V l C) {node : Nat} {x : Sl Cell} (hx : C[node]? = some x) {i : Nat} {y : Sl Cell} (hi : i ≠ node) (hy : C[i]? = some y) : SlOf (V.delO x.v.ownBlock) Cell.cells 2 y.v y.l := by
  refine ⟨((h.row y (List.mem_of_getElem? hy)).del (fun k hk he => ?_)).sl, fun _ => rfl⟩
  rcases Nat.lt_or_gt_of_ne hi with hlt | hlt
  · exact h.sep i node y x k hlt hy hx hk he
  · exact h.sep node i x y k hlt hx hy he hk

theorem mem_set {α : Type} {l : List α} {k : Nat} {x c : α} (h : c ∈ l.set k x) : c = x ∨ ∃ i, i ≠ k ∧ l[i]? = some c := by
  obtain ⟨i, hi⟩ := List.mem_iff_getElem?.1 h
  by_cases e : i = k
  · subst e
    rw [List.getElem?_set_self (by have := (List.getElem?_eq_some_iff.1 hi).1; rwa [List.length_set] at this)] at hi
    cases hi; exact .inl rfl
  · rw [List.getElem?_set_ne (fun x => e x.symm)] at hi
    exact .inr ⟨i, e, hi⟩

theorem map_set' {α β : Type} (f : α → β) : ∀ (l : List α) (k : Nat) (x : α), (l.set k x).map f = (l.map f).set k (f x)
  | [], _, _ => rfl
  | _ :: _, 0, _ => rfl
  | y :: r, k + 1, x => by simp only [List.set_cons_succ, List.map_cons, map_set' f r k x]

set_option maxHeartbeats 4000000 in
theorem doPut_c (V : Vw) (v : Value) (S : List ByteArray) (C : List (List Cell)) (K : List Int) (nx : Int) (node : Nat) (l : List Cell) (key sec : Int) (b : ByteArray) (w : World) (hV : V.le (vw w)) (hd : DevC V v S C K nx) (hg : DevGood S C K nx)
    (hl : C[node]? = some l) (hkn : K[node]? = some key) (hk1 : 1 ≤ key) (h0 : 0 ≤ sec) (h1 : sec < S.length) (hb : b.size ≤ 512) (hno : ∀ c ∈ l, c.sector ≠ sec) :
    Calls Try.prog 10 #[v, I node, .agg #[I8 3, I sec, .string b, I 0]] w (DoQ V S (C.set node (l ++ [⟨sec, b⟩])) K nx ByteArray.empty w) := by
  obtain ⟨a1, n1, c1, a2, n2, c2, a3, n3, c3, a4, n4, c4, D, rfl, hS0, hD0, hK0, hF0, hDC, hDc⟩ := hd
  have hS := hS0.mono hV
  have hD := hD0.mono hV
  have hK := hK0.mono hV
  have hF := hF0.mono hV
  have hsn := hg.sn
  have hk16 := hg.k1
  have hDl : D.length = K.length := by rw [← hg.ck, ← hDC, List.length_map]
  have hnK := (List.getElem?_eq_some_iff.1 hkn).1
  have hcs : ∀ c ∈ D, c.l.length ≤ 900 := fun c hc => (hg.cs c.l (by rw [← hDC]; exact List.mem_map_of_mem hc)).2
  have hck := hg.check (.slice a1 n1 c1) (.slice a2 n2 c2) (.slice a3 n3 c3) (.slice a4 n4 c4) hDC
  have hdi : DevIn (vw w) ⟨⟨.slice a1 n1 c1, S⟩, ⟨.slice a2 n2 c2, D⟩, ⟨.slice a3 n3 c3, K⟩, nx, ⟨.slice a4 n4 c4, []⟩⟩ := ⟨hS, by simp only [maxLen]; omega, hD, by simp only [maxLen]; omega, fun c hc => ⟨(hDc c hc).mono hV, by have := hcs c hc; simp only [maxLen]; omega⟩, hK, by simp only [maxLen]; omega, hF, by simp⟩
  have hchk := fun w1 hV1 => refCheck_c (vw w) ⟨⟨.slice a1 n1 c1, S⟩, ⟨.slice a2 n2 c2, D⟩, ⟨.slice a3 n3 c3, K⟩, nx, ⟨.slice a4 n4 c4, []⟩⟩ w1 hV1 hdi
  rw [hck, if_pos rfl] at hchk
  have hgv : ∀ (f : False) w, Calls Try.prog 31 #[.agg #[.slice a1 n1 c1, .slice a2 n2 c2, .slice a3 n3 c3, I nx, .slice a4 n4 c4], I 0] w fun e w' => e = .returned (.bool true) ∧ Below w.heap.size w w' := fun f => f.elim
  refine enter (E := E0) (O := []) (nl := 0) (V := vw w) [.a (.v (.agg #[.slice a1 n1 c1, .slice a2 n2 c2, .slice a3 n3 c3, I nx, .slice a4 n4 c4])), .a (.v (I node)), .a (.v (.agg #[I8 3, I sec, .string b, I 0]))] Try.func10 rfl rfl (mem0 E0 0 w) rfl rfl ?_
  refine c_seq ?_
  refine c_region ?_
  refine o_new tok rfl rfl rfl rfl ?_
  refine o_new tok rfl rfl rfl rfl ?_
  refine o_new tok rfl rfl rfl rfl ?_
  refine o_yield rfl rfl rfl (y_val tok rfl) ?_
  refine o_yield rfl rfl rfl (y_val tok rfl) ?_
  refine o_end [1, 3, 5, 6] rfl ?_
  refine x_then ?_
  refine c_seq ?_
  refine c_seq ?_
  refine c_region ?_
  refine o_yield rfl rfl rfl (y_val tok rfl) ?_
  refine o_call (.a (.v _)) rfl rfl fnok26 rfl rfl rfl (fun hg E w1 hm => by exact hchk _ hm.leV) ?_
  refine o_yield rfl rfl rfl (y_val tok rfl) ?_
  refine o_yield rfl rfl rfl (y_val tok rfl) ?_
  refine o_yield rfl rfl rfl (y_val tok rfl) ?_
  refine o_yield rfl rfl rfl (y_val tok rfl) ?_
  refine o_yield rfl rfl rfl (y_val tok rfl) ?_
  refine o_yield rfl rfl rfl (y_val tok rfl) ?_
  refine o_yield rfl rfl rfl (y_val tok rfl) ?_
  refine o_yield rfl rfl rfl (y_val tok rfl) ?_
  refine o_yield rfl rfl rfl (y_val tok rfl) ?_
  refine o_yield rfl rfl rfl (y_len tok rfl (fun hg => hK.sl)) ?_
  refine o_yield rfl rfl rfl (y_val tok rfl) ?_
  refine o_yield rfl rfl rfl (y_val tok rfl) ?_
  refine o_yield rfl rfl rfl (y_val tok rfl) ?_
  refine o_yield rfl rfl rfl (y_val tok rfl) ?_
  refine o_yield rfl rfl rfl (y_val tok rfl) ?_
  refine o_yield rfl rfl rfl (y_val tok rfl) ?_
  refine o_yield rfl rfl rfl (y_val tok rfl) ?_
  refine o_yield rfl rfl rfl (y_val tok rfl) ?_
  refine o_yield rfl rfl rfl (y_val tok rfl) ?_
  refine o_yield rfl rfl rfl (y_val tok rfl) ?_
  refine o_yield rfl rfl rfl (y_val tok rfl) ?_
  refine o_yield rfl rfl rfl (y_val tok rfl) ?_
  refine o_end [1, 3, 5, 6, 38] rfl ?_
  refine x_then ?_
  refine c_cond rfl (fun h => ?_) (fun h => ?_)
  ·
    exfalso
    simp at h
    omega
  ·
    refine c_skip ?_
    refine x_then ?_
    refine c_seq ?_
    refine c_region ?_
    refine o_yield rfl rfl rfl (y_val tok rfl) ?_
    refine o_yield rfl rfl rfl (y_val tok rfl) ?_
    refine o_yield rfl rfl rfl (y_val tok rfl) ?_
    refine o_yield rfl rfl rfl (y_val tok rfl) ?_
    refine o_yield rfl rfl rfl (y_val tok rfl) ?_
    refine o_yield rfl rfl rfl (y_val tok rfl) ?_
    refine o_yield rfl rfl rfl (y_val tok rfl) ?_
    refine o_yield rfl rfl rfl (y_val tok rfl) ?_
    refine o_yield rfl rfl rfl (y_val tok rfl) ?_
    refine o_end [1, 3, 5, 6, 9] rfl ?_
    refine x_then ?_
    refine c_seq ?_
    refine c_seq ?_
    refine c_region ?_
    refine o_yield rfl rfl rfl (y_val tok rfl) ?_
    refine o_yield rfl rfl rfl (y_val tok rfl) ?_
    refine o_yield rfl rfl rfl (y_val tok rfl) ?_
    refine o_yield rfl rfl rfl (y_val tok rfl) ?_
    refine o_yield rfl rfl rfl (y_val tok rfl) ?_
    refine o_yield rfl rfl rfl (y_val tok rfl) ?_
    refine o_yield rfl rfl rfl (y_val tok rfl) ?_
    refine o_yield rfl rfl rfl (y_val tok rfl) ?_
    refine o_yield rfl rfl rfl (y_val tok rfl) ?_
    refine o_yield rfl rfl rfl (y_val tok rfl) ?_
    refine o_yield rfl rfl rfl (y_val tok rfl) ?_
    refine o_yield rfl rfl rfl (y_val tok rfl) ?_
    refine o_yield rfl rfl rfl (y_val tok rfl) ?_
    refine o_yield rfl rfl rfl (y_val tok rfl) ?_
    refine o_yield rfl rfl rfl (y_val tok rfl) ?_
    refine o_call (.a (.v _)) rfl rfl fnok31 rfl rfl rfl (fun hg E w1 hm => by exact hgv (by simp at hg) _) ?_
    refine o_yield rfl rfl rfl (y_val tok rfl) ?_
    refine o_yield rfl rfl rfl (y_val tok rfl) ?_
    refine o_yield rfl rfl rfl (y_val tok rfl) ?_
    refine o_yield rfl rfl rfl (y_val tok rfl) ?_
    refine o_yield rfl rfl rfl (y_val tok rfl) ?_
    refine o_yield rfl rfl rfl (y_val tok rfl) ?_
    refine o_yield rfl rfl rfl (y_val tok rfl) ?_
    refine o_yield rfl rfl rfl (y_val tok rfl) ?_
    refine o_yield rfl rfl rfl (y_val tok rfl) ?_
    refine o_yield rfl rfl rfl (y_val tok rfl) ?_
    refine o_yield rfl rfl rfl (y_val tok rfl) ?_
    refine o_yield rfl rfl rfl (y_val tok rfl) ?_
    refine o_yield rfl rfl rfl (y_val tok rfl) ?_
    refine o_end [1, 3, 5, 6, 9, 76] rfl ?_
    refine x_then ?_
    refine c_cond rfl (fun h => ?_) (fun h => ?_)
    ·
      exfalso
      simp at h
      omega
    ·
      refine c_skip ?_
      refine x_then ?_
      refine c_seq ?_
      refine c_seq ?_
      refine c_heldR mixed rfl (by repeat (first | exact SubO.nil | refine SubO.cons rfl ?_)) (by first | rfl | simp [okCels, allOk_plain]) ?_
      refine t_take 0 rfl (by kernel_rfl) rfl rfl rfl (y_val tok rfl) rfl ?_
      refine t_take 1 rfl (by kernel_rfl) rfl rfl rfl (y_val tok rfl) rfl ?_
      refine t_take 2 rfl (by kernel_rfl) rfl rfl rfl (y_val tok rfl) rfl ?_
      refine t_take 3 rfl (by kernel_rfl) rfl rfl rfl (y_val tok rfl) rfl ?_
      refine t_take 4 rfl (by kernel_rfl) rfl rfl rfl (y_val tok rfl) rfl ?_
      refine t_take 5 rfl (by kernel_rfl) rfl rfl rfl (y_val tok rfl) rfl ?_
      refine t_take 6 rfl (by kernel_rfl) rfl rfl rfl (y_val tok rfl) rfl ?_
      refine t_take 7 rfl (by kernel_rfl) rfl rfl rfl (y_val tok rfl) rfl ?_
      have hlt_key := lt_of_at hkn
      refine t_take 8 rfl (by kernel_rfl) rfl rfl rfl (y_idx tok rfl (fun hg => hK.sl) (fun hg => ⟨by omega, by omega⟩)) rfl ?_
      refine t_take 9 rfl (by kernel_rfl) rfl rfl rfl (y_lel tok (node) 0 (key) rfl (fun hg => hK) (fun hg => hkn) rfl rfl) rfl ?_
      refine t_go ?_
      refine h_one 10 (by kernel_rfl) ?_
      refine h_bs 10 tok rfl rfl rfl rfl rfl (fun b1 W1 hlw1 hb1 => ?_)
      refine h_one 11 (by kernel_rfl) ?_
      have hks : SlOf W1 encI64 1 (.slice (some ⟨b1, 0, none⟩) 1 1) [key] := SlOf.ofBlock (enc := encI64) (sz := 1) (l := [key]) (hb1 rfl) rfl (fun _ => rfl) (Nat.le_refl _)
      refine h_call 11 (.a (.v _)) rfl rfl rfl fnok32 rfl rfl rfl (fun hg E w1 hm => by exact fenced_c W1 a1 a2 a3 a4 _ n1 c1 n2 c2 n3 c3 n4 c4 _ _ nx key _ hm.leV (hF.mono hlw1) hk1 hks) ?_
      refine h_one 12 (by kernel_rfl) ?_
      refine h_yield 12 rfl rfl rfl rfl (y_val tok rfl) ?_
      refine h_done [1, 3, 5, 6, 9, 90] (by kernel_rfl) rfl ?_
      refine x_then ?_
      refine c_cond rfl (fun h => ?_) (fun h => ?_)
      ·
        exfalso
        simp at h
      ·
        refine c_skip ?_
        refine x_then ?_
        refine c_seq ?_
        refine c_seq ?_
        refine c_region ?_
        refine o_yield rfl rfl rfl (y_val tok rfl) ?_
        refine o_yield rfl rfl rfl (y_val tok rfl) ?_
        refine o_yield rfl rfl rfl (y_val tok rfl) ?_
        refine o_yield rfl rfl rfl (y_val tok rfl) ?_
        refine o_yield rfl rfl rfl (y_val tok rfl) ?_
        refine o_yield rfl rfl rfl (y_val tok rfl) ?_
        refine o_yield rfl rfl rfl (y_val tok rfl) ?_
        refine o_yield rfl rfl rfl (y_val tok rfl) ?_
        refine o_yield rfl rfl rfl (y_val tok rfl) ?_
        refine o_yield rfl rfl rfl (y_val tok rfl) ?_
        refine o_yield rfl rfl rfl (y_val tok rfl) ?_
        refine o_yield rfl rfl rfl (y_val tok rfl) ?_
        refine o_yield rfl rfl rfl (y_val tok rfl) ?_
        refine o_yield rfl rfl rfl (y_val tok rfl) ?_
        refine o_yield rfl rfl rfl (y_val tok rfl) ?_
        refine o_yield rfl rfl rfl (y_len tok rfl (fun hg => (hS.mono hlw1).sl)) ?_
        refine o_yield rfl rfl rfl (y_val tok rfl) ?_
        refine o_yield rfl rfl rfl (y_val tok rfl) ?_
        refine o_yield rfl rfl rfl (y_val tok rfl) ?_
        refine o_end [1, 3, 5, 6, 110] rfl ?_
        refine x_then ?_
        refine c_cond rfl (fun h => ?_) (fun h => ?_)
        ·
          exfalso
          simp at h
          omega
        ·
          refine c_skip ?_
          refine x_then ?_
          refine c_seq ?_
          refine c_region ?_
          refine o_yield rfl rfl rfl (y_val tok rfl) ?_
          refine o_step rfl rfl rfl rfl rfl (s_makesV (fun C V' => Copies w.heap.size V' D C) (fun _ : List (Sl Cell) => .agg [.row 3, .row 9, .row 5, .v (I nx), .row 7]) (fun C => [(3, .row 9 1 S.length (S.flatMap encS)), (9, .row 70 1 C.length (C.flatMap Sl.enc)), (5, .row 3 1 K.length (K.flatMap encI64)), (7, .row 3 1 0 [])]) 10 rfl fnok33 (fun E w1 hm => copied_c w.heap.size W1 a1 a2 a3 a4 n1 c1 n2 c2 n3 c3 n4 c4 nx S D K w1 (hm.below hlw1).size hm.leV (hS.mono hlw1) (hD.mono hlw1) (hK.mono hlw1) (hF.mono hlw1) (fun c hc => ⟨((hDc c hc).mono hV).mono hlw1, by have := hcs c hc; omega⟩) hsn (by omega) (by omega))) (fun xc hxc => ?_)
          obtain ⟨C', W2⟩ := xc
          obtain ⟨hlw2, hcp⟩ := hxc
          dsimp only at hlw2 hcp
          obtain ⟨xa, xn, xp, hxC, hnC⟩ := hcp.at (node := node) (r := l) (by rw [hDC]; exact hl)
          have hxs : SlOf W2 Cell.cells 2 (.slice xa xn xp) l := ⟨(hcp.row _ (List.mem_of_getElem? hxC)).sl, fun _ => rfl⟩
          have hln := (hg.cs l (List.mem_of_getElem? hl)).2
          refine o_new tok rfl rfl rfl rfl ?_
          refine o_store tok rfl rfl rfl (by first | exact ⟨trivial, trivial⟩ | (repeat' first | exact trivial | exact rfl | apply And.intro); done | simp [onesP, oneP, lk, Value.oneCell']) ?_
          refine o_end [1, 5, 6, 10] rfl ?_
          refine x_then ?_
          refine c_seq ?_
          refine c_region ?_
          refine o_yield rfl rfl rfl (y_val tok rfl) ?_
          refine o_yield rfl rfl rfl (y_val tok rfl) ?_
          refine o_yield rfl rfl rfl (y_val tok rfl) ?_
          refine o_yield rfl rfl rfl (y_own (s := .a (.rel 12 (node * 1))) 12 rfl rfl (fun v V' hv => y_idxK tok (node * 1) rfl (by simp) (fun hg => hv) (fun hg => by dsimp only; omega))) ?_
          refine o_yield rfl rfl rfl (y_own (s := .a (.v (.slice xa xn xp))) 12 rfl rfl (fun v V' hv => y_lel (enc := Sl.enc) (l := C') tok node 0 ⟨.slice xa xn xp, l⟩ rfl (fun hg => ⟨hv, fun _ => rfl⟩) (fun hg => hxC) rfl rfl)) ?_
          refine o_yield rfl rfl rfl (y_val tok rfl) ?_
          refine o_end [1, 5, 6, 10, 11] rfl ?_
          refine x_then ?_
          refine c_seq ?_
          refine c_region ?_
          refine o_yield rfl rfl rfl (y_val tok rfl) ?_
          refine o_yield rfl rfl rfl (y_val tok rfl) ?_
          refine o_yield rfl rfl rfl (y_val tok rfl) ?_
          refine o_call (.a (.v _)) rfl rfl fnok34 rfl rfl rfl (fun hg E w1 hm => by exact place_c W2 _ l sec _ hm.leV hxs (by omega) hno) ?_
          refine o_yield rfl rfl rfl (y_val tok rfl) ?_
          refine o_end [1, 5, 6, 10, 11, 12] rfl ?_
          refine x_then ?_
          refine c_seq ?_
          refine c_seq ?_
          refine c_region ?_
          refine o_yield rfl rfl rfl (y_val tok rfl) ?_
          refine o_yield rfl rfl rfl (y_val tok rfl) ?_
          refine o_end [1, 5, 6, 10, 11, 12, 124] rfl ?_
          refine x_then ?_
          refine c_block ?_
          refine c_seq ?_
          refine c_region ?_
          refine o_yield rfl rfl rfl (y_val tok rfl) ?_
          refine o_yield rfl rfl rfl (y_val tok rfl) ?_
          refine o_end [1, 5, 6, 10, 11, 12, 124, 125] rfl ?_
          refine x_then ?_
          refine c_cond rfl (fun h => ?_) (fun h => ?_)
          ·
            exact absurd h (by decide)
          ·
            refine c_seq ?_
            refine c_region ?_
            refine o_yield rfl rfl rfl (y_val tok rfl) ?_
            refine o_yield rfl rfl rfl (y_val tok rfl) ?_
            refine o_end [1, 5, 6, 10, 11, 12, 124, 142] rfl ?_
            refine x_then ?_
            refine c_cond rfl (fun h => ?_) (fun h => ?_)
            ·
              exact absurd h (by decide)
            ·
              refine c_seq ?_
              refine c_region ?_
              refine o_yield rfl rfl rfl (y_val tok rfl) ?_
              refine o_yield rfl rfl rfl (y_val tok rfl) ?_
              refine o_end [1, 5, 6, 10, 11, 12, 124, 160] rfl ?_
              refine x_then ?_
              refine c_cond rfl (fun h => ?_) (fun h => ?_)
              ·
                refine c_seq ?_
                refine c_region ?_
                refine o_yield rfl rfl rfl (y_val tok rfl) ?_
                refine o_yield rfl rfl rfl (y_val tok rfl) ?_
                refine o_end [1, 5, 6, 10, 11, 12, 163] rfl ?_
                refine x_then ?_
                refine c_cond rfl (fun h => ?_) (fun h => ?_)
                ·
                  exact absurd h (by decide)
                ·
                  refine k_thawR (hcp.row _ (List.mem_of_getElem? hxC)) (fun b2 => ?_)
                  refine k_unrow 11 15 14 b2 rfl rfl rfl ?_
                  refine c_held [] ([(0, .lit [.v (.slice a1 n1 c1), .v (.slice a2 n2 c2), .v (.slice a3 n3 c3), .v (I nx), .v (.slice a4 n4 c4)] 35), (1, .lit [.v (I8 3), .v (I sec), .v (.string b), .v (I 0)] 45), (2, .lit [.v (.slice none 0 0), .v (.slice none 0 0), .v (.slice none 0 0), .v (I 0), .v (.slice none 0 0)] 35), (6, .row 9 1 S.length (S.flatMap encS)), (8, .row 3 1 K.length (K.flatMap encI64)), (10, .row 3 1 0 []), (13, .lit [.row 6, .row 12, .row 8, .v (I nx), .row 10] 35)]) mixed (by repeat (first | exact SubO.nil | refine SubO.cons rfl ?_)) (by first | rfl | simp [okCels, allOk_plain]) ?_
                  refine t_take 0 rfl (by kernel_rfl) rfl rfl rfl (y_val tok rfl) rfl ?_
                  refine t_take 1 rfl (by kernel_rfl) rfl rfl rfl (y_val tok rfl) rfl ?_
                  refine t_take 2 rfl (by kernel_rfl) rfl rfl rfl (y_val tok rfl) rfl ?_
                  refine t_take 3 rfl (by kernel_rfl) rfl rfl rfl (y_val tok rfl) rfl ?_
                  refine t_take 4 rfl (by kernel_rfl) rfl rfl rfl (y_val tok rfl) rfl ?_
                  refine t_take 5 rfl (by kernel_rfl) rfl rfl rfl (y_val tok rfl) rfl ?_
                  refine t_take 6 rfl (by kernel_rfl) rfl rfl rfl (y_val tok rfl) rfl ?_
                  refine t_take 7 rfl (by kernel_rfl) rfl rfl rfl (y_val tok rfl) rfl ?_
                  refine t_take 8 rfl (by kernel_rfl) rfl rfl rfl (y_val tok rfl) rfl ?_
                  refine t_go ?_
                  refine h_one 9 (by kernel_rfl) ?_
                  refine h_to 9 rfl rfl rfl rfl rfl rfl (s_bs tok 2 rfl rfl rfl) (.inr fun _ _ => ⟨(by repeat (first | exact SubO.nil | refine SubO.cons rfl ?_)), rfl, (by first | exact Vw.le.refl _ | assumption)⟩) (fun _ _ => ?_)
                  refine h_one 10 (by kernel_rfl) ?_
                  refine h_to 10 rfl rfl rfl rfl rfl rfl ((s_app (e := 83) (sz := 2) (by_ := 24) (m := l.length) (k := 1) (olds := l.flatMap Cell.cells) tok ((⟨sec, b⟩ : Cell).cells) rfl (fun E w hm => ownsRow_src (hm.row _ _ _ _ _ rfl)) (fun _ _ _ => by simpa using cell_ones [(⟨sec, b⟩ : Cell)]) (by omega)).named rfl (fun _ => ⟨_, _, _, _, rfl⟩)) (.inr fun x hx => ⟨(by repeat (first | exact SubO.nil | refine SubO.cons rfl ?_)), rfl, (by first | exact Vw.le.refl _ | exact hx.1)⟩) (fun xe hxe => ?_)
                  obtain ⟨_, b3, ea, en, ec⟩ := xe
                  refine h_one 11 (by kernel_rfl) ?_
                  refine h_yield 11 rfl rfl rfl rfl (y_own (s := .a (.rel 12 (node * 1))) 12 rfl rfl (fun v V' hv => y_idxK tok (node * 1) rfl (by simp) (fun hg => hv) (fun hg => by dsimp only; omega))) ?_
                  refine h_one 12 (by kernel_rfl) ?_
                  refine h_toN 12 rfl rfl rfl rfl rfl (s_rst tok rfl rfl (by intro u hu; simp only [List.mem_singleton] at hu; subst hu; rfl) (by dsimp only [List.length_singleton]; omega) (by dsimp only; omega)) (.inr fun _ _ => ⟨(by repeat (first | exact SubO.nil | refine SubO.cons rfl ?_)), rfl, (by first | exact Vw.le.refl _ | assumption)⟩) (fun _ _ => ?_)
                  refine h_done [6, 10] (by kernel_rfl) rfl ?_
                  refine x_block ?_
                  refine x_then ?_
                  refine c_seq ?_
                  refine c_region ?_
                  refine o_yield rfl rfl rfl (y_val tok rfl) ?_
                  refine o_store tok rfl rfl rfl (by first | exact ⟨trivial, trivial⟩ | (repeat' first | exact trivial | exact rfl | apply And.intro); done | simp [onesP, oneP, lk, Value.oneCell']) ?_
                  refine o_yield rfl rfl rfl (y_val tok rfl) ?_
                  refine o_yield rfl rfl rfl (y_val tok rfl) ?_
                  refine o_end [6, 7, 8] rfl ?_
                  refine x_then ?_
                  refine c_ret ?_
                  refine b_ret tok rfl ?_
                  intro E w' hm _
                  have hmem := List.mem_of_getElem? hxC
                  have hleF := le_delO (hlw1.trans hlw2) (hcp.new _ hmem)
                  have hbw := hm.below hleF
                  have hnew := hm.rowFresh hleF (l := 17) rfl
                  rw [(hm.kp 18 17 _ _ rfl).2.1] at hnew
                  have hnew2 : SlOf (V.grown w w') Cell.cells 2 (.slice ea en ec) (l ++ [⟨sec, b⟩]) := SlOf.grown V (by simpa using hnew) (fun _ => rfl)
                  have hov := overL_set (enc := Sl.enc) (sz := 1) (fun _ => rfl) C' node ⟨.slice ea en ec, l ++ [⟨sec, b⟩]⟩ hnC
                  have hfd := fin_dev (V := V) (S := S) (D := C'.set node ⟨.slice ea en ec, l ++ [⟨sec, b⟩]⟩) (K := K) hm hleF 6 12 8 10 nx rfl rfl rfl rfl ⟨rfl, rfl⟩ ⟨by rw [List.length_set], hov⟩ ⟨rfl, rfl⟩ (fun c hc => by
                    rcases mem_set hc with rfl | ⟨i, hi, hci⟩
                    · exact hnew2
                    · exact (hcp.rest hxC hi hci).newIn (hcp.new _ (List.mem_of_getElem? hci)) (NewIn.grown hm))
                  rw [map_set', hcp.same, hDC] at hfd
                  exact ⟨_, V.grown w w', rfl, hbw, Vext.grown hV hbw, _, rfl, hfd⟩
              ·
                exact absurd h (by decide)
end Go.Proofs.Ytipmgnhbcaniiaa

/- What the document's device does: a sector forced. -/
set_option linter.unusedVariables false
set_option linter.unusedSimpArgs false
set_option maxRecDepth 100000
namespace Go.Proofs.Ytipmgnhbcaniiaa
open Go Go.Eng Go.RowKit

set_option maxHeartbeats 4000000 in
theorem doForce_c (V : Vw) (v : Value) (S : List ByteArray) (C : List (List Cell)) (K : List Int) (nx : Int) (node : Nat) (l : List Cell) (key : Int) (q : Nat) (b : ByteArray) (w : World) (hV : V.le (vw w)) (hd : DevC V v S C K nx) (hg : DevGood S C K nx)
    (hl : C[node]? = some l) (hkn : K[node]? = some key) (hk1 : 1 ≤ key) (h1 : q < S.length) (hb : b.size ≤ 512) (hno : ∀ c ∈ l, c.sector ≠ (q : Int)) :
    Calls Try.prog 10 #[v, I node, .agg #[I8 2, I (q : Int), .string b, I 0]] w (DoQ V (S.set q b) C K nx ByteArray.empty w) := by
  obtain ⟨a1, n1, c1, a2, n2, c2, a3, n3, c3, a4, n4, c4, D, rfl, hS0, hD0, hK0, hF0, hDC, hDc⟩ := hd
  have hS := hS0.mono hV
  have hD := hD0.mono hV
  have hK := hK0.mono hV
  have hF := hF0.mono hV
  have hsn := hg.sn
  have hk16 := hg.k1
  have hDl : D.length = K.length := by rw [← hg.ck, ← hDC, List.length_map]
  have hnK := (List.getElem?_eq_some_iff.1 hkn).1
  have hcs : ∀ c ∈ D, c.l.length ≤ 900 := fun c hc => (hg.cs c.l (by rw [← hDC]; exact List.mem_map_of_mem hc)).2
  have hck := hg.check (.slice a1 n1 c1) (.slice a2 n2 c2) (.slice a3 n3 c3) (.slice a4 n4 c4) hDC
  have hdi : DevIn (vw w) ⟨⟨.slice a1 n1 c1, S⟩, ⟨.slice a2 n2 c2, D⟩, ⟨.slice a3 n3 c3, K⟩, nx, ⟨.slice a4 n4 c4, []⟩⟩ := ⟨hS, by simp only [maxLen]; omega, hD, by simp only [maxLen]; omega, fun c hc => ⟨(hDc c hc).mono hV, by have := hcs c hc; simp only [maxLen]; omega⟩, hK, by simp only [maxLen]; omega, hF, by simp⟩
  have hchk := fun w1 hV1 => refCheck_c (vw w) ⟨⟨.slice a1 n1 c1, S⟩, ⟨.slice a2 n2 c2, D⟩, ⟨.slice a3 n3 c3, K⟩, nx, ⟨.slice a4 n4 c4, []⟩⟩ w1 hV1 hdi
  rw [hck, if_pos rfl] at hchk
  have hgv : ∀ (f : False) w, Calls Try.prog 31 #[.agg #[.slice a1 n1 c1, .slice a2 n2 c2, .slice a3 n3 c3, I nx, .slice a4 n4 c4], I 0] w fun e w' => e = .returned (.bool true) ∧ Below w.heap.size w w' := fun f => f.elim
  refine enter (E := E0) (O := []) (nl := 0) (V := vw w) [.a (.v (.agg #[.slice a1 n1 c1, .slice a2 n2 c2, .slice a3 n3 c3, I nx, .slice a4 n4 c4])), .a (.v (I node)), .a (.v (.agg #[I8 2, I (q : Int), .string b, I 0]))] Try.func10 rfl rfl (mem0 E0 0 w) rfl rfl ?_
  refine c_seq ?_
  refine c_region ?_
  refine o_new tok rfl rfl rfl rfl ?_
  refine o_new tok rfl rfl rfl rfl ?_
  refine o_new tok rfl rfl rfl rfl ?_
  refine o_yield rfl rfl rfl (y_val tok rfl) ?_
  refine o_yield rfl rfl rfl (y_val tok rfl) ?_
  refine o_end [1, 3, 5, 6] rfl ?_
  refine x_then ?_
  refine c_seq ?_
  refine c_seq ?_
  refine c_region ?_
  refine o_yield rfl rfl rfl (y_val tok rfl) ?_
  refine o_call (.a (.v _)) rfl rfl fnok26 rfl rfl rfl (fun hg E w1 hm => by exact hchk _ hm.leV) ?_
  refine o_yield rfl rfl rfl (y_val tok rfl) ?_
  refine o_yield rfl rfl rfl (y_val tok rfl) ?_
  refine o_yield rfl rfl rfl (y_val tok rfl) ?_
  refine o_yield rfl rfl rfl (y_val tok rfl) ?_
  refine o_yield rfl rfl rfl (y_val tok rfl) ?_
  refine o_yield rfl rfl rfl (y_val tok rfl) ?_
  refine o_yield rfl rfl rfl (y_val tok rfl) ?_
  refine o_yield rfl rfl rfl (y_val tok rfl) ?_
  refine o_yield rfl rfl rfl (y_val tok rfl) ?_
  refine o_yield rfl rfl rfl (y_len tok rfl (fun hg => hK.sl)) ?_
  refine o_yield rfl rfl rfl (y_val tok rfl) ?_
  refine o_yield rfl rfl rfl (y_val tok rfl) ?_
  refine o_yield rfl rfl rfl (y_val tok rfl) ?_
  refine o_yield rfl rfl rfl (y_val tok rfl) ?_
  refine o_yield rfl rfl rfl (y_val tok rfl) ?_
  refine o_yield rfl rfl rfl (y_val tok rfl) ?_
  refine o_yield rfl rfl rfl (y_val tok rfl) ?_
  refine o_yield rfl rfl rfl (y_val tok rfl) ?_
  refine o_yield rfl rfl rfl (y_val tok rfl) ?_
  refine o_yield rfl rfl rfl (y_val tok rfl) ?_
  refine o_yield rfl rfl rfl (y_val tok rfl) ?_
  refine o_yield rfl rfl rfl (y_val tok rfl) ?_
  refine o_end [1, 3, 5, 6, 38] rfl ?_
  refine x_then ?_
  refine c_cond rfl (fun h => ?_) (fun h => ?_)
  ·
    exfalso
    simp at h
    try omega
  ·
    refine c_skip ?_
    refine x_then ?_
    refine c_seq ?_
    refine c_region ?_
    refine o_yield rfl rfl rfl (y_val tok rfl) ?_
    refine o_yield rfl rfl rfl (y_val tok rfl) ?_
    refine o_yield rfl rfl rfl (y_val tok rfl) ?_
    refine o_yield rfl rfl rfl (y_val tok rfl) ?_
    refine o_yield rfl rfl rfl (y_val tok rfl) ?_
    refine o_yield rfl rfl rfl (y_val tok rfl) ?_
    refine o_yield rfl rfl rfl (y_val tok rfl) ?_
    refine o_yield rfl rfl rfl (y_val tok rfl) ?_
    refine o_yield rfl rfl rfl (y_val tok rfl) ?_
    refine o_end [1, 3, 5, 6, 9] rfl ?_
    refine x_then ?_
    refine c_seq ?_
    refine c_seq ?_
    refine c_region ?_
    refine o_yield rfl rfl rfl (y_val tok rfl) ?_
    refine o_yield rfl rfl rfl (y_val tok rfl) ?_
    refine o_yield rfl rfl rfl (y_val tok rfl) ?_
    refine o_yield rfl rfl rfl (y_val tok rfl) ?_
    refine o_yield rfl rfl rfl (y_val tok rfl) ?_
    refine o_yield rfl rfl rfl (y_val tok rfl) ?_
    refine o_yield rfl rfl rfl (y_val tok rfl) ?_
    refine o_yield rfl rfl rfl (y_val tok rfl) ?_
    refine o_yield rfl rfl rfl (y_val tok rfl) ?_
    refine o_yield rfl rfl rfl (y_val tok rfl) ?_
    refine o_yield rfl rfl rfl (y_val tok rfl) ?_
    refine o_yield rfl rfl rfl (y_val tok rfl) ?_
    refine o_yield rfl rfl rfl (y_val tok rfl) ?_
    refine o_yield rfl rfl rfl (y_val tok rfl) ?_
    refine o_yield rfl rfl rfl (y_val tok rfl) ?_
    refine o_call (.a (.v _)) rfl rfl fnok31 rfl rfl rfl (fun hg E w1 hm => by exact hgv (by simp at hg) _) ?_
    refine o_yield rfl rfl rfl (y_val tok rfl) ?_
    refine o_yield rfl rfl rfl (y_val tok rfl) ?_
    refine o_yield rfl rfl rfl (y_val tok rfl) ?_
    refine o_yield rfl rfl rfl (y_val tok rfl) ?_
    refine o_yield rfl rfl rfl (y_val tok rfl) ?_
    refine o_yield rfl rfl rfl (y_val tok rfl) ?_
    refine o_yield rfl rfl rfl (y_val tok rfl) ?_
    refine o_yield rfl rfl rfl (y_val tok rfl) ?_
    refine o_yield rfl rfl rfl (y_val tok rfl) ?_
    refine o_yield rfl rfl rfl (y_val tok rfl) ?_
    refine o_yield rfl rfl rfl (y_val tok rfl) ?_
    refine o_yield rfl rfl rfl (y_val tok rfl) ?_
    refine o_yield rfl rfl rfl (y_val tok rfl) ?_
    refine o_end [1, 3, 5, 6, 9, 76] rfl ?_
    refine x_then ?_
    refine c_cond rfl (fun h => ?_) (fun h => ?_)
    ·
      exfalso
      simp at h
      try omega
    ·
      refine c_skip ?_
      refine x_then ?_
      refine c_seq ?_
      refine c_seq ?_
      refine c_heldR mixed rfl (by repeat (first | exact SubO.nil | refine SubO.cons rfl ?_)) (by first | rfl | simp [okCels, allOk_plain]) ?_
      refine t_take 0 rfl (by kernel_rfl) rfl rfl rfl (y_val tok rfl) rfl ?_
      refine t_take 1 rfl (by kernel_rfl) rfl rfl rfl (y_val tok rfl) rfl ?_
      refine t_take 2 rfl (by kernel_rfl) rfl rfl rfl (y_val tok rfl) rfl ?_
      refine t_take 3 rfl (by kernel_rfl) rfl rfl rfl (y_val tok rfl) rfl ?_
      refine t_take 4 rfl (by kernel_rfl) rfl rfl rfl (y_val tok rfl) rfl ?_
      refine t_take 5 rfl (by kernel_rfl) rfl rfl rfl (y_val tok rfl) rfl ?_
      refine t_take 6 rfl (by kernel_rfl) rfl rfl rfl (y_val tok rfl) rfl ?_
      refine t_take 7 rfl (by kernel_rfl) rfl rfl rfl (y_val tok rfl) rfl ?_
      have hlt_key := lt_of_at hkn
      refine t_take 8 rfl (by kernel_rfl) rfl rfl rfl (y_idx tok rfl (fun hg => hK.sl) (fun hg => ⟨by omega, by omega⟩)) rfl ?_
      refine t_take 9 rfl (by kernel_rfl) rfl rfl rfl (y_lel tok (node) 0 (key) rfl (fun hg => hK) (fun hg => hkn) rfl rfl) rfl ?_
      refine t_go ?_
      refine h_one 10 (by kernel_rfl) ?_
      refine h_bs 10 tok rfl rfl rfl rfl rfl (fun b1 W1 hlw1 hb1 => ?_)
      refine h_one 11 (by kernel_rfl) ?_
      have hks : SlOf W1 encI64 1 (.slice (some ⟨b1, 0, none⟩) 1 1) [key] := SlOf.ofBlock (enc := encI64) (sz := 1) (l := [key]) (hb1 rfl) rfl (fun _ => rfl) (Nat.le_refl _)
      refine h_call 11 (.a (.v _)) rfl rfl rfl fnok32 rfl rfl rfl (fun hg E w1 hm => by exact fenced_c W1 a1 a2 a3 a4 _ n1 c1 n2 c2 n3 c3 n4 c4 _ _ nx key _ hm.leV (hF.mono hlw1) hk1 hks) ?_
      refine h_one 12 (by kernel_rfl) ?_
      refine h_yield 12 rfl rfl rfl rfl (y_val tok rfl) ?_
      refine h_done [1, 3, 5, 6, 9, 90] (by kernel_rfl) rfl ?_
      refine x_then ?_
      refine c_cond rfl (fun h => ?_) (fun h => ?_)
      ·
        exfalso
        simp at h
      ·
        refine c_skip ?_
        refine x_then ?_
        refine c_seq ?_
        refine c_seq ?_
        refine c_region ?_
        refine o_yield rfl rfl rfl (y_val tok rfl) ?_
        refine o_yield rfl rfl rfl (y_val tok rfl) ?_
        refine o_yield rfl rfl rfl (y_val tok rfl) ?_
        refine o_yield rfl rfl rfl (y_val tok rfl) ?_
        refine o_yield rfl rfl rfl (y_val tok rfl) ?_
        refine o_yield rfl rfl rfl (y_val tok rfl) ?_
        refine o_yield rfl rfl rfl (y_val tok rfl) ?_
        refine o_yield rfl rfl rfl (y_val tok rfl) ?_
        refine o_yield rfl rfl rfl (y_val tok rfl) ?_
        refine o_yield rfl rfl rfl (y_val tok rfl) ?_
        refine o_yield rfl rfl rfl (y_val tok rfl) ?_
        refine o_yield rfl rfl rfl (y_val tok rfl) ?_
        refine o_yield rfl rfl rfl (y_val tok rfl) ?_
        refine o_yield rfl rfl rfl (y_val tok rfl) ?_
        refine o_yield rfl rfl rfl (y_val tok rfl) ?_
        refine o_yield rfl rfl rfl (y_len tok rfl (fun hg => (hS.mono hlw1).sl)) ?_
        refine o_yield rfl rfl rfl (y_val tok rfl) ?_
        refine o_yield rfl rfl rfl (y_val tok rfl) ?_
        refine o_yield rfl rfl rfl (y_val tok rfl) ?_
        refine o_end [1, 3, 5, 6, 110] rfl ?_
        refine x_then ?_
        refine c_cond rfl (fun h => ?_) (fun h => ?_)
        ·
          exfalso
          simp at h
          try omega
        ·
          refine c_skip ?_
          refine x_then ?_
          refine c_seq ?_
          refine c_region ?_
          refine o_yield rfl rfl rfl (y_val tok rfl) ?_
          refine o_step rfl rfl rfl rfl rfl (s_makesV (fun C V' => Copies w.heap.size V' D C) (fun _ : List (Sl Cell) => .agg [.row 3, .row 9, .row 5, .v (I nx), .row 7]) (fun C => [(3, .row 9 1 S.length (S.flatMap encS)), (9, .row 70 1 C.length (C.flatMap Sl.enc)), (5, .row 3 1 K.length (K.flatMap encI64)), (7, .row 3 1 0 [])]) 10 rfl fnok33 (fun E w1 hm => copied_c w.heap.size W1 a1 a2 a3 a4 n1 c1 n2 c2 n3 c3 n4 c4 nx S D K w1 (hm.below hlw1).size hm.leV (hS.mono hlw1) (hD.mono hlw1) (hK.mono hlw1) (hF.mono hlw1) (fun c hc => ⟨((hDc c hc).mono hV).mono hlw1, by have := hcs c hc; omega⟩) hsn (by omega) (by omega))) (fun xc hxc => ?_)
          obtain ⟨C', W2⟩ := xc
          obtain ⟨hlw2, hcp⟩ := hxc
          dsimp only at hlw2 hcp
          obtain ⟨xa, xn, xp, hxC, hnC⟩ := hcp.at (node := node) (r := l) (by rw [hDC]; exact hl)
          have hxs : SlOf W2 Cell.cells 2 (.slice xa xn xp) l := ⟨(hcp.row _ (List.mem_of_getElem? hxC)).sl, fun _ => rfl⟩
          have hln := (hg.cs l (List.mem_of_getElem? hl)).2
          refine o_new tok rfl rfl rfl rfl ?_
          refine o_store tok rfl rfl rfl (by first | exact ⟨trivial, trivial⟩ | (repeat' first | exact trivial | exact rfl | apply And.intro); done | simp [onesP, oneP, lk, Value.oneCell']) ?_
          refine o_end [1, 5, 6, 10] rfl ?_
          refine x_then ?_
          refine c_seq ?_
          refine c_region ?_
          refine o_yield rfl rfl rfl (y_val tok rfl) ?_
          refine o_yield rfl rfl rfl (y_val tok rfl) ?_
          refine o_yield rfl rfl rfl (y_val tok rfl) ?_
          refine o_yield rfl rfl rfl (y_own (s := .a (.rel 12 (node * 1))) 12 rfl rfl (fun v V' hv => y_idxK tok (node * 1) rfl (by simp) (fun hg => hv) (fun hg => by dsimp only; omega))) ?_
          refine o_yield rfl rfl rfl (y_own (s := .a (.v (.slice xa xn xp))) 12 rfl rfl (fun v V' hv => y_lel (enc := Sl.enc) (l := C') tok node 0 ⟨.slice xa xn xp, l⟩ rfl (fun hg => ⟨hv, fun _ => rfl⟩) (fun hg => hxC) rfl rfl)) ?_
          refine o_yield rfl rfl rfl (y_val tok rfl) ?_
          refine o_end [1, 5, 6, 10, 11] rfl ?_
          refine x_then ?_
          refine c_seq ?_
          refine c_region ?_
          refine o_yield rfl rfl rfl (y_val tok rfl) ?_
          refine o_yield rfl rfl rfl (y_val tok rfl) ?_
          refine o_yield rfl rfl rfl (y_val tok rfl) ?_
          refine o_call (.a (.v _)) rfl rfl fnok34 rfl rfl rfl (fun hg E w1 hm => by exact place_c W2 _ l (q : Int) _ hm.leV hxs (by omega) hno) ?_
          refine o_yield rfl rfl rfl (y_val tok rfl) ?_
          refine o_end [1, 5, 6, 10, 11, 12] rfl ?_
          refine x_then ?_
          refine c_seq ?_
          refine c_seq ?_
          refine c_region ?_
          refine o_yield rfl rfl rfl (y_val tok rfl) ?_
          refine o_yield rfl rfl rfl (y_val tok rfl) ?_
          refine o_end [1, 5, 6, 10, 11, 12, 124] rfl ?_
          refine x_then ?_
          refine c_block ?_
          refine c_seq ?_
          refine c_region ?_
          refine o_yield rfl rfl rfl (y_val tok rfl) ?_
          refine o_yield rfl rfl rfl (y_val tok rfl) ?_
          refine o_end [1, 5, 6, 10, 11, 12, 124, 125] rfl ?_
          refine x_then ?_
          refine c_cond rfl (fun h => ?_) (fun h => ?_)
          ·
            exact absurd h (by decide)
          ·
            refine c_seq ?_
            refine c_region ?_
            refine o_yield rfl rfl rfl (y_val tok rfl) ?_
            refine o_yield rfl rfl rfl (y_val tok rfl) ?_
            refine o_end [1, 5, 6, 10, 11, 12, 124, 142] rfl ?_
            refine x_then ?_
            refine c_cond rfl (fun h => ?_) (fun h => ?_)
            ·
              refine c_seq ?_
              refine c_region ?_
              refine o_yield rfl rfl rfl (y_val tok rfl) ?_
              refine o_yield rfl rfl rfl (y_val tok rfl) ?_
              refine o_yield rfl rfl rfl (y_val tok rfl) ?_
              refine o_yield rfl rfl rfl (y_val tok rfl) ?_
              refine o_yield rfl rfl rfl (y_val tok rfl) ?_
              refine o_yield rfl rfl rfl (y_val tok rfl) ?_
              refine o_yield rfl rfl rfl (y_own (s := .a (.rel 6 (q * 1))) 6 rfl rfl (fun v V' hv => y_idxK tok (q * 1) rfl (by simp) (fun hg => hv) (fun hg => by first | omega | (dsimp only; omega)))) ?_
              refine o_stepN rfl rfl rfl rfl (s_rst tok rfl rfl (by intro u hu; simp only [List.mem_singleton] at hu; subst hu; rfl) (by simp only [List.length_singleton]; first | omega | (dsimp only; omega)) (by first | omega | (dsimp only; omega))) (fun _ _ => ?_)
              refine o_end [1, 6, 10, 11, 12] rfl ?_
              refine x_then ?_
              refine c_seq ?_
              refine c_region ?_
              refine o_yield rfl rfl rfl (y_val tok rfl) ?_
              refine o_yield rfl rfl rfl (y_val tok rfl) ?_
              refine o_end [1, 6, 10, 11, 12, 152] rfl ?_
              refine x_then ?_
              refine c_cond rfl (fun h => ?_) (fun h => ?_)
              ·
                exact absurd h (by decide)
              ·
                refine c_skip ?_
                refine x_block ?_
                refine x_then ?_
                refine c_seq ?_
                refine c_region ?_
                refine o_yield rfl rfl rfl (y_val tok rfl) ?_
                refine o_store tok rfl rfl rfl (by first | exact ⟨trivial, trivial⟩ | (repeat' first | exact trivial | exact rfl | apply And.intro); done | simp [onesP, oneP, lk, Value.oneCell']) ?_
                refine o_yield rfl rfl rfl (y_val tok rfl) ?_
                refine o_yield rfl rfl rfl (y_val tok rfl) ?_
                refine o_end [6, 7, 8] rfl ?_
                refine x_then ?_
                refine c_ret ?_
                refine b_ret tok rfl ?_
                intro E w' hm _
                have hleF := hlw1.trans hlw2
                have hbw := hm.below hleF
                have hov := overL_set (enc := encS) (sz := 1) (fun _ => rfl) S q b h1
                have hfd := fin_dev (V := V) (S := S.set q b) (D := C') (K := K) hm hleF 6 12 8 10 nx rfl rfl rfl rfl ⟨by rw [List.length_set], hov⟩ ⟨rfl, rfl⟩ ⟨rfl, rfl⟩ (fun c hc => (⟨(hcp.row c hc).sl, fun _ => rfl⟩ : SlOf W2 Cell.cells 2 c.v c.l).newIn (hcp.new c hc) (NewIn.grown hm))
                rw [hcp.same, hDC] at hfd
                exact ⟨_, V.grown w w', rfl, hbw, Vext.grown hV hbw, _, rfl, hfd⟩
            ·
              exact absurd h (by decide)

set_option maxHeartbeats 4000000 in
theorem doRead_c (V : Vw) (v : Value) (S : List ByteArray) (C : List (List Cell)) (K : List Int) (nx : Int) (node : Nat) (l : List Cell) (key : Int) (q : Nat) (x : ByteArray) (w : World) (hV : V.le (vw w)) (hd : DevC V v S C K nx) (hg : DevGood S C K nx)
    (hl : C[node]? = some l) (hkn : K[node]? = some key) (hk1 : 1 ≤ key) (hx : S[q]? = some x) (hno : ∀ c ∈ l, c.sector ≠ (q : Int)) :
    Calls Try.prog 10 #[v, I node, .agg #[I8 1, I (q : Int), .string ByteArray.empty, I 0]] w (DoQ V S C K nx x w) := by
  have h1 := (List.getElem?_eq_some_iff.1 hx).1
  obtain ⟨a1, n1, c1, a2, n2, c2, a3, n3, c3, a4, n4, c4, D, rfl, hS0, hD0, hK0, hF0, hDC, hDc⟩ := hd
  have hS := hS0.mono hV
  have hD := hD0.mono hV
  have hK := hK0.mono hV
  have hF := hF0.mono hV
  have hsn := hg.sn
  have hk16 := hg.k1
  have hDl : D.length = K.length := by rw [← hg.ck, ← hDC, List.length_map]
  have hnK := (List.getElem?_eq_some_iff.1 hkn).1
  have hcs : ∀ c ∈ D, c.l.length ≤ 900 := fun c hc => (hg.cs c.l (by rw [← hDC]; exact List.mem_map_of_mem hc)).2
  have hck := hg.check (.slice a1 n1 c1) (.slice a2 n2 c2) (.slice a3 n3 c3) (.slice a4 n4 c4) hDC
  have hdi : DevIn (vw w) ⟨⟨.slice a1 n1 c1, S⟩, ⟨.slice a2 n2 c2, D⟩, ⟨.slice a3 n3 c3, K⟩, nx, ⟨.slice a4 n4 c4, []⟩⟩ := ⟨hS, by simp only [maxLen]; omega, hD, by simp only [maxLen]; omega, fun c hc => ⟨(hDc c hc).mono hV, by have := hcs c hc; simp only [maxLen]; omega⟩, hK, by simp only [maxLen]; omega, hF, by simp⟩
  have hchk := fun w1 hV1 => refCheck_c (vw w) ⟨⟨.slice a1 n1 c1, S⟩, ⟨.slice a2 n2 c2, D⟩, ⟨.slice a3 n3 c3, K⟩, nx, ⟨.slice a4 n4 c4, []⟩⟩ w1 hV1 hdi
  rw [hck, if_pos rfl] at hchk
  have hgv : ∀ (f : False) w, Calls Try.prog 31 #[.agg #[.slice a1 n1 c1, .slice a2 n2 c2, .slice a3 n3 c3, I nx, .slice a4 n4 c4], I 0] w fun e w' => e = .returned (.bool true) ∧ Below w.heap.size w w' := fun f => f.elim
  refine enter (E := E0) (O := []) (nl := 0) (V := vw w) [.a (.v (.agg #[.slice a1 n1 c1, .slice a2 n2 c2, .slice a3 n3 c3, I nx, .slice a4 n4 c4])), .a (.v (I node)), .a (.v (.agg #[I8 1, I (q : Int), .string ByteArray.empty, I 0]))] Try.func10 rfl rfl (mem0 E0 0 w) rfl rfl ?_
  refine c_seq ?_
  refine c_region ?_
  refine o_new tok rfl rfl rfl rfl ?_
  refine o_new tok rfl rfl rfl rfl ?_
  refine o_new tok rfl rfl rfl rfl ?_
  refine o_yield rfl rfl rfl (y_val tok rfl) ?_
  refine o_yield rfl rfl rfl (y_val tok rfl) ?_
  refine o_end [1, 3, 5, 6] rfl ?_
  refine x_then ?_
  refine c_seq ?_
  refine c_seq ?_
  refine c_region ?_
  refine o_yield rfl rfl rfl (y_val tok rfl) ?_
  refine o_call (.a (.v _)) rfl rfl fnok26 rfl rfl rfl (fun hg E w1 hm => by exact hchk _ hm.leV) ?_
  refine o_yield rfl rfl rfl (y_val tok rfl) ?_
  refine o_yield rfl rfl rfl (y_val tok rfl) ?_
  refine o_yield rfl rfl rfl (y_val tok rfl) ?_
  refine o_yield rfl rfl rfl (y_val tok rfl) ?_
  refine o_yield rfl rfl rfl (y_val tok rfl) ?_
  refine o_yield rfl rfl rfl (y_val tok rfl) ?_
  refine o_yield rfl rfl rfl (y_val tok rfl) ?_
  refine o_yield rfl rfl rfl (y_val tok rfl) ?_
  refine o_yield rfl rfl rfl (y_val tok rfl) ?_
  refine o_yield rfl rfl rfl (y_len tok rfl (fun hg => hK.sl)) ?_
  refine o_yield rfl rfl rfl (y_val tok rfl) ?_
  refine o_yield rfl rfl rfl (y_val tok rfl) ?_
  refine o_yield rfl rfl rfl (y_val tok rfl) ?_
  refine o_yield rfl rfl rfl (y_val tok rfl) ?_
  refine o_yield rfl rfl rfl (y_val tok rfl) ?_
  refine o_yield rfl rfl rfl (y_val tok rfl) ?_
  refine o_yield rfl rfl rfl (y_val tok rfl) ?_
  refine o_yield rfl rfl rfl (y_val tok rfl) ?_
  refine o_yield rfl rfl rfl (y_val tok rfl) ?_
  refine o_yield rfl rfl rfl (y_val tok rfl) ?_
  refine o_yield rfl rfl rfl (y_val tok rfl) ?_
  refine o_yield rfl rfl rfl (y_val tok rfl) ?_
  refine o_end [1, 3, 5, 6, 38] rfl ?_
  refine x_then ?_
  refine c_cond rfl (fun h => ?_) (fun h => ?_)
  ·
    exfalso
    simp at h
    try omega
  ·
    refine c_skip ?_
    refine x_then ?_
    refine c_seq ?_
    refine c_region ?_
    refine o_yield rfl rfl rfl (y_val tok rfl) ?_
    refine o_yield rfl rfl rfl (y_val tok rfl) ?_
    refine o_yield rfl rfl rfl (y_val tok rfl) ?_
    refine o_yield rfl rfl rfl (y_val tok rfl) ?_
    refine o_yield rfl rfl rfl (y_val tok rfl) ?_
    refine o_yield rfl rfl rfl (y_val tok rfl) ?_
    refine o_yield rfl rfl rfl (y_val tok rfl) ?_
    refine o_yield rfl rfl rfl (y_val tok rfl) ?_
    refine o_yield rfl rfl rfl (y_val tok rfl) ?_
    refine o_end [1, 3, 5, 6, 9] rfl ?_
    refine x_then ?_
    refine c_seq ?_
    refine c_seq ?_
    refine c_region ?_
    refine o_yield rfl rfl rfl (y_val tok rfl) ?_
    refine o_yield rfl rfl rfl (y_val tok rfl) ?_
    refine o_yield rfl rfl rfl (y_val tok rfl) ?_
    refine o_yield rfl rfl rfl (y_val tok rfl) ?_
    refine o_yield rfl rfl rfl (y_val tok rfl) ?_
    refine o_yield rfl rfl rfl (y_val tok rfl) ?_
    refine o_yield rfl rfl rfl (y_val tok rfl) ?_
    refine o_yield rfl rfl rfl (y_val tok rfl) ?_
    refine o_yield rfl rfl rfl (y_val tok rfl) ?_
    refine o_yield rfl rfl rfl (y_val tok rfl) ?_
    refine o_yield rfl rfl rfl (y_val tok rfl) ?_
    refine o_yield rfl rfl rfl (y_val tok rfl) ?_
    refine o_yield rfl rfl rfl (y_val tok rfl) ?_
    refine o_yield rfl rfl rfl (y_val tok rfl) ?_
    refine o_yield rfl rfl rfl (y_val tok rfl) ?_
    refine o_call (.a (.v _)) rfl rfl fnok31 rfl rfl rfl (fun hg E w1 hm => by exact hgv (by simp at hg) _) ?_
    refine o_yield rfl rfl rfl (y_val tok rfl) ?_
    refine o_yield rfl rfl rfl (y_val tok rfl) ?_
    refine o_yield rfl rfl rfl (y_val tok rfl) ?_
    refine o_yield rfl rfl rfl (y_val tok rfl) ?_
    refine o_yield rfl rfl rfl (y_val tok rfl) ?_
    refine o_yield rfl rfl rfl (y_val tok rfl) ?_
    refine o_yield rfl rfl rfl (y_val tok rfl) ?_
    refine o_yield rfl rfl rfl (y_val tok rfl) ?_
    refine o_yield rfl rfl rfl (y_val tok rfl) ?_
    refine o_yield rfl rfl rfl (y_val tok rfl) ?_
    refine o_yield rfl rfl rfl (y_val tok rfl) ?_
    refine o_yield rfl rfl rfl (y_val tok rfl) ?_
    refine o_yield rfl rfl rfl (y_val tok rfl) ?_
    refine o_end [1, 3, 5, 6, 9, 76] rfl ?_
    refine x_then ?_
    refine c_cond rfl (fun h => ?_) (fun h => ?_)
    ·
      exfalso
      simp at h
      try omega
    ·
      refine c_skip ?_
      refine x_then ?_
      refine c_seq ?_
      refine c_seq ?_
      refine c_heldR mixed rfl (by repeat (first | exact SubO.nil | refine SubO.cons rfl ?_)) (by first | rfl | simp [okCels, allOk_plain]) ?_
      refine t_take 0 rfl (by kernel_rfl) rfl rfl rfl (y_val tok rfl) rfl ?_
      refine t_take 1 rfl (by kernel_rfl) rfl rfl rfl (y_val tok rfl) rfl ?_
      refine t_take 2 rfl (by kernel_rfl) rfl rfl rfl (y_val tok rfl) rfl ?_
      refine t_take 3 rfl (by kernel_rfl) rfl rfl rfl (y_val tok rfl) rfl ?_
      refine t_take 4 rfl (by kernel_rfl) rfl rfl rfl (y_val tok rfl) rfl ?_
      refine t_take 5 rfl (by kernel_rfl) rfl rfl rfl (y_val tok rfl) rfl ?_
      refine t_take 6 rfl (by kernel_rfl) rfl rfl rfl (y_val tok rfl) rfl ?_
      refine t_take 7 rfl (by kernel_rfl) rfl rfl rfl (y_val tok rfl) rfl ?_
      have hlt_key := lt_of_at hkn
      refine t_take 8 rfl (by kernel_rfl) rfl rfl rfl (y_idx tok rfl (fun hg => hK.sl) (fun hg => ⟨by omega, by omega⟩)) rfl ?_
      refine t_take 9 rfl (by kernel_rfl) rfl rfl rfl (y_lel tok (node) 0 (key) rfl (fun hg => hK) (fun hg => hkn) rfl rfl) rfl ?_
      refine t_go ?_
      refine h_one 10 (by kernel_rfl) ?_
      refine h_bs 10 tok rfl rfl rfl rfl rfl (fun b1 W1 hlw1 hb1 => ?_)
      refine h_one 11 (by kernel_rfl) ?_
      have hks : SlOf W1 encI64 1 (.slice (some ⟨b1, 0, none⟩) 1 1) [key] := SlOf.ofBlock (enc := encI64) (sz := 1) (l := [key]) (hb1 rfl) rfl (fun _ => rfl) (Nat.le_refl _)
      refine h_call 11 (.a (.v _)) rfl rfl rfl fnok32 rfl rfl rfl (fun hg E w1 hm => by exact fenced_c W1 a1 a2 a3 a4 _ n1 c1 n2 c2 n3 c3 n4 c4 _ _ nx key _ hm.leV (hF.mono hlw1) hk1 hks) ?_
      refine h_one 12 (by kernel_rfl) ?_
      refine h_yield 12 rfl rfl rfl rfl (y_val tok rfl) ?_
      refine h_done [1, 3, 5, 6, 9, 90] (by kernel_rfl) rfl ?_
      refine x_then ?_
      refine c_cond rfl (fun h => ?_) (fun h => ?_)
      ·
        exfalso
        simp at h
      ·
        refine c_skip ?_
        refine x_then ?_
        refine c_seq ?_
        refine c_seq ?_
        refine c_region ?_
        refine o_yield rfl rfl rfl (y_val tok rfl) ?_
        refine o_yield rfl rfl rfl (y_val tok rfl) ?_
        refine o_yield rfl rfl rfl (y_val tok rfl) ?_
        refine o_yield rfl rfl rfl (y_val tok rfl) ?_
        refine o_yield rfl rfl rfl (y_val tok rfl) ?_
        refine o_yield rfl rfl rfl (y_val tok rfl) ?_
        refine o_yield rfl rfl rfl (y_val tok rfl) ?_
        refine o_yield rfl rfl rfl (y_val tok rfl) ?_
        refine o_yield rfl rfl rfl (y_val tok rfl) ?_
        refine o_yield rfl rfl rfl (y_val tok rfl) ?_
        refine o_yield rfl rfl rfl (y_val tok rfl) ?_
        refine o_yield rfl rfl rfl (y_val tok rfl) ?_
        refine o_yield rfl rfl rfl (y_val tok rfl) ?_
        refine o_yield rfl rfl rfl (y_val tok rfl) ?_
        refine o_yield rfl rfl rfl (y_val tok rfl) ?_
        refine o_yield rfl rfl rfl (y_len tok rfl (fun hg => (hS.mono hlw1).sl)) ?_
        refine o_yield rfl rfl rfl (y_val tok rfl) ?_
        refine o_yield rfl rfl rfl (y_val tok rfl) ?_
        refine o_yield rfl rfl rfl (y_val tok rfl) ?_
        refine o_end [1, 3, 5, 6, 110] rfl ?_
        refine x_then ?_
        refine c_cond rfl (fun h => ?_) (fun h => ?_)
        ·
          exfalso
          simp at h
          try omega
        ·
          refine c_skip ?_
          refine x_then ?_
          refine c_seq ?_
          refine c_region ?_
          refine o_yield rfl rfl rfl (y_val tok rfl) ?_
          refine o_step rfl rfl rfl rfl rfl (s_makesV (fun C V' => Copies w.heap.size V' D C) (fun _ : List (Sl Cell) => .agg [.row 3, .row 9, .row 5, .v (I nx), .row 7]) (fun C => [(3, .row 9 1 S.length (S.flatMap encS)), (9, .row 70 1 C.length (C.flatMap Sl.enc)), (5, .row 3 1 K.length (K.flatMap encI64)), (7, .row 3 1 0 [])]) 10 rfl fnok33 (fun E w1 hm => copied_c w.heap.size W1 a1 a2 a3 a4 n1 c1 n2 c2 n3 c3 n4 c4 nx S D K w1 (hm.below hlw1).size hm.leV (hS.mono hlw1) (hD.mono hlw1) (hK.mono hlw1) (hF.mono hlw1) (fun c hc => ⟨((hDc c hc).mono hV).mono hlw1, by have := hcs c hc; omega⟩) hsn (by omega) (by omega))) (fun xc hxc => ?_)
          obtain ⟨C', W2⟩ := xc
          obtain ⟨hlw2, hcp⟩ := hxc
          dsimp only at hlw2 hcp
          obtain ⟨xa, xn, xp, hxC, hnC⟩ := hcp.at (node := node) (r := l) (by rw [hDC]; exact hl)
          have hxs : SlOf W2 Cell.cells 2 (.slice xa xn xp) l := ⟨(hcp.row _ (List.mem_of_getElem? hxC)).sl, fun _ => rfl⟩
          have hln := (hg.cs l (List.mem_of_getElem? hl)).2
          refine o_new tok rfl rfl rfl rfl ?_
          refine o_store tok rfl rfl rfl (by first | exact ⟨trivial, trivial⟩ | (repeat' first | exact trivial | exact rfl | apply And.intro); done | simp [onesP, oneP, lk, Value.oneCell']) ?_
          refine o_end [1, 5, 6, 10] rfl ?_
          refine x_then ?_
          refine c_seq ?_
          refine c_region ?_
          refine o_yield rfl rfl rfl (y_val tok rfl) ?_
          refine o_yield rfl rfl rfl (y_val tok rfl) ?_
          refine o_yield rfl rfl rfl (y_val tok rfl) ?_
          refine o_yield rfl rfl rfl (y_own (s := .a (.rel 12 (node * 1))) 12 rfl rfl (fun v V' hv => y_idxK tok (node * 1) rfl (by simp) (fun hg => hv) (fun hg => by dsimp only; omega))) ?_
          refine o_yield rfl rfl rfl (y_own (s := .a (.v (.slice xa xn xp))) 12 rfl rfl (fun v V' hv => y_lel (enc := Sl.enc) (l := C') tok node 0 ⟨.slice xa xn xp, l⟩ rfl (fun hg => ⟨hv, fun _ => rfl⟩) (fun hg => hxC) rfl rfl)) ?_
          refine o_yield rfl rfl rfl (y_val tok rfl) ?_
          refine o_end [1, 5, 6, 10, 11] rfl ?_
          refine x_then ?_
          refine c_seq ?_
          refine c_region ?_
          refine o_yield rfl rfl rfl (y_val tok rfl) ?_
          refine o_yield rfl rfl rfl (y_val tok rfl) ?_
          refine o_yield rfl rfl rfl (y_val tok rfl) ?_
          refine o_call (.a (.v _)) rfl rfl fnok34 rfl rfl rfl (fun hg E w1 hm => by exact place_c W2 _ l (q : Int) _ hm.leV hxs (by omega) hno) ?_
          refine o_yield rfl rfl rfl (y_val tok rfl) ?_
          refine o_end [1, 5, 6, 10, 11, 12] rfl ?_
          refine x_then ?_
          refine c_seq ?_
          refine c_seq ?_
          refine c_region ?_
          refine o_yield rfl rfl rfl (y_val tok rfl) ?_
          refine o_yield rfl rfl rfl (y_val tok rfl) ?_
          refine o_end [1, 5, 6, 10, 11, 12, 124] rfl ?_
          refine x_then ?_
          refine c_block ?_
          refine c_seq ?_
          refine c_region ?_
          refine o_yield rfl rfl rfl (y_val tok rfl) ?_
          refine o_yield rfl rfl rfl (y_val tok rfl) ?_
          refine o_end [1, 5, 6, 10, 11, 12, 124, 125] rfl ?_
          refine x_then ?_
          refine c_cond rfl (fun h => ?_) (fun h => ?_)
          ·
            refine c_seq ?_
            refine c_seq ?_
            refine c_region ?_
            refine o_yield rfl rfl rfl (y_val tok rfl) ?_
            refine o_yield rfl rfl rfl (y_val tok rfl) ?_
            refine o_end [5, 6, 10, 11, 12, 128] rfl ?_
            refine x_then ?_
            refine c_cond rfl (fun h => ?_) (fun h => ?_)
            ·
              exact absurd h (by decide)
            ·
              refine c_skip ?_
              refine x_then ?_
              refine c_seq ?_
              refine c_held [] ([(0, .lit [.v (.slice a1 n1 c1), .v (.slice a2 n2 c2), .v (.slice a3 n3 c3), .v (I nx), .v (.slice a4 n4 c4)] 35), (1, .lit [.v (I8 1), .v (I (q : Int)), .v (.string ByteArray.empty), .v (I 0)] 45), (6, .row 9 1 S.length (S.flatMap encS)), (8, .row 3 1 K.length (K.flatMap encI64)), (10, .row 3 1 0 []), (12, .row 70 1 C'.length (C'.flatMap Sl.enc)), (13, .lit [.row 6, .row 12, .row 8, .v (I nx), .row 10] 35)]) mixed (by repeat (first | exact SubO.nil | refine SubO.cons rfl ?_)) (by first | rfl | simp [okCels, allOk_plain]) ?_
              refine t_take 0 rfl (by kernel_rfl) rfl rfl rfl (y_val tok rfl) rfl ?_
              refine t_take 1 rfl (by kernel_rfl) rfl rfl rfl (y_val tok rfl) rfl ?_
              refine t_take 2 rfl (by kernel_rfl) rfl rfl rfl (y_val tok rfl) rfl ?_
              refine t_take 3 rfl (by kernel_rfl) rfl rfl rfl (y_val tok rfl) rfl ?_
              refine t_take 4 rfl (by kernel_rfl) rfl rfl rfl (y_val tok rfl) rfl ?_
              refine t_take 5 rfl (by kernel_rfl) rfl rfl rfl (y_own (s := .a (.rel 6 (q * 1))) 6 rfl rfl (fun v V' hv => y_idxK tok (q * 1) rfl (by simp) (fun hg => hv) (fun hg => by first | omega | (dsimp only; omega)))) rfl ?_
              refine t_take 6 rfl (by kernel_rfl) rfl rfl rfl (y_own (s := .a (.v (.string x))) 6 rfl rfl (fun v V' hv => y_lel (enc := encS) (l := S) tok q 0 x rfl (fun hg => ⟨hv, fun _ => rfl⟩) (fun hg => hx) rfl rfl)) rfl ?_
              refine t_go ?_
              refine h_one 7 (by kernel_rfl) ?_
              refine h_store 7 tok rfl rfl rfl rfl (by first | exact ⟨trivial, trivial⟩ | (repeat' first | exact trivial | exact rfl | apply And.intro); done | simp [onesP, oneP, lk, Value.oneCell']) (.inr ⟨(by repeat (first | exact SubO.nil | refine SubO.cons rfl ?_)), rfl, (by first | exact Vw.le.refl _ | assumption)⟩) ?_
              refine h_one 8 (by kernel_rfl) ?_
              refine h_yield 8 rfl rfl rfl rfl (y_val tok rfl) ?_
              refine h_one 9 (by kernel_rfl) ?_
              refine h_yield 9 rfl rfl rfl rfl (y_val tok rfl) ?_
              refine h_done [6, 7, 8] (by kernel_rfl) rfl ?_
              refine x_then ?_
              refine c_ret ?_
              refine x_block_ret ?_
              refine x_then_ret ?_
              refine b_ret tok rfl ?_
              intro E w' hm _
              have hleF := hlw1.trans hlw2
              have hbw := hm.below hleF
              have hfd := fin_dev (V := V) (S := S) (D := C') (K := K) hm hleF 6 12 8 10 nx rfl rfl rfl rfl ⟨rfl, rfl⟩ ⟨rfl, rfl⟩ ⟨rfl, rfl⟩ (fun c hc => (⟨(hcp.row c hc).sl, fun _ => rfl⟩ : SlOf W2 Cell.cells 2 c.v c.l).newIn (hcp.new c hc) (NewIn.grown hm))
              rw [hcp.same, hDC] at hfd
              exact ⟨_, V.grown w w', rfl, hbw, Vext.grown hV hbw, _, rfl, hfd⟩
          ·
            exact absurd h (by decide)
end Go.Proofs.Ytipmgnhbcaniiaa

/- What the document's device does: a cache's first sector flushed. -/
set_option linter.unusedVariables false
set_option linter.unusedSimpArgs false
set_option maxRecDepth 100000
namespace Go.Proofs.Ytipmgnhbcaniiaa
open Go Go.Eng Go.RowKit

set_option maxHeartbeats 4000000 in
theorem doFlush_c (V : Vw) (v : Value) (S : List ByteArray) (C : List (List Cell)) (K : List Int) (nx : Int) (node : Nat) (c0 : Cell) (r : List Cell) (key : Int) (q : Nat) (w : World) (hV : V.le (vw w)) (hd : DevC V v S C K nx) (hg : DevGood S C K nx)
    (hl : C[node]? = some (c0 :: r)) (hkn : K[node]? = some key) (hk1 : 1 ≤ key) (h1 : q < S.length) (hq : c0.sector = (q : Int)) (hno : ∀ c ∈ c0 :: r, c.sector ≠ 0) :
    Calls Try.prog 10 #[v, I node, .agg #[I8 4, I 0, .string ByteArray.empty, I 0]] w (DoQ V (S.set q c0.b) (C.set node r) K nx ByteArray.empty w) := by
  obtain ⟨a1, n1, c1, a2, n2, c2, a3, n3, c3, a4, n4, c4, D, rfl, hS0, hD0, hK0, hF0, hDC, hDc⟩ := hd
  have hS := hS0.mono hV
  have hD := hD0.mono hV
  have hK := hK0.mono hV
  have hF := hF0.mono hV
  have hsn := hg.sn
  have hk16 := hg.k1
  have hDl : D.length = K.length := by rw [← hg.ck, ← hDC, List.length_map]
  have hnK := (List.getElem?_eq_some_iff.1 hkn).1
  have hcs : ∀ c ∈ D, c.l.length ≤ 900 := fun c hc => (hg.cs c.l (by rw [← hDC]; exact List.mem_map_of_mem hc)).2
  have hck := hg.check (.slice a1 n1 c1) (.slice a2 n2 c2) (.slice a3 n3 c3) (.slice a4 n4 c4) hDC
  have hdi : DevIn (vw w) ⟨⟨.slice a1 n1 c1, S⟩, ⟨.slice a2 n2 c2, D⟩, ⟨.slice a3 n3 c3, K⟩, nx, ⟨.slice a4 n4 c4, []⟩⟩ := ⟨hS, by simp only [maxLen]; omega, hD, by simp only [maxLen]; omega, fun c hc => ⟨(hDc c hc).mono hV, by have := hcs c hc; simp only [maxLen]; omega⟩, hK, by simp only [maxLen]; omega, hF, by simp⟩
  have hchk := fun w1 hV1 => refCheck_c (vw w) ⟨⟨.slice a1 n1 c1, S⟩, ⟨.slice a2 n2 c2, D⟩, ⟨.slice a3 n3 c3, K⟩, nx, ⟨.slice a4 n4 c4, []⟩⟩ w1 hV1 hdi
  rw [hck, if_pos rfl] at hchk
  have hgv : ∀ (f : False) w, Calls Try.prog 31 #[.agg #[.slice a1 n1 c1, .slice a2 n2 c2, .slice a3 n3 c3, I nx, .slice a4 n4 c4], I 0] w fun e w' => e = .returned (.bool true) ∧ Below w.heap.size w w' := fun f => f.elim
  refine enter (E := E0) (O := []) (nl := 0) (V := vw w) [.a (.v (.agg #[.slice a1 n1 c1, .slice a2 n2 c2, .slice a3 n3 c3, I nx, .slice a4 n4 c4])), .a (.v (I node)), .a (.v (.agg #[I8 4, I 0, .string ByteArray.empty, I 0]))] Try.func10 rfl rfl (mem0 E0 0 w) rfl rfl ?_
  refine c_seq ?_
  refine c_region ?_
  refine o_new tok rfl rfl rfl rfl ?_
  refine o_new tok rfl rfl rfl rfl ?_
  refine o_new tok rfl rfl rfl rfl ?_
  refine o_yield rfl rfl rfl (y_val tok rfl) ?_
  refine o_yield rfl rfl rfl (y_val tok rfl) ?_
  refine o_end [1, 3, 5, 6] rfl ?_
  refine x_then ?_
  refine c_seq ?_
  refine c_seq ?_
  refine c_region ?_
  refine o_yield rfl rfl rfl (y_val tok rfl) ?_
  refine o_call (.a (.v _)) rfl rfl fnok26 rfl rfl rfl (fun hg E w1 hm => by exact hchk _ hm.leV) ?_
  refine o_yield rfl rfl rfl (y_val tok rfl) ?_
  refine o_yield rfl rfl rfl (y_val tok rfl) ?_
  refine o_yield rfl rfl rfl (y_val tok rfl) ?_
  refine o_yield rfl rfl rfl (y_val tok rfl) ?_
  refine o_yield rfl rfl rfl (y_val tok rfl) ?_
  refine o_yield rfl rfl rfl (y_val tok rfl) ?_
  refine o_yield rfl rfl rfl (y_val tok rfl) ?_
  refine o_yield rfl rfl rfl (y_val tok rfl) ?_
  refine o_yield rfl rfl rfl (y_val tok rfl) ?_
  refine o_yield rfl rfl rfl (y_len tok rfl (fun hg => hK.sl)) ?_
  refine o_yield rfl rfl rfl (y_val tok rfl) ?_
  refine o_yield rfl rfl rfl (y_val tok rfl) ?_
  refine o_yield rfl rfl rfl (y_val tok rfl) ?_
  refine o_yield rfl rfl rfl (y_val tok rfl) ?_
  refine o_yield rfl rfl rfl (y_val tok rfl) ?_
  refine o_yield rfl rfl rfl (y_val tok rfl) ?_
  refine o_yield rfl rfl rfl (y_val tok rfl) ?_
  refine o_yield rfl rfl rfl (y_val tok rfl) ?_
  refine o_yield rfl rfl rfl (y_val tok rfl) ?_
  refine o_yield rfl rfl rfl (y_val tok rfl) ?_
  refine o_yield rfl rfl rfl (y_val tok rfl) ?_
  refine o_yield rfl rfl rfl (y_val tok rfl) ?_
  refine o_end [1, 3, 5, 6, 38] rfl ?_
  refine x_then ?_
  refine c_cond rfl (fun h => ?_) (fun h => ?_)
  ·
    exfalso
    simp at h
    try omega
  ·
    refine c_skip ?_
    refine x_then ?_
    refine c_seq ?_
    refine c_region ?_
    refine o_yield rfl rfl rfl (y_val tok rfl) ?_
    refine o_yield rfl rfl rfl (y_val tok rfl) ?_
    refine o_yield rfl rfl rfl (y_val tok rfl) ?_
    refine o_yield rfl rfl rfl (y_val tok rfl) ?_
    refine o_yield rfl rfl rfl (y_val tok rfl) ?_
    refine o_yield rfl rfl rfl (y_val tok rfl) ?_
    refine o_yield rfl rfl rfl (y_val tok rfl) ?_
    refine o_yield rfl rfl rfl (y_val tok rfl) ?_
    refine o_yield rfl rfl rfl (y_val tok rfl) ?_
    refine o_end [1, 3, 5, 6, 9] rfl ?_
    refine x_then ?_
    refine c_seq ?_
    refine c_seq ?_
    refine c_region ?_
    refine o_yield rfl rfl rfl (y_val tok rfl) ?_
    refine o_yield rfl rfl rfl (y_val tok rfl) ?_
    refine o_yield rfl rfl rfl (y_val tok rfl) ?_
    refine o_yield rfl rfl rfl (y_val tok rfl) ?_
    refine o_yield rfl rfl rfl (y_val tok rfl) ?_
    refine o_yield rfl rfl rfl (y_val tok rfl) ?_
    refine o_yield rfl rfl rfl (y_val tok rfl) ?_
    refine o_yield rfl rfl rfl (y_val tok rfl) ?_
    refine o_yield rfl rfl rfl (y_val tok rfl) ?_
    refine o_yield rfl rfl rfl (y_val tok rfl) ?_
    refine o_yield rfl rfl rfl (y_val tok rfl) ?_
    refine o_yield rfl rfl rfl (y_val tok rfl) ?_
    refine o_yield rfl rfl rfl (y_val tok rfl) ?_
    refine o_yield rfl rfl rfl (y_val tok rfl) ?_
    refine o_yield rfl rfl rfl (y_val tok rfl) ?_
    refine o_call (.a (.v _)) rfl rfl fnok31 rfl rfl rfl (fun hg E w1 hm => by exact hgv (by simp at hg) _) ?_
    refine o_yield rfl rfl rfl (y_val tok rfl) ?_
    refine o_yield rfl rfl rfl (y_val tok rfl) ?_
    refine o_yield rfl rfl rfl (y_val tok rfl) ?_
    refine o_yield rfl rfl rfl (y_val tok rfl) ?_
    refine o_yield rfl rfl rfl (y_val tok rfl) ?_
    refine o_yield rfl rfl rfl (y_val tok rfl) ?_
    refine o_yield rfl rfl rfl (y_val tok rfl) ?_
    refine o_yield rfl rfl rfl (y_val tok rfl) ?_
    refine o_yield rfl rfl rfl (y_val tok rfl) ?_
    refine o_yield rfl rfl rfl (y_val tok rfl) ?_
    refine o_yield rfl rfl rfl (y_val tok rfl) ?_
    refine o_yield rfl rfl rfl (y_val tok rfl) ?_
    refine o_yield rfl rfl rfl (y_val tok rfl) ?_
    refine o_end [1, 3, 5, 6, 9, 76] rfl ?_
    refine x_then ?_
    refine c_cond rfl (fun h => ?_) (fun h => ?_)
    ·
      exfalso
      simp at h
      try omega
    ·
      refine c_skip ?_
      refine x_then ?_
      refine c_seq ?_
      refine c_seq ?_
      refine c_heldR mixed rfl (by repeat (first | exact SubO.nil | refine SubO.cons rfl ?_)) (by first | rfl | simp [okCels, allOk_plain]) ?_
      refine t_take 0 rfl (by kernel_rfl) rfl rfl rfl (y_val tok rfl) rfl ?_
      refine t_take 1 rfl (by kernel_rfl) rfl rfl rfl (y_val tok rfl) rfl ?_
      refine t_take 2 rfl (by kernel_rfl) rfl rfl rfl (y_val tok rfl) rfl ?_
      refine t_take 3 rfl (by kernel_rfl) rfl rfl rfl (y_val tok rfl) rfl ?_
      refine t_take 4 rfl (by kernel_rfl) rfl rfl rfl (y_val tok rfl) rfl ?_
      refine t_take 5 rfl (by kernel_rfl) rfl rfl rfl (y_val tok rfl) rfl ?_
      refine t_take 6 rfl (by kernel_rfl) rfl rfl rfl (y_val tok rfl) rfl ?_
      refine t_take 7 rfl (by kernel_rfl) rfl rfl rfl (y_val tok rfl) rfl ?_
      have hlt_key := lt_of_at hkn
      refine t_take 8 rfl (by kernel_rfl) rfl rfl rfl (y_idx tok rfl (fun hg => hK.sl) (fun hg => ⟨by omega, by omega⟩)) rfl ?_
      refine t_take 9 rfl (by kernel_rfl) rfl rfl rfl (y_lel tok (node) 0 (key) rfl (fun hg => hK) (fun hg => hkn) rfl rfl) rfl ?_
      refine t_go ?_
      refine h_one 10 (by kernel_rfl) ?_
      refine h_bs 10 tok rfl rfl rfl rfl rfl (fun b1 W1 hlw1 hb1 => ?_)
      refine h_one 11 (by kernel_rfl) ?_
      have hks : SlOf W1 encI64 1 (.slice (some ⟨b1, 0, none⟩) 1 1) [key] := SlOf.ofBlock (enc := encI64) (sz := 1) (l := [key]) (hb1 rfl) rfl (fun _ => rfl) (Nat.le_refl _)
      refine h_call 11 (.a (.v _)) rfl rfl rfl fnok32 rfl rfl rfl (fun hg E w1 hm => by exact fenced_c W1 a1 a2 a3 a4 _ n1 c1 n2 c2 n3 c3 n4 c4 _ _ nx key _ hm.leV (hF.mono hlw1) hk1 hks) ?_
      refine h_one 12 (by kernel_rfl) ?_
      refine h_yield 12 rfl rfl rfl rfl (y_val tok rfl) ?_
      refine h_done [1, 3, 5, 6, 9, 90] (by kernel_rfl) rfl ?_
      refine x_then ?_
      refine c_cond rfl (fun h => ?_) (fun h => ?_)
      ·
        exfalso
        simp at h
      ·
        refine c_skip ?_
        refine x_then ?_
        refine c_seq ?_
        refine c_seq ?_
        refine c_region ?_
        refine o_yield rfl rfl rfl (y_val tok rfl) ?_
        refine o_yield rfl rfl rfl (y_val tok rfl) ?_
        refine o_yield rfl rfl rfl (y_val tok rfl) ?_
        refine o_yield rfl rfl rfl (y_val tok rfl) ?_
        refine o_yield rfl rfl rfl (y_val tok rfl) ?_
        refine o_yield rfl rfl rfl (y_val tok rfl) ?_
        refine o_yield rfl rfl rfl (y_val tok rfl) ?_
        refine o_yield rfl rfl rfl (y_val tok rfl) ?_
        refine o_yield rfl rfl rfl (y_val tok rfl) ?_
        refine o_yield rfl rfl rfl (y_val tok rfl) ?_
        refine o_yield rfl rfl rfl (y_val tok rfl) ?_
        refine o_yield rfl rfl rfl (y_val tok rfl) ?_
        refine o_yield rfl rfl rfl (y_val tok rfl) ?_
        refine o_yield rfl rfl rfl (y_val tok rfl) ?_
        refine o_yield rfl rfl rfl (y_val tok rfl) ?_
        refine o_yield rfl rfl rfl (y_len tok rfl (fun hg => (hS.mono hlw1).sl)) ?_
        refine o_yield rfl rfl rfl (y_val tok rfl) ?_
        refine o_yield rfl rfl rfl (y_val tok rfl) ?_
        refine o_yield rfl rfl rfl (y_val tok rfl) ?_
        refine o_end [1, 3, 5, 6, 110] rfl ?_
        refine x_then ?_
        refine c_cond rfl (fun h => ?_) (fun h => ?_)
        ·
          exfalso
          simp at h
          try omega
        ·
          refine c_skip ?_
          refine x_then ?_
          refine c_seq ?_
          refine c_region ?_
          refine o_yield rfl rfl rfl (y_val tok rfl) ?_
          refine o_step rfl rfl rfl rfl rfl (s_makesV (fun C V' => Copies w.heap.size V' D C) (fun _ : List (Sl Cell) => .agg [.row 3, .row 9, .row 5, .v (I nx), .row 7]) (fun C => [(3, .row 9 1 S.length (S.flatMap encS)), (9, .row 70 1 C.length (C.flatMap Sl.enc)), (5, .row 3 1 K.length (K.flatMap encI64)), (7, .row 3 1 0 [])]) 10 rfl fnok33 (fun E w1 hm => copied_c w.heap.size W1 a1 a2 a3 a4 n1 c1 n2 c2 n3 c3 n4 c4 nx S D K w1 (hm.below hlw1).size hm.leV (hS.mono hlw1) (hD.mono hlw1) (hK.mono hlw1) (hF.mono hlw1) (fun c hc => ⟨((hDc c hc).mono hV).mono hlw1, by have := hcs c hc; omega⟩) hsn (by omega) (by omega))) (fun xc hxc => ?_)
          obtain ⟨C', W2⟩ := xc
          obtain ⟨hlw2, hcp⟩ := hxc
          dsimp only at hlw2 hcp
          obtain ⟨xa, xn, xp, hxC, hnC⟩ := hcp.at (node := node) (r := c0 :: r) (by rw [hDC]; exact hl)
          have hxs : SlOf W2 Cell.cells 2 (.slice xa xn xp) (c0 :: r) := ⟨(hcp.row _ (List.mem_of_getElem? hxC)).sl, fun _ => rfl⟩
          have hln := (hg.cs _ (List.mem_of_getElem? hl)).2
          refine o_new tok rfl rfl rfl rfl ?_
          refine o_store tok rfl rfl rfl (by first | exact ⟨trivial, trivial⟩ | (repeat' first | exact trivial | exact rfl | apply And.intro); done | simp [onesP, oneP, lk, Value.oneCell']) ?_
          refine o_end [1, 5, 6, 10] rfl ?_
          refine x_then ?_
          refine c_seq ?_
          refine c_region ?_
          refine o_yield rfl rfl rfl (y_val tok rfl) ?_
          refine o_yield rfl rfl rfl (y_val tok rfl) ?_
          refine o_yield rfl rfl rfl (y_val tok rfl) ?_
          refine o_yield rfl rfl rfl (y_own (s := .a (.rel 12 (node * 1))) 12 rfl rfl (fun v V' hv => y_idxK tok (node * 1) rfl (by simp) (fun hg => hv) (fun hg => by dsimp only; omega))) ?_
          refine o_yield rfl rfl rfl (y_own (s := .a (.v (.slice xa xn xp))) 12 rfl rfl (fun v V' hv => y_lel (enc := Sl.enc) (l := C') tok node 0 ⟨.slice xa xn xp, c0 :: r⟩ rfl (fun hg => ⟨hv, fun _ => rfl⟩) (fun hg => hxC) rfl rfl)) ?_
          refine o_yield rfl rfl rfl (y_val tok rfl) ?_
          refine o_end [1, 5, 6, 10, 11] rfl ?_
          refine x_then ?_
          refine c_seq ?_
          refine c_region ?_
          refine o_yield rfl rfl rfl (y_val tok rfl) ?_
          refine o_yield rfl rfl rfl (y_val tok rfl) ?_
          refine o_yield rfl rfl rfl (y_val tok rfl) ?_
          refine o_call (.a (.v _)) rfl rfl fnok34 rfl rfl rfl (fun hg E w1 hm => by exact place_c W2 _ (c0 :: r) 0 _ hm.leV hxs (by omega) hno) ?_
          refine o_yield rfl rfl rfl (y_val tok rfl) ?_
          refine o_end [1, 5, 6, 10, 11, 12] rfl ?_
          refine x_then ?_
          refine c_seq ?_
          refine c_seq ?_
          refine c_region ?_
          refine o_yield rfl rfl rfl (y_val tok rfl) ?_
          refine o_yield rfl rfl rfl (y_val tok rfl) ?_
          refine o_end [1, 5, 6, 10, 11, 12, 124] rfl ?_
          refine x_then ?_
          refine c_block ?_
          refine c_seq ?_
          refine c_region ?_
          refine o_yield rfl rfl rfl (y_val tok rfl) ?_
          refine o_yield rfl rfl rfl (y_val tok rfl) ?_
          refine o_end [1, 5, 6, 10, 11, 12, 124, 125] rfl ?_
          refine x_then ?_
          refine c_cond rfl (fun h => ?_) (fun h => ?_)
          ·
            exact absurd h (by decide)
          ·
            refine c_seq ?_
            refine c_region ?_
            refine o_yield rfl rfl rfl (y_val tok rfl) ?_
            refine o_yield rfl rfl rfl (y_val tok rfl) ?_
            refine o_end [1, 5, 6, 10, 11, 12, 124, 142] rfl ?_
            refine x_then ?_
            refine c_cond rfl (fun h => ?_) (fun h => ?_)
            ·
              exact absurd h (by decide)
            ·
              refine c_seq ?_
              refine c_region ?_
              refine o_yield rfl rfl rfl (y_val tok rfl) ?_
              refine o_yield rfl rfl rfl (y_val tok rfl) ?_
              refine o_end [1, 5, 6, 10, 11, 12, 124, 160] rfl ?_
              refine x_then ?_
              refine c_cond rfl (fun h => ?_) (fun h => ?_)
              ·
                exact absurd h (by decide)
              ·
                refine c_seq ?_
                refine c_region ?_
                refine o_yield rfl rfl rfl (y_val tok rfl) ?_
                refine o_yield rfl rfl rfl (y_val tok rfl) ?_
                refine o_end [1, 5, 6, 10, 11, 124, 182] rfl ?_
                refine x_then ?_
                refine c_cond rfl (fun h => ?_) (fun h => ?_)
                ·
                  refine c_seq ?_
                  refine c_region ?_
                  refine o_yield rfl rfl rfl (y_val tok rfl) ?_
                  have hlnr : r.length ≤ 900 := by have := hln; simp only [List.length_cons] at this; omega
                  refine o_yield rfl rfl rfl (y_len tok rfl (fun hg => hxs.sl)) ?_
                  refine o_yield rfl rfl rfl (y_val tok rfl) ?_
                  refine o_end [1, 6, 10, 11, 186] rfl ?_
                  refine x_then ?_
                  refine c_cond rfl (fun h => ?_) (fun h => ?_)
                  ·
                    refine c_seq ?_
                    refine c_held [] ([(0, .lit [.v (.slice a1 n1 c1), .v (.slice a2 n2 c2), .v (.slice a3 n3 c3), .v (I nx), .v (.slice a4 n4 c4)] 35), (1, .lit [.v (I8 4), .v (I 0), .v (.string ByteArray.empty), .v (I 0)] 45), (2, .lit [.v (.slice none 0 0), .v (.slice none 0 0), .v (.slice none 0 0), .v (I 0), .v (.slice none 0 0)] 35), (8, .row 3 1 K.length (K.flatMap encI64)), (10, .row 3 1 0 []), (13, .lit [.row 6, .row 12, .row 8, .v (I nx), .row 10] 35), (12, .row 70 1 C'.length (C'.flatMap Sl.enc))]) mixed (by repeat (first | exact SubO.nil | refine SubO.cons rfl ?_)) (by first | rfl | simp [okCels, allOk_plain]) ?_
                    refine t_take 0 rfl (by kernel_rfl) rfl rfl rfl (y_val tok rfl) rfl ?_
                    refine t_take 1 rfl (by kernel_rfl) rfl rfl rfl (y_val tok rfl) rfl ?_
                    refine t_take 2 rfl (by kernel_rfl) rfl rfl rfl (y_val tok rfl) rfl ?_
                    have hlt_c0 := lt_of_at (show (c0 :: r)[0]? = some c0 from rfl)
                    refine t_take 3 rfl (by kernel_rfl) rfl rfl rfl (y_idx tok rfl (fun hg => hxs.sl) (fun hg => ⟨by omega, by omega⟩)) rfl ?_
                    refine t_take 4 rfl (by kernel_rfl) rfl rfl rfl (y_fel tok rfl (fun hg => hxs.sl) (fun hg => by omega)) rfl ?_
                    refine t_take 5 rfl (by kernel_rfl) rfl rfl rfl (y_lel tok (0) 0 (c0) rfl (fun hg => hxs) (fun hg => (show (c0 :: r)[0]? = some c0 from rfl)) rfl rfl) rfl ?_
                    refine t_take 6 rfl (by kernel_rfl) rfl rfl rfl (y_val tok rfl) rfl ?_
                    have hlt_c0 := lt_of_at (show (c0 :: r)[0]? = some c0 from rfl)
                    refine t_take 7 rfl (by kernel_rfl) rfl rfl rfl (y_idx tok rfl (fun hg => hxs.sl) (fun hg => ⟨by omega, by omega⟩)) rfl ?_
                    refine t_take 8 rfl (by kernel_rfl) rfl rfl rfl (y_fel tok rfl (fun hg => hxs.sl) (fun hg => by omega)) rfl ?_
                    refine t_take 9 rfl (by kernel_rfl) rfl rfl rfl (y_lel tok (0) 1 (c0) rfl (fun hg => hxs) (fun hg => (show (c0 :: r)[0]? = some c0 from rfl)) rfl rfl) rfl ?_
                    refine t_go ?_
                    refine h_one 10 (by kernel_rfl) ?_
                    rw [hq]
                    refine h_yield 10 rfl rfl rfl rfl (y_own (s := .a (.rel 6 (q * 1))) 6 rfl rfl (fun v V' hv => y_idxK tok (q * 1) rfl (by simp) (fun hg => hv) (fun hg => by first | omega | (dsimp only; omega)))) ?_
                    refine h_one 11 (by kernel_rfl) ?_
                    refine h_toN 11 rfl rfl rfl rfl rfl (s_rst tok rfl rfl (by intro u hu; simp only [List.mem_singleton] at hu; subst hu; rfl) (by simp only [List.length_singleton]; first | omega | (dsimp only; omega)) (by first | omega | (dsimp only; omega))) (.inr fun _ _ => ⟨(by repeat (first | exact SubO.nil | refine SubO.cons rfl ?_)), rfl, (by first | exact Vw.le.refl _ | assumption)⟩) (fun _ _ => ?_)
                    refine h_done [1, 6, 10, 11] (by kernel_rfl) rfl ?_
                    refine x_then ?_
                    refine c_held [] ([(0, .lit [.v (.slice a1 n1 c1), .v (.slice a2 n2 c2), .v (.slice a3 n3 c3), .v (I nx), .v (.slice a4 n4 c4)] 35), (1, .lit [.v (I8 4), .v (I 0), .v (.string ByteArray.empty), .v (I 0)] 45), (2, .lit [.v (.slice none 0 0), .v (.slice none 0 0), .v (.slice none 0 0), .v (I 0), .v (.slice none 0 0)] 35), (8, .row 3 1 K.length (K.flatMap encI64)), (10, .row 3 1 0 []), (13, .lit [.row 6, .row 12, .row 8, .v (I nx), .row 10] 35), (6, .row 9 1 S.length (overL (q * 1) [.string c0.b] (S.flatMap encS)))]) mixed (by repeat (first | exact SubO.nil | refine SubO.cons rfl ?_)) (by first | rfl | simp [okCels, allOk_plain]) ?_
                    refine t_take 0 rfl (by kernel_rfl) rfl rfl rfl (y_val tok rfl) rfl ?_
                    refine t_take 1 rfl (by kernel_rfl) rfl rfl rfl (y_val tok rfl) rfl ?_
                    refine t_take 2 rfl (by kernel_rfl) rfl rfl rfl (y_val tok rfl) rfl ?_
                    refine t_take 3 rfl (by kernel_rfl) rfl rfl rfl (y_val tok rfl) rfl ?_
                    refine t_go ?_
                    refine h_one 4 (by kernel_rfl) ?_
                    refine h_to 4 rfl rfl rfl rfl rfl rfl (StepTo.named (s_callRow 83 2 r.length (r.flatMap Cell.cells) rfl fnok35 (fun E w1 hm => (without_c W2 _ c0 r w1 hm.leV hxs (by omega)).mono (fun e w' ⟨⟨v, he, ho⟩, hb⟩ => ⟨v, he, ho, hb⟩))) rfl (fun _ => ⟨_, _, _, _, rfl⟩)) (.inr fun x hx => ⟨(by repeat (first | exact SubO.nil | refine SubO.cons rfl ?_)), rfl, (by first | exact Vw.le.refl _ | exact hx.1)⟩) (fun xe hxe => ?_)
                    obtain ⟨_, b3, ea, en, ec⟩ := xe
                    refine h_one 5 (by kernel_rfl) ?_
                    refine h_yield 5 rfl rfl rfl rfl (y_own (s := .a (.rel 12 (node * 1))) 12 rfl rfl (fun v V' hv => y_idxK tok (node * 1) rfl (by simp) (fun hg => hv) (fun hg => by first | omega | (dsimp only; omega)))) ?_
                    refine h_one 6 (by kernel_rfl) ?_
                    refine h_toN 6 rfl rfl rfl rfl rfl (s_rst tok rfl rfl (by intro u hu; simp only [List.mem_singleton] at hu; subst hu; rfl) (by simp only [List.length_singleton]; first | omega | (dsimp only; omega)) (by first | omega | (dsimp only; omega))) (.inr fun _ _ => ⟨(by repeat (first | exact SubO.nil | refine SubO.cons rfl ?_)), rfl, (by first | exact Vw.le.refl _ | assumption)⟩) (fun _ _ => ?_)
                    refine h_done [6, 10] (by kernel_rfl) rfl ?_
                    refine x_block ?_
                    refine x_then ?_
                    refine c_seq ?_
                    refine c_region ?_
                    refine o_yield rfl rfl rfl (y_val tok rfl) ?_
                    refine o_store tok rfl rfl rfl (by first | exact ⟨trivial, trivial⟩ | (repeat' first | exact trivial | exact rfl | apply And.intro); done | simp [onesP, oneP, lk, Value.oneCell']) ?_
                    refine o_yield rfl rfl rfl (y_val tok rfl) ?_
                    refine o_yield rfl rfl rfl (y_val tok rfl) ?_
                    refine o_end [6, 7, 8] rfl ?_
                    refine x_then ?_
                    refine c_ret ?_
                    refine b_ret tok rfl ?_
                    intro E w' hm _
                    have hleF := hlw1.trans hlw2
                    have hbw := hm.below hleF
                    have hnew := hm.rowFresh hleF (l := 14) rfl
                    rw [(hm.kp 15 14 _ _ rfl).2.1] at hnew
                    have hnew2 : SlOf (V.grown w w') Cell.cells 2 (.slice ea en ec) r := SlOf.grown V hnew (fun _ => rfl)
                    have hovS := overL_set (enc := encS) (sz := 1) (fun _ => rfl) S q c0.b h1
                    have hov := overL_set (enc := Sl.enc) (sz := 1) (fun _ => rfl) C' node ⟨.slice ea en ec, r⟩ hnC
                    have hfd := fin_dev (V := V) (S := S.set q c0.b) (D := C'.set node ⟨.slice ea en ec, r⟩) (K := K) hm hleF 6 12 8 10 nx rfl rfl rfl rfl ⟨by rw [List.length_set], hovS⟩ ⟨by rw [List.length_set], hov⟩ ⟨rfl, rfl⟩ (fun c hc => by
                      rcases mem_set hc with rfl | ⟨i, hi, hci⟩
                      · exact hnew2
                      · exact (⟨(hcp.row c (List.mem_of_getElem? hci)).sl, fun _ => rfl⟩ : SlOf W2 Cell.cells 2 c.v c.l).newIn (hcp.new c (List.mem_of_getElem? hci)) (NewIn.grown hm))
                    rw [map_set', hcp.same, hDC] at hfd
                    exact ⟨_, V.grown w w', rfl, hbw, Vext.grown hV hbw, _, rfl, hfd⟩
                  ·
                    exfalso
                    simp at h
                    try omega
                ·
                  exact absurd h (by decide)
end Go.Proofs.Ytipmgnhbcaniiaa

/- What the document's device does: a node registered. -/
set_option linter.unusedVariables false
set_option linter.unusedSimpArgs false
set_option maxRecDepth 100000
namespace Go.Proofs.Ytipmgnhbcaniiaa
open Go Go.Eng Go.RowKit

/-- ref01.Put, its bytes as ones that nobody writes. -/
theorem put1_cV (V : Vw) (k n : Int) (lv : Value) (w : World) (hV : V.le (vw w)) (hl : SlOf V encI64 1 lv [n]) :
    Calls Try.prog 37 #[.slice none 0 0, I k, lv] w fun e w' => ∃ x V', e = .returned x ∧ Below w.heap.size w w' ∧ Vext w.heap.size V V' w' ∧ ∃ a m c er bl, x = .tuple #[.slice a m c, I er] ∧ SlOf V' encByte 1 (.slice a m c) bl := by
  refine (refPut_c V _ [] k lv [n] w hV (slNil _ _ _ _ (fun _ => rfl)) hl (by simp) (by simp)).mono ?_
  rintro e w' ⟨⟨h1, v, rfl, hrow⟩ | ⟨h1, rfl⟩, hb⟩
  · obtain ⟨V', hx, hsl⟩ := ownsRow_vext hV hb hrow
    obtain ⟨a, n, c, rfl⟩ := sl_shape hsl
    exact ⟨_, V', rfl, hb, hx, a, n, c, _, _, rfl, hsl, fun _ => rfl⟩
  · exact ⟨_, V, rfl, hb, Vext.same hV hb, none, 0, 0, _, [], rfl, slNil _ _ _ _ (fun _ => rfl)⟩

set_option maxHeartbeats 4000000 in
theorem doReg_c (V : Vw) (v : Value) (S : List ByteArray) (C : List (List Cell)) (K : List Int) (nx : Int) (node : Nat) (key : Int) (w : World) (hV : V.le (vw w)) (hd : DevC V v S C K nx) (hg : DevGood S C K nx)
    (hl : C[node]? = some ([] : List Cell)) (hkn : K[node]? = some key) :
    Calls Try.prog 10 #[v, I node, .agg #[I8 6, I 0, .string ByteArray.empty, I 0]] w fun e w' => ∃ x V', e = .returned x ∧ Below w.heap.size w w' ∧ Vext w.heap.size V V' w' ∧ ∃ got, DoR S C (K.set node (16 * nx + node)) (nx + 1) got x V' := by
  obtain ⟨a1, n1, c1, a2, n2, c2, a3, n3, c3, a4, n4, c4, D, rfl, hS0, hD0, hK0, hF0, hDC, hDc⟩ := hd
  have hS := hS0.mono hV
  have hD := hD0.mono hV
  have hK := hK0.mono hV
  have hF := hF0.mono hV
  have hsn := hg.sn
  have hn1 := hg.n1
  have hn2 := hg.n2
  have hk16 := hg.k1
  have hDl : D.length = K.length := by rw [← hg.ck, ← hDC, List.length_map]
  have hnK := (List.getElem?_eq_some_iff.1 hkn).1
  have hcs : ∀ c ∈ D, c.l.length ≤ 900 := fun c hc => (hg.cs c.l (by rw [← hDC]; exact List.mem_map_of_mem hc)).2
  have hck := hg.check (.slice a1 n1 c1) (.slice a2 n2 c2) (.slice a3 n3 c3) (.slice a4 n4 c4) hDC
  have hdi : DevIn (vw w) ⟨⟨.slice a1 n1 c1, S⟩, ⟨.slice a2 n2 c2, D⟩, ⟨.slice a3 n3 c3, K⟩, nx, ⟨.slice a4 n4 c4, []⟩⟩ := ⟨hS, by simp only [maxLen]; omega, hD, by simp only [maxLen]; omega, fun c hc => ⟨(hDc c hc).mono hV, by have := hcs c hc; simp only [maxLen]; omega⟩, hK, by simp only [maxLen]; omega, hF, by simp⟩
  have hchk := fun w1 hV1 => refCheck_c (vw w) ⟨⟨.slice a1 n1 c1, S⟩, ⟨.slice a2 n2 c2, D⟩, ⟨.slice a3 n3 c3, K⟩, nx, ⟨.slice a4 n4 c4, []⟩⟩ w1 hV1 hdi
  rw [hck, if_pos rfl] at hchk
  have hgv : ∀ (f : False) w, Calls Try.prog 31 #[.agg #[.slice a1 n1 c1, .slice a2 n2 c2, .slice a3 n3 c3, I nx, .slice a4 n4 c4], I 0] w fun e w' => e = .returned (.bool true) ∧ Below w.heap.size w w' := fun f => f.elim
  refine enter (E := E0) (O := []) (nl := 0) (V := vw w) [.a (.v (.agg #[.slice a1 n1 c1, .slice a2 n2 c2, .slice a3 n3 c3, I nx, .slice a4 n4 c4])), .a (.v (I node)), .a (.v (.agg #[I8 6, I 0, .string ByteArray.empty, I 0]))] Try.func10 rfl rfl (mem0 E0 0 w) rfl rfl ?_
  refine c_seq ?_
  refine c_region ?_
  refine o_new tok rfl rfl rfl rfl ?_
  refine o_new tok rfl rfl rfl rfl ?_
  refine o_new tok rfl rfl rfl rfl ?_
  refine o_yield rfl rfl rfl (y_val tok rfl) ?_
  refine o_yield rfl rfl rfl (y_val tok rfl) ?_
  refine o_end [1, 3, 5, 6] rfl ?_
  refine x_then ?_
  refine c_seq ?_
  refine c_seq ?_
  refine c_region ?_
  refine o_yield rfl rfl rfl (y_val tok rfl) ?_
  refine o_call (.a (.v _)) rfl rfl fnok26 rfl rfl rfl (fun hg E w1 hm => by exact hchk _ hm.leV) ?_
  refine o_yield rfl rfl rfl (y_val tok rfl) ?_
  refine o_yield rfl rfl rfl (y_val tok rfl) ?_
  refine o_yield rfl rfl rfl (y_val tok rfl) ?_
  refine o_yield rfl rfl rfl (y_val tok rfl) ?_
  refine o_yield rfl rfl rfl (y_val tok rfl) ?_
  refine o_yield rfl rfl rfl (y_val tok rfl) ?_
  refine o_yield rfl rfl rfl (y_val tok rfl) ?_
  refine o_yield rfl rfl rfl (y_val tok rfl) ?_
  refine o_yield rfl rfl rfl (y_val tok rfl) ?_
  refine o_yield rfl rfl rfl (y_len tok rfl (fun hg => hK.sl)) ?_
  refine o_yield rfl rfl rfl (y_val tok rfl) ?_
  refine o_yield rfl rfl rfl (y_val tok rfl) ?_
  refine o_yield rfl rfl rfl (y_val tok rfl) ?_
  refine o_yield rfl rfl rfl (y_val tok rfl) ?_
  refine o_yield rfl rfl rfl (y_val tok rfl) ?_
  refine o_yield rfl rfl rfl (y_val tok rfl) ?_
  refine o_yield rfl rfl rfl (y_val tok rfl) ?_
  refine o_yield rfl rfl rfl (y_val tok rfl) ?_
  refine o_yield rfl rfl rfl (y_val tok rfl) ?_
  refine o_yield rfl rfl rfl (y_val tok rfl) ?_
  refine o_yield rfl rfl rfl (y_val tok rfl) ?_
  refine o_yield rfl rfl rfl (y_val tok rfl) ?_
  refine o_end [1, 3, 5, 6, 38] rfl ?_
  refine x_then ?_
  refine c_cond rfl (fun h => ?_) (fun h => ?_)
  ·
    exfalso
    simp at h
    try omega
  ·
    refine c_skip ?_
    refine x_then ?_
    refine c_seq ?_
    refine c_region ?_
    refine o_yield rfl rfl rfl (y_val tok rfl) ?_
    refine o_yield rfl rfl rfl (y_val tok rfl) ?_
    refine o_yield rfl rfl rfl (y_val tok rfl) ?_
    refine o_yield rfl rfl rfl (y_val tok rfl) ?_
    refine o_yield rfl rfl rfl (y_val tok rfl) ?_
    refine o_yield rfl rfl rfl (y_val tok rfl) ?_
    refine o_yield rfl rfl rfl (y_val tok rfl) ?_
    refine o_yield rfl rfl rfl (y_val tok rfl) ?_
    refine o_yield rfl rfl rfl (y_val tok rfl) ?_
    refine o_end [1, 3, 5, 6, 9] rfl ?_
    refine x_then ?_
    refine c_seq ?_
    refine c_seq ?_
    refine c_region ?_
    refine o_yield rfl rfl rfl (y_val tok rfl) ?_
    refine o_yield rfl rfl rfl (y_val tok rfl) ?_
    refine o_yield rfl rfl rfl (y_val tok rfl) ?_
    refine o_yield rfl rfl rfl (y_val tok rfl) ?_
    refine o_yield rfl rfl rfl (y_val tok rfl) ?_
    refine o_yield rfl rfl rfl (y_val tok rfl) ?_
    refine o_yield rfl rfl rfl (y_val tok rfl) ?_
    refine o_yield rfl rfl rfl (y_val tok rfl) ?_
    refine o_yield rfl rfl rfl (y_val tok rfl) ?_
    refine o_yield rfl rfl rfl (y_val tok rfl) ?_
    refine o_yield rfl rfl rfl (y_val tok rfl) ?_
    refine o_yield rfl rfl rfl (y_val tok rfl) ?_
    refine o_yield rfl rfl rfl (y_val tok rfl) ?_
    refine o_yield rfl rfl rfl (y_val tok rfl) ?_
    refine o_yield rfl rfl rfl (y_val tok rfl) ?_
    refine o_call (.a (.v _)) rfl rfl fnok31 rfl rfl rfl (fun hg E w1 hm => by exact hgv (by simp at hg) _) ?_
    refine o_yield rfl rfl rfl (y_val tok rfl) ?_
    refine o_yield rfl rfl rfl (y_val tok rfl) ?_
    refine o_yield rfl rfl rfl (y_val tok rfl) ?_
    refine o_yield rfl rfl rfl (y_val tok rfl) ?_
    refine o_yield rfl rfl rfl (y_val tok rfl) ?_
    refine o_yield rfl rfl rfl (y_val tok rfl) ?_
    refine o_yield rfl rfl rfl (y_val tok rfl) ?_
    refine o_yield rfl rfl rfl (y_val tok rfl) ?_
    refine o_yield rfl rfl rfl (y_val tok rfl) ?_
    refine o_yield rfl rfl rfl (y_val tok rfl) ?_
    refine o_yield rfl rfl rfl (y_val tok rfl) ?_
    refine o_yield rfl rfl rfl (y_val tok rfl) ?_
    refine o_yield rfl rfl rfl (y_val tok rfl) ?_
    refine o_end [1, 3, 5, 6, 9, 76] rfl ?_
    refine x_then ?_
    refine c_cond rfl (fun h => ?_) (fun h => ?_)
    ·
      exfalso
      simp at h
      try omega
    ·
      refine c_skip ?_
      refine x_then ?_
      refine c_seq ?_
      refine c_seq ?_
      refine c_heldR mixed rfl (by repeat (first | exact SubO.nil | refine SubO.cons rfl ?_)) (by first | rfl | simp [okCels, allOk_plain]) ?_
      refine t_take 0 rfl (by kernel_rfl) rfl rfl rfl (y_val tok rfl) rfl ?_
      refine t_take 1 rfl (by kernel_rfl) rfl rfl rfl (y_val tok rfl) rfl ?_
      refine t_take 2 rfl (by kernel_rfl) rfl rfl rfl (y_val tok rfl) rfl ?_
      refine t_take 3 rfl (by kernel_rfl) rfl rfl rfl (y_val tok rfl) rfl ?_
      refine t_take 4 rfl (by kernel_rfl) rfl rfl rfl (y_val tok rfl) rfl ?_
      refine t_take 5 rfl (by kernel_rfl) rfl rfl rfl (y_val tok rfl) rfl ?_
      refine t_take 6 rfl (by kernel_rfl) rfl rfl rfl (y_val tok rfl) rfl ?_
      refine t_take 7 rfl (by kernel_rfl) rfl rfl rfl (y_val tok rfl) rfl ?_
      have hlt_key := lt_of_at hkn
      refine t_take 8 rfl (by kernel_rfl) rfl rfl rfl (y_idx tok rfl (fun hg => hK.sl) (fun hg => ⟨by omega, by omega⟩)) rfl ?_
      refine t_take 9 rfl (by kernel_rfl) rfl rfl rfl (y_lel tok (node) 0 (key) rfl (fun hg => hK) (fun hg => hkn) rfl rfl) rfl ?_
      refine t_go ?_
      refine h_one 10 (by kernel_rfl) ?_
      refine h_bs 10 tok rfl rfl rfl rfl rfl (fun b1 W1 hlw1 hb1 => ?_)
      refine h_one 11 (by kernel_rfl) ?_
      have hfen : ∀ (f : False) b1 w, Calls Try.prog 32 #[.agg #[.slice a1 n1 c1, .slice a2 n2 c2, .slice a3 n3 c3, I nx, .slice a4 n4 c4], .slice (some ⟨b1, 0, none⟩) 1 1] w fun e w' => e = .returned (.bool false) ∧ Below w.heap.size w w' := fun f => f.elim
      refine h_call 11 (.a (.v _)) rfl rfl rfl fnok32 rfl rfl rfl (fun hg E w1 hm => by exact hfen (by simp at hg) b1 _) ?_
      refine h_one 12 (by kernel_rfl) ?_
      refine h_yield 12 rfl rfl rfl rfl (y_val tok rfl) ?_
      refine h_done [1, 3, 5, 6, 9, 90] (by kernel_rfl) rfl ?_
      refine x_then ?_
      refine c_cond rfl (fun h => ?_) (fun h => ?_)
      ·
        exfalso
        simp at h
      ·
        refine c_skip ?_
        refine x_then ?_
        refine c_seq ?_
        refine c_seq ?_
        refine c_region ?_
        refine o_yield rfl rfl rfl (y_val tok rfl) ?_
        refine o_yield rfl rfl rfl (y_val tok rfl) ?_
        refine o_yield rfl rfl rfl (y_val tok rfl) ?_
        refine o_yield rfl rfl rfl (y_val tok rfl) ?_
        refine o_yield rfl rfl rfl (y_val tok rfl) ?_
        refine o_yield rfl rfl rfl (y_val tok rfl) ?_
        refine o_yield rfl rfl rfl (y_val tok rfl) ?_
        refine o_yield rfl rfl rfl (y_val tok rfl) ?_
        refine o_yield rfl rfl rfl (y_val tok rfl) ?_
        refine o_yield rfl rfl rfl (y_val tok rfl) ?_
        refine o_yield rfl rfl rfl (y_val tok rfl) ?_
        refine o_yield rfl rfl rfl (y_val tok rfl) ?_
        refine o_yield rfl rfl rfl (y_val tok rfl) ?_
        refine o_yield rfl rfl rfl (y_val tok rfl) ?_
        refine o_yield rfl rfl rfl (y_val tok rfl) ?_
        refine o_yield rfl rfl rfl (y_len tok rfl (fun hg => (hS.mono hlw1).sl)) ?_
        refine o_yield rfl rfl rfl (y_val tok rfl) ?_
        refine o_yield rfl rfl rfl (y_val tok rfl) ?_
        refine o_yield rfl rfl rfl (y_val tok rfl) ?_
        refine o_end [1, 3, 5, 6, 110] rfl ?_
        refine x_then ?_
        refine c_cond rfl (fun h => ?_) (fun h => ?_)
        ·
          exfalso
          simp at h
          try omega
        ·
          refine c_skip ?_
          refine x_then ?_
          refine c_seq ?_
          refine c_region ?_
          refine o_yield rfl rfl rfl (y_val tok rfl) ?_
          refine o_step rfl rfl rfl rfl rfl (s_makesV (fun C V' => Copies w.heap.size V' D C) (fun _ : List (Sl Cell) => .agg [.row 3, .row 9, .row 5, .v (I nx), .row 7]) (fun C => [(3, .row 9 1 S.length (S.flatMap encS)), (9, .row 70 1 C.length (C.flatMap Sl.enc)), (5, .row 3 1 K.length (K.flatMap encI64)), (7, .row 3 1 0 [])]) 10 rfl fnok33 (fun E w1 hm => copied_c w.heap.size W1 a1 a2 a3 a4 n1 c1 n2 c2 n3 c3 n4 c4 nx S D K w1 (hm.below hlw1).size hm.leV (hS.mono hlw1) (hD.mono hlw1) (hK.mono hlw1) (hF.mono hlw1) (fun c hc => ⟨((hDc c hc).mono hV).mono hlw1, by have := hcs c hc; omega⟩) hsn (by omega) (by omega))) (fun xc hxc => ?_)
          obtain ⟨C', W2⟩ := xc
          obtain ⟨hlw2, hcp⟩ := hxc
          dsimp only at hlw2 hcp
          obtain ⟨xa, xn, xp, hxC, hnC⟩ := hcp.at (node := node) (r := []) (by rw [hDC]; exact hl)
          have hxs : SlOf W2 Cell.cells 2 (.slice xa xn xp) [] := ⟨(hcp.row _ (List.mem_of_getElem? hxC)).sl, fun _ => rfl⟩
          have hln := (hg.cs _ (List.mem_of_getElem? hl)).2
          have hk2 : IntKind.i64.wrap (IntKind.i64.wrap (16 * nx) + node) = 16 * nx + node := by rw [wrapI (n := 16 * nx) (by omega) (by omega), wrapI (by omega) (by omega)]
          have hnx : IntKind.i64.wrap (nx + 1) = nx + 1 := wrapI (by omega) (by omega)
          obtain ⟨K2, hK2⟩ : ∃ K2, K2 = (K.set node (16 * nx + node)) := ⟨_, rfl⟩
          have hK2l : K2.length = K.length := by rw [hK2, List.length_set]
          have hK2n : K2[node]? = some (16 * nx + node) := by rw [hK2, List.getElem?_set_self hnK]
          have hovK : overL (node * 1) [I (16 * nx + node)] (K.flatMap encI64) = K2.flatMap encI64 := by rw [hK2]; exact overL_set (enc := encI64) (sz := 1) (fun _ => rfl) K node (16 * nx + node) hnK
          refine o_new tok rfl rfl rfl rfl ?_
          refine o_store tok rfl rfl rfl (by first | exact ⟨trivial, trivial⟩ | (repeat' first | exact trivial | exact rfl | apply And.intro); done | simp [onesP, oneP, lk, Value.oneCell']) ?_
          refine o_end [1, 5, 6, 10] rfl ?_
          refine x_then ?_
          refine c_seq ?_
          refine c_region ?_
          refine o_yield rfl rfl rfl (y_val tok rfl) ?_
          refine o_yield rfl rfl rfl (y_val tok rfl) ?_
          refine o_yield rfl rfl rfl (y_val tok rfl) ?_
          refine o_yield rfl rfl rfl (y_own (s := .a (.rel 12 (node * 1))) 12 rfl rfl (fun v V' hv => y_idxK tok (node * 1) rfl (by simp) (fun hg => hv) (fun hg => by dsimp only; omega))) ?_
          refine o_yield rfl rfl rfl (y_own (s := .a (.v (.slice xa xn xp))) 12 rfl rfl (fun v V' hv => y_lel (enc := Sl.enc) (l := C') tok node 0 ⟨.slice xa xn xp, []⟩ rfl (fun hg => ⟨hv, fun _ => rfl⟩) (fun hg => hxC) rfl rfl)) ?_
          refine o_yield rfl rfl rfl (y_val tok rfl) ?_
          refine o_end [1, 5, 6, 10, 11] rfl ?_
          refine x_then ?_
          refine c_seq ?_
          refine c_region ?_
          refine o_yield rfl rfl rfl (y_val tok rfl) ?_
          refine o_yield rfl rfl rfl (y_val tok rfl) ?_
          refine o_yield rfl rfl rfl (y_val tok rfl) ?_
          refine o_call (.a (.v _)) rfl rfl fnok34 rfl rfl rfl (fun hg E w1 hm => by exact place_c W2 _ [] 0 _ hm.leV hxs (by simp) (by simp)) ?_
          refine o_yield rfl rfl rfl (y_val tok rfl) ?_
          refine o_end [1, 5, 6, 10, 11, 12] rfl ?_
          refine x_then ?_
          refine c_seq ?_
          refine c_seq ?_
          refine c_region ?_
          refine o_yield rfl rfl rfl (y_val tok rfl) ?_
          refine o_yield rfl rfl rfl (y_val tok rfl) ?_
          refine o_end [1, 5, 6, 10, 11, 12, 124] rfl ?_
          refine x_then ?_
          refine c_block ?_
          refine c_seq ?_
          refine c_region ?_
          refine o_yield rfl rfl rfl (y_val tok rfl) ?_
          refine o_yield rfl rfl rfl (y_val tok rfl) ?_
          refine o_end [1, 5, 6, 10, 11, 12, 124, 125] rfl ?_
          refine x_then ?_
          refine c_cond rfl (fun h => ?_) (fun h => ?_)
          ·
            exact absurd h (by decide)
          ·
            refine c_seq ?_
            refine c_region ?_
            refine o_yield rfl rfl rfl (y_val tok rfl) ?_
            refine o_yield rfl rfl rfl (y_val tok rfl) ?_
            refine o_end [1, 5, 6, 10, 11, 12, 124, 142] rfl ?_
            refine x_then ?_
            refine c_cond rfl (fun h => ?_) (fun h => ?_)
            ·
              exact absurd h (by decide)
            ·
              refine c_seq ?_
              refine c_region ?_
              refine o_yield rfl rfl rfl (y_val tok rfl) ?_
              refine o_yield rfl rfl rfl (y_val tok rfl) ?_
              refine o_end [1, 5, 6, 10, 11, 12, 124, 160] rfl ?_
              refine x_then ?_
              refine c_cond rfl (fun h => ?_) (fun h => ?_)
              ·
                exact absurd h (by decide)
              ·
                refine c_seq ?_
                refine c_region ?_
                refine o_yield rfl rfl rfl (y_val tok rfl) ?_
                refine o_yield rfl rfl rfl (y_val tok rfl) ?_
                refine o_end [1, 5, 6, 10, 11, 124, 182] rfl ?_
                refine x_then ?_
                refine c_cond rfl (fun h => ?_) (fun h => ?_)
                ·
                  exact absurd h (by decide)
                ·
                  refine c_seq ?_
                  refine c_region ?_
                  refine o_yield rfl rfl rfl (y_val tok rfl) ?_
                  refine o_yield rfl rfl rfl (y_val tok rfl) ?_
                  refine o_end [1, 5, 6, 10, 124, 204] rfl ?_
                  refine x_then ?_
                  refine c_cond rfl (fun h => ?_) (fun h => ?_)
                  ·
                    exact absurd h (by decide)
                  ·
                    refine c_seq ?_
                    refine c_region ?_
                    refine o_yield rfl rfl rfl (y_val tok rfl) ?_
                    refine o_yield rfl rfl rfl (y_val tok rfl) ?_
                    refine o_end [1, 6, 10, 212] rfl ?_
                    refine x_then ?_
                    refine c_cond rfl (fun h => ?_) (fun h => ?_)
                    ·
                      refine c_seq ?_
                      refine c_region ?_
                      refine o_yield rfl rfl rfl (y_val tok rfl) ?_
                      refine o_yield rfl rfl rfl (y_val tok rfl) ?_
                      refine o_yield rfl rfl rfl (y_val tok rfl) ?_
                      refine o_yield rfl rfl rfl (y_val tok rfl) ?_
                      refine o_yield rfl rfl rfl (y_val tok rfl) ?_
                      refine o_yield rfl rfl rfl (y_val tok rfl) ?_
                      refine o_yield rfl rfl rfl (y_val tok rfl) ?_
                      refine o_yield rfl rfl rfl (y_val tok rfl) ?_
                      rw [hk2]
                      refine o_yield rfl rfl rfl (y_own (s := .a (.rel 8 (node * 1))) 8 rfl rfl (fun v V' hv => y_idxK tok (node * 1) rfl (by simp) (fun hg => hv) (fun hg => by first | omega | (dsimp only; omega)))) ?_
                      refine o_stepN rfl rfl rfl rfl (s_rst tok rfl rfl (by intro u hu; simp only [List.mem_singleton] at hu; subst hu; rfl) (by simp only [List.length_singleton]; first | omega | (dsimp only; omega)) (by first | omega | (dsimp only; omega))) (fun _ _ => ?_)
                      refine o_end [1, 6, 10] rfl ?_
                      refine x_then ?_
                      refine c_seq ?_
                      rw [hovK, ← hK2l]
                      refine c_region ?_
                      refine o_yield rfl rfl rfl (y_val tok rfl) ?_
                      refine o_yield rfl rfl rfl (y_val tok rfl) ?_
                      refine o_yield rfl rfl rfl (y_val tok rfl) ?_
                      refine o_yield rfl rfl rfl (y_val tok rfl) ?_
                      refine o_store tok rfl rfl rfl (by first | exact ⟨trivial, trivial⟩ | (repeat' first | exact trivial | exact rfl | apply And.intro); done | simp [onesP, oneP, lk, Value.oneCell']) ?_
                      refine o_end [1, 6, 10] rfl ?_
                      refine x_then ?_
                      refine c_seq ?_
                      refine c_region ?_
                      refine o_yield rfl rfl rfl (y_val tok rfl) ?_
                      refine o_yield rfl rfl rfl (y_val tok rfl) ?_
                      refine o_yield rfl rfl rfl (y_val tok rfl) ?_
                      rw [hnx]
                      refine o_yield rfl rfl rfl (y_own (s := .a (.rel 12 (node * 1))) 12 rfl rfl (fun v V' hv => y_idxK tok (node * 1) rfl (by simp) (fun hg => hv) (fun hg => by first | omega | (dsimp only; omega)))) ?_
                      refine o_stepN rfl rfl rfl rfl (s_rst tok rfl rfl (by intro u hu; simp only [List.mem_singleton] at hu; subst hu; rfl) (by simp only [List.length_singleton]; first | omega | (dsimp only; omega)) (by first | omega | (dsimp only; omega))) (fun _ _ => ?_)
                      refine o_end [1, 6, 10] rfl ?_
                      refine x_then ?_
                      refine c_seq ?_
                      refine c_region ?_
                      refine o_yield rfl rfl rfl (y_val tok rfl) ?_
                      refine o_yield rfl rfl rfl (y_val tok rfl) ?_
                      refine o_yield rfl rfl rfl (y_val tok rfl) ?_
                      refine o_yield rfl rfl rfl (y_own (s := .a (.rel 8 (node * 1))) 8 rfl rfl (fun v V' hv => y_idxK tok (node * 1) rfl (by simp) (fun hg => hv) (fun hg => by first | omega | (dsimp only; omega)))) ?_
                      refine o_yield rfl rfl rfl (y_own (s := .a (.v (I (16 * nx + node)))) 8 rfl rfl (fun v V' hv => y_lel (enc := encI64) (l := K2) tok node 0 (16 * nx + node) rfl (fun hg => ⟨hv, fun _ => rfl⟩) (fun hg => hK2n) rfl rfl)) ?_
                      refine o_bs tok rfl rfl rfl rfl (fun b5 W5 hlw5 hb5 => ?_)
                      have hk5 : SlOf W5 encI64 1 (.slice (some ⟨b5, 0, none⟩) 1 1) [16 * nx + (node : Int)] := SlOf.ofBlock (enc := encI64) (sz := 1) (l := [16 * nx + (node : Int)]) (hb5 rfl) rfl (fun _ => rfl) (Nat.le_refl _)
                      refine o_callV (fun v V' => ∃ a m c er bl, v = .tuple #[.slice a m c, I er] ∧ SlOf V' encByte 1 (.slice a m c) bl) rfl rfl fnok37 rfl rfl (fun hg E w1 hm => by exact put1_cV W5 6 _ _ _ hm.leV hk5) ?_
                      rintro v6 W6 hlw6 hv6
                      obtain ⟨a6, m6, c6, er, bl, rfl, hs6⟩ := hv6 rfl
                      refine o_yield rfl rfl rfl (y_val tok rfl) ?_
                      refine o_yield rfl rfl rfl (y_val tok rfl) ?_
                      refine o_yield rfl rfl rfl (y_val tok rfl) ?_
                      refine o_yield rfl rfl rfl (y_val tok rfl) ?_
                      refine o_yield rfl rfl rfl (y_val tok rfl) ?_
                      refine o_end [6, 10, 13] rfl ?_
                      refine x_then ?_
                      refine c_seq ?_
                      refine c_held [] ([(0, .lit [.v (.slice a1 n1 c1), .v (.slice a2 n2 c2), .v (.slice a3 n3 c3), .v (I nx), .v (.slice a4 n4 c4)] 35), (1, .lit [.v (I8 6), .v (I 0), .v (.string ByteArray.empty), .v (I 0)] 45), (6, .row 9 1 S.length (S.flatMap encS)), (8, .row 3 1 K2.length (K2.flatMap encI64)), (10, .row 3 1 0 []), (12, .row 70 1 C'.length (overL (node * 1) [.slice none 0 0] (C'.flatMap Sl.enc))), (13, .lit [.row 6, .row 12, .row 8, .v (I (nx + 1)), .row 10] 35)]) mixed (by repeat (first | exact SubO.nil | refine SubO.cons rfl ?_)) (by first | rfl | simp [okCels, allOk_plain]) ?_
                      refine t_take 0 rfl (by kernel_rfl) rfl rfl rfl (y_val tok rfl) rfl ?_
                      refine t_take 1 rfl (by kernel_rfl) rfl rfl rfl (y_val tok rfl) rfl ?_
                      refine t_take 2 rfl (by kernel_rfl) rfl rfl rfl (y_b2s tok bl rfl (fun hg => hs6.sl)) rfl ?_
                      refine t_go ?_
                      refine h_one 3 (by kernel_rfl) ?_
                      refine h_store 3 tok rfl rfl rfl rfl (by first | exact ⟨trivial, trivial⟩ | (repeat' first | exact trivial | exact rfl | apply And.intro); done | simp [onesP, oneP, lk, Value.oneCell']) (.inr ⟨(by repeat (first | exact SubO.nil | refine SubO.cons rfl ?_)), rfl, (by first | exact Vw.le.refl _ | assumption)⟩) ?_
                      refine h_one 4 (by kernel_rfl) ?_
                      refine h_yield 4 rfl rfl rfl rfl (y_val tok rfl) ?_
                      refine h_one 5 (by kernel_rfl) ?_
                      refine h_yield 5 rfl rfl rfl rfl (y_val tok rfl) ?_
                      refine h_done [6, 7, 8] (by kernel_rfl) rfl ?_
                      refine x_then ?_
                      refine c_ret ?_
                      refine x_block_ret ?_
                      refine x_then_ret ?_
                      refine b_ret tok rfl ?_
                      intro E w' hm _
                      have hle26 := hlw5.trans hlw6
                      have hleF := (hlw1.trans hlw2).trans hle26
                      have hbw := hm.below hleF
                      have hov := overL_set (enc := Sl.enc) (sz := 1) (fun _ => rfl) C' node ⟨.slice none 0 0, []⟩ hnC
                      have hfd := fin_dev (V := V) (S := S) (D := C'.set node ⟨.slice none 0 0, []⟩) (K := K2) hm hleF 6 12 8 10 (nx + 1) rfl rfl rfl rfl ⟨rfl, rfl⟩ ⟨by rw [List.length_set], hov⟩ ⟨rfl, rfl⟩ (fun c hc => by
                        rcases mem_set hc with rfl | ⟨i, hi, hci⟩
                        · exact slNil _ _ _ _ (fun _ => rfl)
                        · exact ((⟨(hcp.row c (List.mem_of_getElem? hci)).sl, fun _ => rfl⟩ : SlOf W2 Cell.cells 2 c.v c.l).mono hle26).newIn (hcp.new c (List.mem_of_getElem? hci)) (NewIn.grown hm))
                      have hCn : C.set node [] = C := by
                        apply List.ext_getElem?
                        intro i
                        by_cases hi : i = node
                        · rw [hi, List.getElem?_set_self (List.getElem?_eq_some_iff.1 hl).1, hl]
                        · rw [List.getElem?_set_ne (fun e => hi e.symm)]
                      rw [map_set', hcp.same, hDC, hCn, hK2] at hfd
                      exact ⟨_, V.grown w w', rfl, hbw, Vext.grown hV hbw, _, _, rfl, hfd⟩
                    ·
                      exact absurd h (by decide)
end Go.Proofs.Ytipmgnhbcaniiaa
