/-
  Rows of one's own made shorter: pieces put in within their room, cells cleared.
-/
import Derived.Test.YtikdaehmaaogdaaEng33
set_option linter.unusedSimpArgs false
set_option linter.unusedVariables false
namespace Go.Eng
open Go Go.RowKit

theorem ownsRow_cut {w : World} {b e sz n : Nat} {v : Value} {xs : List Value} (h : w.ownsRow b e sz v n xs) {i : Nat} (hi : i ≤ n) : w.ownsRow b e sz (sliceV v 0 i sz) i (xs.take (i * sz)) := by
  have hle : i * sz ≤ n * sz := Nat.mul_le_mul_right _ hi
  refine ⟨by rw [List.length_take, h.1]; omega, ?_⟩
  rcases h.2 with ⟨rfl, rfl⟩ | ⟨g, cap, cur, rfl, h1, h2, h3, h4, h5, h6⟩
  · have : i = 0 := by omega
    subst this
    exact .inl ⟨rfl, rfl⟩
  · refine .inr ⟨g, cap, cur, ?_, h1, h2, by omega, h4, h5, by rw [← h6, List.take_take]; congr 1; omega⟩
    simp only [sliceV]
    by_cases hc : cap = 0 <;> simp [hc, Addr.add]

section
variable {P : Program} {tt : List (Nat × TI)} {ops : Array Oper} {Q : Exit → Act → World → Prop} {o : Oper} {rest : List Oper}
  {n : Nat} {F : Frame0} {C : List Nat} {O : Own} {nl : Nat} {V : Vw} {K : Act → World → Prop}

def evalClB (F : Frame0) (p : List (Nat × Bool)) : Op → Option (Nat × SV)
  | .call ⟨.builtin .clear, args, ts⟩ => match args.toList, ts.toList with
    | [x], [t] => (opv F p x).map fun s => (t, s)
    | _, _ => none
  | _ => none

theorem s_clB {p : List (Nat × Bool)} {t : Nat} {s1 : SV} {σ : Type} {Φ : σ → Prop} {O' : σ → Own} {nl' : Nat} {V' : σ → Vw} (hv : evalClB F p o.op = some (t, s1)) (hd : o.dst = none)
    (hrun : ∀ E w, Mem E O nl V w → ∃ x E' w', (Builtin.clear_ #[t] o.type #[s1.den E]).run P w = .ok (.tuple #[]) w' ∧ Φ x ∧ E.agree nl E' ∧ Mem E' (O' x) nl' (V' x) w') :
    StepTo P o p n F C O nl V Φ (fun _ => .a (.v (.tuple #[]))) O' nl' V' := by
  constructor
  intro E a w hf hgv hm K Q hK
  unfold Oper.wp execOp
  cases hop : o.op with
  | call c =>
    obtain ⟨callee, args, ts⟩ := c
    simp only [hop] at hv
    cases callee with
    | builtin b =>
      cases b with
      | clear =>
        simp only [evalClB] at hv
        split at hv
        · rename_i x t' hargs hts
          have ha : args = #[x] := by simpa using congrArg List.toArray hargs
          have ht : ts = #[t'] := by simpa using congrArg List.toArray hts
          subst ha ht
          simp only [Option.map_eq_some_iff, Prod.mk.injEq] at hv
          obtain ⟨u1, hx, rfl, rfl⟩ := hv
          obtain ⟨h1, _⟩ := opv_sound hf hgv hx
          obtain ⟨z, E', w', hr, hΦ, hag, hm'⟩ := hrun E w hm
          have h1' : a.eval x = u1.den E := h1
          simp only [resolve, invoke, builtin, Sem.run_bind, Sem.run_pure, Result.andThen_ok, List.map_toArray, List.map_cons, List.map_nil, h1', hr]
          have := hK z E' w' hΦ hag hm' rfl
          show K (a.put o.dst (.tuple #[])) w'
          simpa [SV.den, A.den] using this
        · simp at hv
      | _ => simp [evalClB] at hv
    | _ => simp [evalClB] at hv
  | _ => simp [hop, evalClB] at hv

theorem run_clear_own {w : World} {t e ty g off m c sz : Nat} {z : Value} {cur : Array Value} (hu : P.underlying t = some (.slice e)) (hz : (zeroValue e).run P w = .ok z w) (hzs : z.cells.size = sz) (hz1 : ∀ u ∈ z.cells.toList, u.oneCell' = true)
    (hg : w.heap[g]? = some (.cells cur e (0, 0))) (hm : 0 < m) (hb : off + m * sz ≤ cur.size) :
    ∃ zs : List Value, zs.length = m * sz ∧ (∀ u ∈ zs, u.oneCell' = true) ∧ (Builtin.clear_ #[t] ty #[.slice (some ⟨g, off, none⟩) m c]).run P w = .ok (.tuple #[]) (w.setRow g (overL off zs cur.toList).toArray) := by
  refine ⟨(Builtin.zeroCells z.cells m).toList, by rw [Array.length_toList, zeroCells_size, hzs], ?_, ?_⟩
  · intro u hu
    simp only [Builtin.zeroCells, Array.toList_map, List.mem_map] at hu
    obtain ⟨i, hi, rfl⟩ := hu
    have h0 : 0 < z.cells.size := by
      rcases Nat.eq_zero_or_pos z.cells.size with h | h
      · simp [h] at hi
      · exact h
    have hlt := Nat.mod_lt i h0
    rw [getElem!_pos z.cells _ hlt]
    exact hz1 _ (by simp)
  · have hlen : (Builtin.zeroCells z.cells m).toList.length = m * sz := by rw [Array.length_toList, zeroCells_size, hzs]
    have hst := run_storeCells_at P g off e (Builtin.zeroCells z.cells m).toList 0 cur w hg (by rw [hlen]; omega) (by
      intro u hu
      simp only [Builtin.zeroCells, Array.toList_map, List.mem_map] at hu
      obtain ⟨i, hi, rfl⟩ := hu
      have h0 : 0 < z.cells.size := by
        rcases Nat.eq_zero_or_pos z.cells.size with h | h
        · simp [h] at hi
        · exact h
      have hlt := Nat.mod_lt i h0
      rw [getElem!_pos z.cells _ hlt]
      exact hz1 _ (by simp))
    simp only [Nat.add_zero] at hst
    obtain ⟨m, rfl⟩ : ∃ k, m = k + 1 := ⟨m - 1, by omega⟩
    simp [Builtin.clear_, run_underlying hu, hz, hst, overL]

/-- A row's tail cleared, where the row's value is kept. -/
theorem s_clearP (htt : TTok P tt) {p : List (Nat × Bool)} {l q b t e m lo : Nat} {ti : TI} {v : Value} {xs : List Value} (hte : sliceTI tt t = some (e, ti)) (hv : evalClB F p o.op = some (t, .a (.v (sliceV v lo m ti.size)))) (hd : o.dst = none)
    (hzl : ti.zero.length = ti.size) (hz1 : ∀ u ∈ ti.zero, u.oneCell' = true) (hl : lk O l = some (.row e ti.size m xs)) (hk : lk O q = some (.keep l b v)) (hlo : lo ≤ m) :
    StepTo P o p n F C O nl V (σ := List Value) (fun zs => zs.length = (m - lo) * ti.size) (fun _ => .a (.v (.tuple #[]))) (fun zs => (l, .row e ti.size m (overL (lo * ti.size) zs xs)) :: O) nl (fun _ => V) := by
  refine s_clB hv hd fun E w hm => ?_
  obtain ⟨hu, hti⟩ := sliceTI_sound htt hte
  obtain ⟨fi, hfi, hfs, hfb, z, hz, hzc⟩ := hti.info
  have hrow := hm.row _ _ _ _ _ hl
  have hkp := (hm.kp _ _ _ _ hk).2.1
  by_cases hlm : lo = m
  · subst hlm
    have he : (Builtin.clear_ #[t] o.type #[(SV.a (.v (sliceV v lo lo ti.size))).den E]).run P w = .ok (.tuple #[]) w := by
      show (Builtin.clear_ #[t] o.type #[sliceV v lo lo ti.size]).run P w = _
      rw [← hkp]
      rcases hrow.2 with ⟨h1, h2⟩ | ⟨g, cap, cur, h1, _⟩
      · rw [h1]
        simp [sliceV, Builtin.clear_, run_underlying hu]
      · rw [h1]
        simp only [sliceV, Nat.sub_self]
        split <;> simp [Builtin.clear_, run_underlying hu]
    refine ⟨[], E, w, he, by simp, fun _ _ => ⟨rfl, rfl⟩, ?_⟩
    have : overL (lo * ti.size) [] xs = xs := by simp [overL]
    rw [this]
    exact hm.dup hl
  · rcases hrow.2 with ⟨h1, h2⟩ | ⟨g, cap, cur, hvv, _, hgg, hmc, hcm, hcs, hcur⟩
    · omega
    · have hz0 : (zeroValue e).run P w = .ok z w := by simp [zeroValue, typeInfo, hfi, hz]
      have hle2 : m * ti.size ≤ cap * ti.size := Nat.mul_le_mul_right _ hmc
      have hsum : lo * ti.size + (m - lo) * ti.size = m * ti.size := by rw [← Nat.add_mul]; congr 1; omega
      obtain ⟨zs, hzl2, hzo, hr⟩ := run_clear_own (P := P) (w := w) (t := t) (ty := o.type) (off := lo * ti.size) (m := m - lo) (c := cap - lo) (sz := ti.size) hu hz0 (by rw [← hzl, ← hzc]; simp) (by rw [hzc]; exact hz1) hgg (by omega) (by omega)
      have hsl : sliceV v lo m ti.size = .slice (some ⟨g, lo * ti.size, none⟩) (m - lo) (cap - lo) := by
        rw [← hkp, hvv]
        simp only [sliceV]
        rw [if_neg (by omega)]
        simp [Addr.add_lit]
      have hown := ownsRow_over (e := e) (off := lo * ti.size) (news := zs) hrow.1 hvv hgg hmc hcm hcs hcur (by omega)
      have hb : (E.κ l).ownBlock = some g := by rw [hvv]; rfl
      refine ⟨zs, E, _, ?_, hzl2, fun _ _ => ⟨rfl, rfl⟩, hm.setRowO hl hb hgg hown⟩
      show (Builtin.clear_ #[t] o.type #[sliceV v lo m ti.size]).run P w = _
      rw [hsl, hr]
      rfl

/-- Cells put behind a row's first ones, within its room, where the row's value is kept. -/
theorem s_apC (htt : TTok P tt) {p : List (Nat × Bool)} {l q b t t2 e m i k : Nat} {ti : TI} {v sv : Value} {xs : List Value} (news : List Value) (hte : sliceTI tt t = some (e, ti)) (hv : evalApB F p o.op = some (t, t2, .a (.v (sliceV v 0 i ti.size)), .a (.v sv)))
    (hte2 : sliceTI tt t2 = some (e, ti)) (hl : lk O l = some (.row e ti.size m xs)) (hk : lk O q = some (.keep l b v)) (hsrc : ∀ E w, Mem E O nl V w → Src P ti.size sv k news w) (h1 : ∀ u ∈ news, u.oneCell' = true)
    (hik : i + k ≤ m) (hm0 : 0 < m) :
    StepTo P o p n F C O nl V (σ := Unit) (fun _ => True) (fun _ => .a (.v (sliceV v 0 (i + k) ti.size))) (fun _ => (l, .row e ti.size m (overL (i * ti.size) news xs)) :: O) nl (fun _ => V) := by
  refine s_apB hv fun E w hm => ?_
  obtain ⟨hu, hti⟩ := sliceTI_sound htt hte
  obtain ⟨hu2, _⟩ := sliceTI_sound htt hte2
  obtain ⟨fi, hfi, hfs, hfb, z, hz, hzc⟩ := hti.info
  have hrow := hm.row _ _ _ _ _ hl
  have hkp := (hm.kp _ _ _ _ hk).2.1
  have hsr := hsrc E w hm
  rcases hrow.2 with ⟨h1, h2⟩ | ⟨g, cap, cur, hvv, _, hgg, hmc, hcm, hcs, hcur⟩
  · omega
  · have hle2 : m * ti.size ≤ cap * ti.size := Nat.mul_le_mul_right _ hmc
    have hsum : i * ti.size + k * ti.size ≤ m * ti.size := by rw [← Nat.add_mul]; exact Nat.mul_le_mul_right _ hik
    have hns := hsr.size
    have hsl : ∀ j, sliceV v 0 j ti.size = .slice (some ⟨g, 0, none⟩) j cap := fun j => by
      rw [← hkp, hvv]
      simp only [sliceV]
      by_cases hc : cap = 0 <;> simp [hc, Addr.add]
    have hr := run_app_room (P := P) (w := w) (t := t) (t2 := t2) (ty := o.type) (e := e) (i := fi) (g := g) (n := i) (cap := cap) (cur := cur) (x := sv) (m := k) (news := news) hu hu2 (.inr ⟨e, rfl⟩) hfi hgg (by rw [hfs]; exact hsr) h1 (by omega) (by rw [hfs]; omega)
    have hown := ownsRow_over (e := e) (off := i * ti.size) (news := news) hrow.1 hvv hgg hmc hcm hcs hcur (by omega)
    have hb : (E.κ l).ownBlock = some g := by rw [hvv]; rfl
    refine ⟨(), E, _, ?_, trivial, fun _ _ => ⟨rfl, rfl⟩, hm.setRowO hl hb hgg hown, rfl⟩
    show (Builtin.append_ #[t, t2] o.type #[sliceV v 0 i ti.size, sv]).run P w = _
    rw [hsl, hr, hfs]
    show _ = Result.ok (sliceV v 0 (i + k) ti.size) _
    rw [hsl]
def capTo : Value → Nat → Value
  | .slice a n _, c => .slice a n c
  | v, _ => v

/-- A piece with a bound of its capacity. -/
def evalSl4 (tt : List (Nat × TI)) (F : Frame0) (p : List (Nat × Bool)) : Op → Option (Value × Int × Int × Int × Nat)
  | .slice t x (some lo) (some hi) (some mx) => match opv F p x, opv F p lo, opv F p hi, opv F p mx, lk tt t with
    | some (.a (.v v)), some (.a (.v (.int _ l))), some (.a (.v (.int _ h))), some (.a (.v (.int _ m))), some ⟨_, _, _, _, .slice e⟩ => match lk tt e with
      | some ti => some (v, l, h, m, ti.size)
      | none => none
    | _, _, _, _, _ => none
  | _ => none

theorem y_sl4 (htt : TTok P tt) {p : List (Nat × Bool)} {g : Bool} {v : Value} {lo hi mx : Int} {sz m : Nat} {xs : List Value}
    (hv : evalSl4 tt F p o.op = some (v, lo, hi, mx, sz)) (hs : g = true → IsSl V v sz m xs) (hb : g = true → 0 ≤ lo ∧ lo ≤ hi ∧ hi ≤ mx ∧ mx ≤ m) :
    Yld P o n F C O nl V p g (.a (.v (sliceV (capTo v mx.toNat) lo.toNat hi.toNat sz))) := by
  intro hgt E a w hf hgv hm
  refine ⟨?_, rfl⟩
  unfold Yv execOp
  cases hop : o.op with
  | slice t x lo' hi' mx' =>
    cases lo' with
    | none => simp [hop, evalSl4] at hv
    | some lo' =>
    cases hi' with
    | none => simp [hop, evalSl4] at hv
    | some hi' =>
    cases mx' with
    | none => simp [hop, evalSl4] at hv
    | some mx' =>
    simp only [hop, evalSl4] at hv
    split at hv
    · rename_i v' k0 l k1 h k2 m' sz' by_ z fl e hx hl hh hm2 hti
      split at hv
      · rename_i ti hte
        simp only [Option.some.injEq, Prod.mk.injEq] at hv
        obtain ⟨rfl, rfl, rfl, rfl, rfl⟩ := hv
        obtain ⟨h1, _⟩ := opv_sound hf hgv hx
        obtain ⟨h0, _⟩ := opv_sound hf hgv hl
        obtain ⟨h2, _⟩ := opv_sound hf hgv hh
        obtain ⟨h3, _⟩ := opv_sound hf hgv hm2
        obtain ⟨dd, hdd, hk, _⟩ := (htt _ _ hti).und
        have hdb : dd = .slice e := by cases dd <;> simp [kindOf] at hk; rw [hk]
        subst hdb
        obtain ⟨b0, b1, b2, b3⟩ := hb hgt
        have hsh : ∃ ad cap, v' = .slice ad m cap ∧ m ≤ cap := by
          rcases (hs hgt).2 with ⟨ad, cc, rfl, rfl⟩ | ⟨b, off, cap, cs, e', fz, rfl, _, _, _, hc⟩
          · exact ⟨ad, cc, rfl, Nat.zero_le _⟩
          · exact ⟨_, cap, rfl, hc⟩
        obtain ⟨ad, cap, rfl, hcap⟩ := hsh
        have e1 : a.eval x = .slice ad m cap := h1
        have e0 : a.eval lo' = .int k0 l := h0
        have e2 : a.eval hi' = .int k1 h := h2
        have e3 : a.eval mx' = .int k2 m' := h3
        have q0 : (l.toNat : Int) = l := Int.toNat_of_nonneg b0
        have q1 : (h.toNat : Int) = h := Int.toNat_of_nonneg (by omega)
        have q2 : (m'.toNat : Int) = m' := Int.toNat_of_nonneg (by omega)
        have hrun : (Instr.slice t (.slice ad m cap) (some (.int k0 l)) (some (.int k1 h)) (some (.int k2 m'))).run P w = .ok (sliceV (.slice ad m m'.toNat) l.toNat h.toNat ti.size) w := by
          simp only [Instr.slice, Instr.sliceBounds, Sem.run_bind, run_underlying hdd, Result.andThen_ok, Sem.run_pure, (htt _ _ hte).sizeOf]
          simp [run_sliceBound, (by omega : 0 ≤ m'), (by omega : m' ≤ (cap : Int)), (by omega : 0 ≤ h), b0, b1, b2, q0, q1, q2, sliceV, (htt _ _ hte).sizeOf]
        simp only [Option.map_some, e0, e1, e2, e3, Instr.sliceAt, Sem.run_bind, run_underlying hdd, Result.andThen_ok, hrun, Sem.run_pure, SV.den, A.den, capTo]
      · simp at hv
    · simp at hv
  | _ => simp [hop, evalSl4] at hv
theorem sliceV_twice {v : Value} {j lo hi sz : Nat} : sliceV (sliceV v 0 j sz) lo hi sz = sliceV v lo hi sz := by
  cases v with
  | slice a m c =>
    simp only [sliceV, Nat.sub_zero, Nat.zero_mul]
    have : (if c = 0 then a else a.map fun x => x.add 0) = a := by
      by_cases hc : c = 0
      · simp [hc]
      · cases a <;> simp [hc, Addr.add]
    rw [this]
  | _ => rfl

/-- A piece behind a piece's end, within the row that it is of. -/
theorem y_sl5 (htt : TTok P tt) {p : List (Nat × Bool)} {g : Bool} {v : Value} {lo hi : Int} {j sz m : Nat} {xs : List Value}
    (hv : evalSl tt F p o.op = some (sliceV v 0 j sz, some lo, some hi, sz)) (hs : g = true → IsSl V v sz m xs) (hb : g = true → 0 ≤ lo ∧ lo ≤ hi ∧ hi ≤ m) :
    Yld P o n F C O nl V p g (.a (.v (sliceV v lo.toNat hi.toNat sz))) := by
  intro hgt E a w hf hgv hm
  refine ⟨?_, rfl⟩
  unfold Yv execOp
  cases hop : o.op with
  | slice t x lo' hi' mx =>
    cases mx with
    | some mx => simp [hop, evalSl] at hv
    | none =>
    simp only [hop, evalSl] at hv
    split at hv
    · rename_i v' l h sz' by_ z fl e hx hl hh hti
      split at hv
      · rename_i ti hte
        simp only [Option.some.injEq, Prod.mk.injEq] at hv
        obtain ⟨rfl, rfl, rfl, rfl⟩ := hv
        obtain ⟨h1, _⟩ := opv_sound hf hgv hx
        obtain ⟨dd, hdd, hk, _⟩ := (htt _ _ hti).und
        have hdb : dd = .slice e := by cases dd <;> simp [kindOf] at hk; rw [hk]
        subst hdb
        obtain ⟨b0, b1, b2⟩ := hb hgt
        have hsh : ∃ ad cap, v = .slice ad m cap ∧ m ≤ cap := by
          rcases (hs hgt).2 with ⟨ad, cc, rfl, rfl⟩ | ⟨b, off, cap, cs, e', fz, rfl, _, _, _, hc⟩
          · exact ⟨ad, cc, rfl, Nat.zero_le _⟩
          · exact ⟨_, cap, rfl, hc⟩
        obtain ⟨ad, cap, rfl, hcap⟩ := hsh
        have e1 : a.eval x = sliceV (.slice ad m cap) 0 j ti.size := h1
        have hform : sliceV (.slice ad m cap) 0 j ti.size = .slice ad j cap := by
          simp only [sliceV, Nat.sub_zero, Nat.zero_mul]
          by_cases hc : cap = 0
          · simp [hc]
          · cases ad <;> simp [hc, Addr.add]
        rcases optI_sound hf hgv hl with ⟨h9, _⟩ | ⟨kl, il, hil, el⟩
        · cases h9
        rcases optI_sound hf hgv hh with ⟨h9, _⟩ | ⟨kh, ih, hih, eh⟩
        · cases h9
        cases hil
        cases hih
        have e0 : (lo.toNat : Int) = lo := Int.toNat_of_nonneg (by omega)
        have e2 : (hi.toNat : Int) = hi := Int.toNat_of_nonneg (by omega)
        have hrun : (Instr.slice t (.slice ad j cap) (lo'.map a.eval) (hi'.map a.eval) none).run P w = .ok (sliceV (.slice ad m cap) lo.toNat hi.toNat ti.size) w := by
          rw [el, eh]
          simp [Instr.slice, run_underlying hdd, Instr.sliceBounds, (htt _ _ hte).sizeOf, sliceV, run_sliceBound, b0, b1, (by omega : 0 ≤ hi), (by omega : hi ≤ cap), e2]
        simp only [Option.map_none, e1, hform, Instr.sliceAt, Sem.run_bind, run_underlying hdd, Result.andThen_ok, hrun, Sem.run_pure, SV.den, A.den]
      · simp at hv
    · simp at hv
  | _ => simp [hop, evalSl] at hv
end
end Go.Eng
