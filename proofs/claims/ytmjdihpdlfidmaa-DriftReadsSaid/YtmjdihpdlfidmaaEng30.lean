/-
  Builtins on slices whose blocks are one's own and known by number: copies, appends; a library function without a body.
-/
import Derived.Test.YtmjdihpdlfidmaaEng29
import Derived.Lib.AppendZerosOnto
import Derived.Lib.Overlaps
set_option linter.unusedSimpArgs false
set_option linter.unusedVariables false
namespace Go.Eng
open Go Go.RowKit

section
variable {P : Program} {tt : List (Nat × TI)} {ops : Array Oper} {Q : Exit → Act → World → Prop} {o : Oper} {rest : List Oper}
  {n : Nat} {F : Frame0} {C : List Nat} {O : Own} {nl : Nat} {V : Vw} {K : Act → World → Prop}

theorem allOk_plain (nl : Nat) (l : List Value) : allOk nl (l.map A.v) = true := (den_plain E0 l).2 nl

def evalCpB (F : Frame0) (p : List (Nat × Bool)) : Op → Option (Nat × Nat × SV × SV)
  | .call ⟨.builtin .copy, args, ts⟩ => match args.toList, ts.toList with
    | [x, y], [t, t2] => match opv F p x, opv F p y with
      | some s, some s2 => some (t, t2, s, s2)
      | _, _ => none
    | _, _ => none
  | _ => none

def evalApB (F : Frame0) (p : List (Nat × Bool)) : Op → Option (Nat × Nat × SV × SV)
  | .call ⟨.builtin .append, args, ts⟩ => match args.toList, ts.toList with
    | [x, y], [t, t2] => match opv F p x, opv F p y with
      | some s, some s2 => some (t, t2, s, s2)
      | _, _ => none
    | _, _ => none
  | _ => none

theorem s_cpB {p : List (Nat × Bool)} {t t2 : Nat} {s1 s2 : SV} {σ : Type} {Φ : σ → Prop} {s : σ → SV} {O' : σ → Own} {nl' : Nat} {V' : σ → Vw} (hv : evalCpB F p o.op = some (t, t2, s1, s2))
    (hrun : ∀ E w, Mem E O nl V w → ∃ x E' w', (Builtin.copy_ #[t, t2] o.type #[s1.den E, s2.den E]).run P w = .ok ((s x).den E') w' ∧ Φ x ∧ E.agree nl E' ∧ Mem E' (O' x) nl' (V' x) w' ∧ (s x).ok nl' = true) :
    StepTo P o p n F C O nl V Φ s O' nl' V' := by
  constructor
  intro E a w hf hgv hm K Q hK
  unfold Oper.wp execOp
  cases hop : o.op with
  | call c =>
    obtain ⟨callee, args, ts⟩ := c
    simp only [hop] at hv
    cases callee with
    | builtin b =>
      cases b with
      | copy =>
        simp only [evalCpB] at hv
        split at hv
        · rename_i x y t' t2' hargs hts
          have ha : args = #[x, y] := by simpa using congrArg List.toArray hargs
          have ht : ts = #[t', t2'] := by simpa using congrArg List.toArray hts
          subst ha ht
          split at hv
          · rename_i u1 u2 hx hy
            simp only [Option.some.injEq, Prod.mk.injEq] at hv
            obtain ⟨rfl, rfl, rfl, rfl⟩ := hv
            obtain ⟨h1, _⟩ := opv_sound hf hgv hx
            obtain ⟨h2, _⟩ := opv_sound hf hgv hy
            obtain ⟨z, E', w', hr, hΦ, hag, hm', hok⟩ := hrun E w hm
            simp only [resolve, invoke, builtin, Sem.run_bind, Sem.run_pure, Result.andThen_ok, List.map_toArray, List.map_cons, List.map_nil, h1, h2, hr]
            exact hK z E' w' hΦ hag hm' hok
          · simp at hv
        · simp at hv
      | _ => simp [evalCpB] at hv
    | _ => simp [evalCpB] at hv
  | _ => simp [hop, evalCpB] at hv

theorem s_apB {p : List (Nat × Bool)} {t t2 : Nat} {s1 s2 : SV} {σ : Type} {Φ : σ → Prop} {s : σ → SV} {O' : σ → Own} {nl' : Nat} {V' : σ → Vw} (hv : evalApB F p o.op = some (t, t2, s1, s2))
    (hrun : ∀ E w, Mem E O nl V w → ∃ x E' w', (Builtin.append_ #[t, t2] o.type #[s1.den E, s2.den E]).run P w = .ok ((s x).den E') w' ∧ Φ x ∧ E.agree nl E' ∧ Mem E' (O' x) nl' (V' x) w' ∧ (s x).ok nl' = true) :
    StepTo P o p n F C O nl V Φ s O' nl' V' := by
  constructor
  intro E a w hf hgv hm K Q hK
  unfold Oper.wp execOp
  cases hop : o.op with
  | call c =>
    obtain ⟨callee, args, ts⟩ := c
    simp only [hop] at hv
    cases callee with
    | builtin b =>
      cases b with
      | append =>
        simp only [evalApB] at hv
        split at hv
        · rename_i x y t' t2' hargs hts
          have ha : args = #[x, y] := by simpa using congrArg List.toArray hargs
          have ht : ts = #[t', t2'] := by simpa using congrArg List.toArray hts
          subst ha ht
          split at hv
          · rename_i u1 u2 hx hy
            simp only [Option.some.injEq, Prod.mk.injEq] at hv
            obtain ⟨rfl, rfl, rfl, rfl⟩ := hv
            obtain ⟨h1, _⟩ := opv_sound hf hgv hx
            obtain ⟨h2, _⟩ := opv_sound hf hgv hy
            obtain ⟨z, E', w', hr, hΦ, hag, hm', hok⟩ := hrun E w hm
            simp only [resolve, invoke, builtin, Sem.run_bind, Sem.run_pure, Result.andThen_ok, List.map_toArray, List.map_cons, List.map_nil, h1, h2, hr]
            exact hK z E' w' hΦ hag hm' hok
          · simp at hv
        · simp at hv
      | _ => simp [evalApB] at hv
    | _ => simp [evalApB] at hv
  | _ => simp [hop, evalApB] at hv

/-- The type of a row and what its elements are. -/
def sliceTI (tt : List (Nat × TI)) (t : Nat) : Option (Nat × TI) :=
  match lk tt t with
  | some ⟨_, _, _, _, .slice e⟩ => (lk tt e).map fun ti => (e, ti)
  | _ => none

theorem sliceTI_sound (htt : TTok P tt) {t e : Nat} {ti : TI} (h : sliceTI tt t = some (e, ti)) : P.underlying t = some (.slice e) ∧ TIok P e ti := by
  simp only [sliceTI] at h
  split at h
  · rename_i z by' zz fl' e' hti
    simp only [Option.map_eq_some_iff, Prod.mk.injEq] at h
    obtain ⟨ti', h1, rfl, rfl⟩ := h
    obtain ⟨dd, hdd, hkd, _⟩ := (htt _ _ hti).und
    have hdb : dd = .slice e' := by cases dd <;> simp [kindOf] at hkd; rw [hkd]
    subst hdb
    exact ⟨hdd, htt _ _ h1⟩
  · simp at h

theorem run_copy_own {w : World} {t t2 ty e g off m c sz k : Nat} {ti : TI} {sv : Value} {cur news : List Value} (hu : P.underlying t = some (.slice e)) (hti : TIok P e ti) (hsz : ti.size = sz)
    (hg : w.heap[g]? = some (.cells cur.toArray e (0, 0))) (hsrc : Src P sz sv k news w) (h1 : ∀ u ∈ news, u.oneCell' = true) (hk : k ≤ m) (hb : off + k * sz ≤ cur.length) :
    (Builtin.copy_ #[t, t2] ty #[.slice (some ⟨g, off, none⟩) m c, sv]).run P w = .ok (goInt k) (w.setRow g (overL off news cur).toArray) := by
  have hns := hsrc.size
  have hst := run_storeCells_at P g off e news 0 cur.toArray w hg (by simp only [List.size_toArray]; omega) h1
  have hmin : Nat.min k m = k := Nat.min_eq_left hk
  have hszr : (sizeOf e).run P w = .ok sz w := by rw [← hsz]; exact hti.sizeOf w
  simp only [Nat.add_zero] at hst
  simp [Builtin.copy_, run_underlying hu, hsrc.len w, hmin, hszr, hsrc.cells w rfl, hst, overL]

/-- What is copied into a block of one's own at a place known by number. -/
theorem s_cpL (htt : TTok P tt) {p : List (Nat × Bool)} {l q g off m c t t2 e k : Nat} {ti : TI} {sv : Value} {cur news : List Value} (hv : evalCpB F p o.op = some (t, t2, .a (.v (.slice (some ⟨g, off, none⟩) m c)), .a (.v sv)))
    (hte : sliceTI tt t = some (e, ti)) (hl : lk O l = some (.lit (cur.map .v) e)) (hp : lk O q = some (.pin l g))
    (hsrc : ∀ E w, Mem E O nl V w → Src P ti.size sv k news w) (h1 : ∀ u ∈ news, u.oneCell' = true) (hk : k ≤ m) (hb : off + k * ti.size ≤ cur.length) :
    StepTo P o p n F C O nl V (σ := Unit) (fun _ => True) (fun _ => .a (.v (.int .i64 k))) (fun _ => (l, .lit ((overL off news cur).map .v) e) :: O) nl (fun _ => V) := by
  refine s_cpB hv fun E w hm => ?_
  obtain ⟨hu, hti⟩ := sliceTI_sound htt hte
  have hg := hm.lit _ _ _ hl
  have hpn := (hm.pin _ _ _ hp).1
  rw [hpn, (den_plain E cur).1] at hg
  have hset := hm.set hl (cs' := (overL off news cur).map .v) ((den_plain E0 _).2 _)
  rw [hpn, (den_plain E _).1] at hset
  exact ⟨(), E, _, run_copy_own hu hti rfl hg (hsrc E w hm) h1 hk hb, trivial, fun _ _ => ⟨rfl, rfl⟩, hset, rfl⟩
/-- A slice that is known by number, read in one's own block. -/
theorem src_own {w : World} {g off m c sz e : Nat} {cur : List Value} (hg : w.heap[g]? = some (.cells cur.toArray e (0, 0))) (hle : off + m * sz ≤ cur.length) (hc : m ≤ c) :
    Src P sz (.slice (some ⟨g, off, none⟩) m c) m ((cur.drop off).take (m * sz)) w := by
  have hs : IsSl (vw w) (.slice (some ⟨g, off, none⟩) m c) sz m ((cur.drop off).take (m * sz)) :=
    ⟨by simp; omega, .inr ⟨g, off, c, cur.toArray, e, (0, 0), rfl, hg, by simpa using hle, by simp, hc⟩⟩
  exact hs.src (fun _ _ h => h)

theorem Mem.srcL {E : Env} {w : World} (hm : Mem E O nl V w) {l q g off m c sz e : Nat} {cur : List Value} (hl : lk O l = some (.lit (cur.map .v) e)) (hp : lk O q = some (.pin l g)) (hle : off + m * sz ≤ cur.length) (hc : m ≤ c) :
    Src P sz (.slice (some ⟨g, off, none⟩) m c) m ((cur.drop off).take (m * sz)) w := by
  have hg := hm.lit _ _ _ hl
  rw [(hm.pin _ _ _ hp).1, (den_plain E cur).1] at hg
  exact src_own hg hle hc

/-- A block of one's own copied into itself, shifted: as much as the target has room for. -/
theorem s_cpS (htt : TTok P tt) {p : List (Nat × Bool)} {l q g off off2 m c ks c2 t t2 e : Nat} {ti : TI} {cur : List Value} (news : List Value) (hv : evalCpB F p o.op = some (t, t2, .a (.v (.slice (some ⟨g, off, none⟩) m c)), .a (.v (.slice (some ⟨g, off2, none⟩) ks c2))))
    (hte : sliceTI tt t = some (e, ti)) (hl : lk O l = some (.lit (cur.map .v) e)) (hp : lk O q = some (.pin l g))
    (he : (cur.drop off2).take (m * ti.size) = news) (h1 : ∀ u ∈ news, u.oneCell' = true) (hk : m ≤ ks) (hb : off + m * ti.size ≤ cur.length) (hb2 : off2 + m * ti.size ≤ cur.length) :
    StepTo P o p n F C O nl V (σ := Unit) (fun _ => True) (fun _ => .a (.v (.int .i64 m))) (fun _ => (l, .lit ((overL off news cur).map .v) e) :: O) nl (fun _ => V) := by
  subst he
  refine s_cpB hv fun E w hm => ?_
  obtain ⟨hu, hti⟩ := sliceTI_sound htt hte
  have hg := hm.lit _ _ _ hl
  have hpn := (hm.pin _ _ _ hp).1
  rw [hpn, (den_plain E cur).1] at hg
  have hset := hm.set hl (cs' := (overL off ((cur.drop off2).take (m * ti.size)) cur).map .v) ((den_plain E0 _).2 _)
  rw [hpn, (den_plain E _).1] at hset
  have hsrc := src_own (P := P) (off := off2) (m := m) (c := m) (sz := ti.size) hg hb2 (Nat.le_refl _)
  have hst := run_storeCells_at P g off e ((cur.drop off2).take (m * ti.size)) 0 cur.toArray w hg (by simp; omega) h1
  have hmin : Nat.min ks m = m := Nat.min_eq_right hk
  have hszr : (sizeOf e).run P w = .ok ti.size w := hti.sizeOf w
  have hfc : (Builtin.firstCells ti.size m (.slice (some ⟨g, off2, none⟩) ks c2)).run P w = .ok ((cur.drop off2).take (m * ti.size)).toArray w := hsrc.cells w rfl
  simp only [Nat.add_zero] at hst
  refine ⟨(), E, _, ?_, trivial, fun _ _ => ⟨rfl, rfl⟩, hset, rfl⟩
  simp only [SV.den, A.den]
  have hres : (overL off ((cur.drop off2).take (m * ti.size)) cur).toArray = (cur.toArray.toList.take off ++ (cur.drop off2).take (m * ti.size) ++ cur.toArray.toList.drop (off + ((cur.drop off2).take (m * ti.size)).length)).toArray := rfl
  rw [hres]
  simp [Builtin.copy_, run_underlying hu, Builtin.lenOf, hmin, hszr, hfc, goInt] at hst ⊢
  simp [hst]

/-- 'append(s, make(..)...)' where there is no room: a new block. -/
theorem s_azL (htt : TTok P tt) {p : List (Nat × Bool)} {l q g i c t tn e k : Nat} {ti : TI} {kq kn : IntKind} {cur : List Value}
    (hv : evalApB F p o.op = some (t, tn, .a (.v (.slice (some ⟨g, 0, none⟩) i c)), .a (.v (.int kq k)))) (hte : sliceTI tt t = some (e, ti)) (hzl : ti.zero.length = ti.size) (htn : P.underlying tn = some (.int kn))
    (hl : lk O l = some (.lit (cur.map .v) e)) (hp : lk O q = some (.pin l g)) (h0 : 0 < k) (hs : 0 < ti.size) (hg : c < i + k) (hic : i ≤ c) (hcur : i * ti.size ≤ cur.length) (hb : (i + k) * ti.bytes ≤ 140737488355328) (hm0 : i + k ≤ maxLen) :
    StepTo P o p n F C O nl V (σ := Nat × Nat × List Value) (fun x => i + k ≤ x.2.1 ∧ x.2.1 ≤ maxLen ∧ i * ti.size + x.2.2.length = x.2.1 * ti.size) (fun x => .a (.v (.slice (some ⟨x.1, 0, none⟩) (i + k) x.2.1)))
      (fun x => (nl + 1, .pin nl x.1) :: (nl, .lit ((cur.take (i * ti.size) ++ x.2.2).map .v) e) :: O) (nl + 2) (fun _ => V) := by
  refine s_apB hv fun E w hm => ?_
  obtain ⟨hu, hti⟩ := sliceTI_sound htt hte
  obtain ⟨fi, hfi, hfs, hfb, z, hz, hzc⟩ := hti.info
  have hgg := hm.lit _ _ _ hl
  have hpn := (hm.pin _ _ _ hp).1
  rw [hpn, (den_plain E cur).1] at hgg
  have hold := (src_own (P := P) (off := 0) (m := i) (c := c) (sz := ti.size) hgg (by omega) hic).cells w.drew rfl
  rw [← hfs] at hold
  have hzs : z.cells.size = ti.size := by rw [← hzl, ← hzc]; simp
  have hk48 : k * fi.bytes ≤ 281474976710656 := by
    have : k * ti.bytes ≤ (i + k) * ti.bytes := Nat.mul_le_mul_right _ (by omega)
    rw [hfb]; omega
  have hrun := Lib.run_append_grow_zeros (P := P) w t tn o.type e fi z kq kn hu htn hfi hz (some ⟨g, 0, none⟩) i c _ hold k h0 (by omega) hg (by simp only [maxLen] at hm0; omega) hk48 (growslice_fits hg (by rw [hfb]; exact hb))
  have hge := grownCap_ge w (i + k) c e
  have hmx := grownCap_le_maxLen w (i + k) c e hm0
  have hbel : Below w.heap.size w (w.drew.alloc (.cells ((((cur.drop 0).take (i * fi.size)).toArray ++ Builtin.zeroCells z.cells k ++ Builtin.zeroCells z.cells (grownCap w (i + k) c e - (i + k)))) e)) :=
    ⟨rfl, rfl, rfl, by simp, fun k hk => heap_alloc_old w.drew _ hk⟩
  obtain ⟨tl, htl⟩ : ∃ tl, tl = (Builtin.zeroCells z.cells k).toList ++ (Builtin.zeroCells z.cells (grownCap w (i + k) c e - (i + k))).toList := ⟨_, rfl⟩
  have hrow : (((cur.drop 0).take (i * fi.size)).toArray ++ Builtin.zeroCells z.cells k ++ Builtin.zeroCells z.cells (grownCap w (i + k) c e - (i + k))) = (cur.take (i * ti.size) ++ tl).toArray := by
    rw [htl, hfs, List.drop_zero]
    apply Array.ext'
    simp [List.append_assoc]
  rw [hrow] at hrun hbel
  have hlen : i * ti.size + tl.length = grownCap w (i + k) c e * ti.size := by
    rw [htl, List.length_append, Array.length_toList, Array.length_toList, zeroCells_size, zeroCells_size, hzs, ← Nat.add_mul, ← Nat.add_mul]
    congr 1
    omega
  have hnb := hm.newBlk hbel (Nat.le_refl _) (cs := (cur.take (i * ti.size) ++ tl).map .v) (e := e) ((den_plain E0 _).2 _) (by rw [(den_plain E _).1]; exact heap_alloc_new w.drew _)
  have hpn2 := hnb.addPin nl w.heap.size (by simp [Env.setρ]) (by omega)
  exact ⟨(w.heap.size, grownCap w (i + k) c e, tl), _, _, hrun, ⟨hge, hmx, hlen⟩, E.agree_setρ _, hpn2, rfl⟩

/-- An append to a row of one's own whose value is known. -/
theorem s_apP (htt : TTok P tt) {p : List (Nat × Bool)} {l q b t t2 e m k : Nat} {ti : TI} {v sv : Value} {olds : List Value} (news : List Value) (hv : evalApB F p o.op = some (t, t2, .a (.v v), .a (.v sv)))
    (hte : sliceTI tt t = some (e, ti)) (hzl : ti.zero.length = ti.size) (hte2 : sliceTI tt t2 = some (e, ti)) (hl : lk O l = some (.row e ti.size m olds)) (hk : lk O q = some (.keep l b v)) (hsrc : ∀ E w, Mem E O nl V w → Src P ti.size sv k news w) (h1 : ∀ u ∈ news, u.oneCell' = true)
    (hb : (m + k) * ti.bytes ≤ 140737488355328) (h63 : m + k ≤ maxLen) :
    StepTo P o p n F C O nl V (σ := Unit) (fun _ => True) (fun _ => .a (.row nl)) (fun _ => (nl, .row e ti.size (m + k) (olds ++ news)) :: (l, .gone) :: O) (nl + 1) (fun _ => V) := by
  refine s_apB hv fun E w hm => ?_
  obtain ⟨hu, hti⟩ := sliceTI_sound htt hte
  obtain ⟨hu2, _⟩ := sliceTI_sound htt hte2
  obtain ⟨fi, hfi, hfs, hfb, z, hz, hzc⟩ := hti.info
  have hrow := hm.row _ _ _ _ _ hl
  have hkp := (hm.kp _ _ _ _ hk).2.1
  rw [hkp, ← hfs] at hrow
  have hsr := hsrc E w hm
  rw [← hfs] at hsr
  have hzs : z.cells.size = fi.size := by rw [hfs, ← hzl, ← hzc]; simp
  obtain ⟨v', w', hr, hown, hgr, hbk⟩ := run_app (P := P) (ty := o.type) hu hu2 (.inr ⟨e, rfl⟩) hfi hz hzs hsr h1 (by rw [hfb]; exact hb) h63 hrow
  rw [hfs] at hown
  refine ⟨(), E.setκ nl v', w', ?_, trivial, Env.agree_setκ E v', hm.grow hl hown (by rw [hkp]; exact hgr) (by rw [hkp]; exact hbk), by simp [SV.ok, A.ok, blt_iff]⟩
  simpa [SV.den, A.den, Env.setκ] using hr

/-- A piece of a slice that is known by number. -/
theorem y_slP (htt : TTok P tt) {p : List (Nat × Bool)} {g : Bool} {ad : Option Addr} {m cap : Nat} {lo hi : Option Int} {sz : Nat} (v' : Value)
    (hv : evalSl tt F p o.op = some (.slice ad m cap, lo, hi, sz)) (hb : g = true → 0 ≤ lo.getD 0 ∧ lo.getD 0 ≤ hi.getD m ∧ hi.getD m ≤ cap) (he : g = true → sliceV (.slice ad m cap) (lo.getD 0).toNat (hi.getD m).toNat sz = v') :
    Yld P o n F C O nl V p g (.a (.v v')) := by
  intro hgt E a w hf hgv hm
  refine ⟨?_, rfl⟩
  rw [← he hgt]
  unfold Yv execOp
  cases hop : o.op with
  | slice t x lo' hi' mx =>
    cases mx with
    | some mx => simp [hop, evalSl] at hv
    | none =>
    simp only [hop, evalSl] at hv
    split at hv
    · rename_i v' l h sz' by_ z fl e hx hl hh hti
      split at hv
      · rename_i ti hte
        simp only [Option.some.injEq, Prod.mk.injEq] at hv
        obtain ⟨rfl, rfl, rfl, rfl⟩ := hv
        obtain ⟨h1, _⟩ := opv_sound hf hgv hx
        obtain ⟨dd, hdd, hk, _⟩ := (htt _ _ hti).und
        have hdb : dd = .slice e := by cases dd <;> simp [kindOf] at hk; rw [hk]
        subst hdb
        obtain ⟨b0, b1, b2⟩ := hb hgt
        have hrun : (Instr.slice t (.slice ad m cap) (lo'.map a.eval) (hi'.map a.eval) none).run P w = .ok (sliceV (.slice ad m cap) (l.getD 0).toNat (h.getD m).toNat ti.size) w := by
          rcases optI_sound hf hgv hl with ⟨rfl, el⟩ | ⟨kl, il, rfl, el⟩ <;> rcases optI_sound hf hgv hh with ⟨rfl, eh⟩ | ⟨kh, ih, rfl, eh⟩ <;> rw [el, eh] <;> simp only [Option.getD_some, Option.getD_none] at b0 b1 b2 ⊢
          · simp [Instr.slice, run_underlying hdd, Instr.sliceBounds, (htt _ _ hte).sizeOf, sliceV]
          · have e2 : (ih.toNat : Int) = ih := Int.toNat_of_nonneg (by omega)
            simp [Instr.slice, run_underlying hdd, Instr.sliceBounds, (htt _ _ hte).sizeOf, sliceV, run_sliceBound, (by omega : 0 ≤ ih), (by omega : ih ≤ cap)]
          · have e2 : (il.toNat : Int) = il := Int.toNat_of_nonneg (by omega)
            simp [Instr.slice, run_underlying hdd, Instr.sliceBounds, (htt _ _ hte).sizeOf, sliceV, run_sliceBound, b0, b1]
          · have e2 : (ih.toNat : Int) = ih := Int.toNat_of_nonneg (by omega)
            simp [Instr.slice, run_underlying hdd, Instr.sliceBounds, (htt _ _ hte).sizeOf, sliceV, run_sliceBound, b0, b1, (by omega : 0 ≤ ih), (by omega : ih ≤ cap), e2]
        have e1 : a.eval x = .slice ad m cap := h1
        simp only [Option.map_none, e1, Instr.sliceAt, Sem.run_bind, run_underlying hdd, Result.andThen_ok, hrun, Sem.run_pure, SV.den, A.den]
      · simp at hv
    · simp at hv
  | _ => simp [hop, evalSl] at hv

def evalCap (tt : List (Nat × TI)) (F : Frame0) (p : List (Nat × Bool)) : Op → Option Nat
  | .call ⟨.builtin .cap, args, ts⟩ => match args.toList, ts.toList with
    | [x], [t] => match opv F p x, lk tt t with
      | some (.a (.v (.slice _ _ c))), some ⟨_, _, _, _, .slice _⟩ => some c
      | _, _ => none
    | _, _ => none
  | _ => none

/-- A slice's capacity. -/
theorem y_cap (htt : TTok P tt) {p : List (Nat × Bool)} {g : Bool} {c : Nat} (hv : evalCap tt F p o.op = some c) : Yld P o n F C O nl V p g (.a (.v (.int .i64 c))) := by
  intro hgt E a w hf hgv hm
  refine ⟨?_, rfl⟩
  unfold Yv execOp
  cases hop : o.op with
  | call cl =>
    obtain ⟨callee, args, ts⟩ := cl
    simp only [hop] at hv
    cases callee with
    | builtin b =>
      cases b with
      | cap =>
        simp only [evalCap] at hv
        split at hv
        · rename_i x t hargs hts
          have ha : args = #[x] := by simpa using congrArg List.toArray hargs
          have ht : ts = #[t] := by simpa using congrArg List.toArray hts
          subst ha ht
          split at hv
          · rename_i a1 n1 c1 sz by' z fl e hx hti
            simp only [Option.some.injEq] at hv
            subst hv
            obtain ⟨h1, _⟩ := opv_sound hf hgv hx
            obtain ⟨dd, hdd, hk, _⟩ := (htt _ _ hti).und
            have hdb : dd = .slice e := by cases dd <;> simp [kindOf] at hk; rw [hk]
            subst hdb
            have e1 : a.eval x = .slice a1 n1 c1 := h1
            simp [resolve, invoke, builtin, Builtin.cap_, e1, run_underlying hdd, SV.den, A.den, goInt]
          · simp at hv
        · simp at hv
      | _ => simp [evalCap] at hv
    | _ => simp [evalCap] at hv
  | _ => simp [hop, evalCap] at hv

def evalLenP (tt : List (Nat × TI)) (F : Frame0) (p : List (Nat × Bool)) : Op → Option Nat
  | .call ⟨.builtin .len, args, ts⟩ => match args.toList, ts.toList with
    | [x], [t] => match opv F p x, lk tt t with
      | some (.a (.v (.slice _ c _))), some ⟨_, _, _, _, .slice _⟩ => some c
      | _, _ => none
    | _, _ => none
  | _ => none

/-- The length of a slice that is known by number. -/
theorem y_lenP (htt : TTok P tt) {p : List (Nat × Bool)} {g : Bool} {c : Nat} (hv : evalLenP tt F p o.op = some c) : Yld P o n F C O nl V p g (.a (.v (.int .i64 c))) := by
  intro hgt E a w hf hgv hm
  refine ⟨?_, rfl⟩
  unfold Yv execOp
  cases hop : o.op with
  | call cl =>
    obtain ⟨callee, args, ts⟩ := cl
    simp only [hop] at hv
    cases callee with
    | builtin b =>
      cases b with
      | len =>
        simp only [evalLenP] at hv
        split at hv
        · rename_i x t hargs hts
          have ha : args = #[x] := by simpa using congrArg List.toArray hargs
          have ht : ts = #[t] := by simpa using congrArg List.toArray hts
          subst ha ht
          split at hv
          · rename_i a1 c1 n1 sz by' z fl e hx hti
            simp only [Option.some.injEq] at hv
            subst hv
            obtain ⟨h1, _⟩ := opv_sound hf hgv hx
            obtain ⟨dd, hdd, hk, _⟩ := (htt _ _ hti).und
            have hdb : dd = .slice e := by cases dd <;> simp [kindOf] at hk; rw [hk]
            subst hdb
            have e1 : a.eval x = .slice a1 c1 n1 := h1
            simp [resolve, invoke, builtin, Builtin.len_, Builtin.lenOf, e1, run_underlying hdd, SV.den, A.den, goInt]
          · simp at hv
        · simp at hv
      | _ => simp [evalLenP] at hv
    | _ => simp [evalLenP] at hv
  | _ => simp [hop, evalLenP] at hv

def evalX (F : Frame0) (p : List (Nat × Bool)) : Op → Option (Nat × List SV)
  | .call ⟨.value (.func f), args, _⟩ => match evalArgs F p args.toList with
    | some ss => some (f, ss)
    | none => none
  | _ => none

/-- A library function without a body that answers with a value and leaves the world as it is. -/
theorem y_ext {p : List (Nat × Bool)} {g : Bool} {f : Nat} {ss : List SV} (s : SV) (hv : evalX F p o.op = some (f, ss)) (hs : s.ok nl = true)
    (hrun : g = true → ∀ E w, Mem E O nl V w → (callFunc f (ss.map (SV.den E)).toArray).run P w = .ok (.value (s.den E)) w) : Yld P o n F C O nl V p g s := by
  intro hgt E a w hf hgv hm
  refine ⟨?_, hs⟩
  have hr := hrun hgt E w hm
  unfold Yv execOp
  cases hop : o.op with
  | call c =>
    obtain ⟨callee, args, ts⟩ := c
    cases callee with
    | value x =>
      cases x with
      | func f' =>
        simp only [hop, evalX] at hv
        split at hv
        · rename_i ss' ha
          simp only [Option.some.injEq, Prod.mk.injEq] at hv
          obtain ⟨rfl, rfl⟩ := hv
          obtain ⟨h1, h2⟩ := evalArgs_sound hf hgv ha
          have hargs : args.map a.eval = (ss'.map (SV.den E)).toArray := by
            apply Array.ext'
            simp only [Array.toList_map, h1]
          have hx : a.eval (.func f') = .func (.func f') #[] #[] := rfl
          simp only [resolve, hx, Deferred.ofValue, Sem.run_bind, Sem.run_pure, Result.andThen_ok, invoke, Array.empty_append, Array.append_empty, hargs, hr]
        · simp at hv
      | _ => simp [hop, evalX] at hv
    | _ => simp [hop, evalX] at hv
  | _ => simp [hop, evalX] at hv
end
end Go.Eng
