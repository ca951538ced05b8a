/-
  A slice that is read, cut off at its length, and what is appended to it; a slice compared with nil.
-/
import Derived.Test.YtipmgnhbcaniiaaEng28
set_option linter.unusedSimpArgs false
set_option linter.unusedVariables false
namespace Go.Eng
open Go Go.RowKit

section
variable {P : Program} {tt : List (Nat × TI)} {ops : Array Oper} {Q : Exit → Act → World → Prop} {o : Oper} {rest : List Oper}
  {n : Nat} {F : Frame0} {C : List Nat} {O : Own} {nl : Nat} {V : Vw} {K : Act → World → Prop}

/-- A piece from the front with a bound of its capacity. -/
def evalSl3 (tt : List (Nat × TI)) (F : Frame0) (p : List (Nat × Bool)) : Op → Option (Value × Int × Int × Nat)
  | .slice t x none (some hi) (some mx) => match opv F p x, opv F p hi, opv F p mx, lk tt t with
    | some (.a (.v v)), some (.a (.v (.int _ h))), some (.a (.v (.int _ m))), some ⟨_, _, _, _, .slice e⟩ => match lk tt e with
      | some ti => some (v, h, m, ti.size)
      | none => none
    | _, _, _, _ => none
  | _ => none

theorem y_sl3 (htt : TTok P tt) {p : List (Nat × Bool)} {g : Bool} {ad : Option Addr} {len cap : Nat} {hi mx : Int} {sz : Nat}
    (hv : evalSl3 tt F p o.op = some (.slice ad len cap, hi, mx, sz)) (hb : g = true → 0 ≤ hi ∧ hi ≤ mx ∧ mx ≤ cap) :
    Yld P o n F C O nl V p g (.a (.v (.slice ad hi.toNat mx.toNat))) := by
  intro hgt E a w hf hgv hm
  refine ⟨?_, rfl⟩
  unfold Yv execOp
  cases hop : o.op with
  | slice t x lo' hi' mx' =>
    cases lo' with
    | some lo' => simp [hop, evalSl3] at hv
    | none =>
    cases hi' with
    | none => simp [hop, evalSl3] at hv
    | some hi' =>
    cases mx' with
    | none => simp [hop, evalSl3] at hv
    | some mx' =>
    simp only [hop, evalSl3] at hv
    split at hv
    · rename_i v' k1 h k2 m sz' by_ z fl e hx hh hm2 hti
      split at hv
      · rename_i ti hte
        simp only [Option.some.injEq, Prod.mk.injEq] at hv
        obtain ⟨rfl, rfl, rfl, rfl⟩ := hv
        obtain ⟨h1, _⟩ := opv_sound hf hgv hx
        obtain ⟨h2, _⟩ := opv_sound hf hgv hh
        obtain ⟨h3, _⟩ := opv_sound hf hgv hm2
        obtain ⟨dd, hdd, hk, _⟩ := (htt _ _ hti).und
        have hdb : dd = .slice e := by cases dd <;> simp [kindOf] at hk; rw [hk]
        subst hdb
        obtain ⟨b0, b1, b2⟩ := hb hgt
        have e1 : a.eval x = .slice ad len cap := h1
        have e2 : a.eval hi' = .int k1 h := h2
        have e3 : a.eval mx' = .int k2 m := h3
        have q1 : (h.toNat : Int) = h := Int.toNat_of_nonneg b0
        have q2 : (m.toNat : Int) = m := Int.toNat_of_nonneg (by omega)
        have hrun : (Instr.slice t (.slice ad len cap) none (some (.int k1 h)) (some (.int k2 m))).run P w = .ok (.slice ad h.toNat m.toNat) w := by
          simp only [Instr.slice, Instr.sliceBounds, Sem.run_bind, run_underlying hdd, Result.andThen_ok, Sem.run_pure, (htt _ _ hte).sizeOf]
          simp [run_sliceBound, (by omega : 0 ≤ m), (by omega : m ≤ (cap : Int)), b0, q2, b1, Addr.add, (htt _ _ hte).sizeOf]
        simp only [Option.map_some, Option.map_none, e1, e2, e3, Instr.sliceAt, Sem.run_bind, run_underlying hdd, Result.andThen_ok, hrun, Sem.run_pure, SV.den, A.den]
      · simp at hv
    · simp at hv
  | _ => simp [hop, evalSl3] at hv

/-- What is appended to a slice that is read: the slice, what is appended, the elements' type, size and bytes. -/
def evalAppV (tt : List (Nat × TI)) (F : Frame0) (p : List (Nat × Bool)) : Op → Option (Value × SV × Nat × Nat × Nat)
  | .call ⟨.builtin .append, args, ts⟩ => match args.toList, ts.toList with
    | [s, x], [t, t2] => match opv F p s, opv F p x, lk tt t, lk tt t2 with
      | some (.a (.v v)), some xs, some ⟨_, _, _, _, .slice e⟩, some t2i => match lk tt e with
        | some ti => bif sliceOrStr t2i.kind && Nat.blt 0 ti.bytes && Nat.beq ti.zero.length ti.size then some (v, xs, e, ti.size, ti.bytes) else none
        | _ => none
      | _, _, _, _ => none
    | _, _ => none
  | _ => none

theorem s_appV (htt : TTok P tt) {p : List (Nat × Bool)} {e sz by_ m k : Nat} {ad : Option Addr} {x : SV} {olds : List Value} (news : List Value) (hv : evalAppV tt F p o.op = some (.slice ad m m, x, e, sz, by_))
    (hold : IsSl V (.slice ad m m) sz m olds) (hsrc : ∀ E w, Mem E O nl V w → Src P sz (x.den E) k news w) (hk : 0 < k) (hb : (m + k) * by_ ≤ 140737488355328) :
    StepTo P o p n F C O nl V (σ := Unit) (fun _ => True) (fun _ => .a (.row nl)) (fun _ => (nl, .row e sz (m + k) (olds ++ news)) :: O) (nl + 1) (fun _ => V) := by
  constructor
  intro E a w hf hgv hm K Q hK
  unfold Oper.wp execOp
  cases hop : o.op with
  | call c =>
    obtain ⟨callee, args, ts⟩ := c
    simp only [hop] at hv
    cases callee with
    | builtin b =>
      cases b with
      | append =>
        simp only [evalAppV] at hv
        split at hv
        · rename_i s y t t2 hargs hts
          have ha : args = #[s, y] := by simpa using congrArg List.toArray hargs
          have ht : ts = #[t, t2] := by simpa using congrArg List.toArray hts
          subst ha ht
          split at hv
          · rename_i v' x' sz' by' z' fl' e' t2i hs hy hti ht2
            split at hv
            · rename_i ti hte
              cases hcd : (sliceOrStr t2i.kind && Nat.blt 0 ti.bytes && Nat.beq ti.zero.length ti.size) with
              | false => simp [hcd] at hv
              | true =>
                simp only [hcd, cond_true, Option.some.injEq, Prod.mk.injEq] at hv
                obtain ⟨rfl, rfl, rfl, rfl, rfl⟩ := hv
                simp only [Bool.and_eq_true, Nat.beq_eq, blt_iff] at hcd
                obtain ⟨⟨hk2, hbp⟩, hzl⟩ := hcd
                obtain ⟨h2, _⟩ := opv_sound hf hgv hs
                obtain ⟨h3, _⟩ := opv_sound hf hgv hy
                obtain ⟨dd, hdd, hkd, _⟩ := (htt _ _ hti).und
                have hdb : dd = .slice e' := by cases dd <;> simp [kindOf] at hkd; rw [hkd]
                subst hdb
                obtain ⟨d2, hd2, hk2', _⟩ := (htt _ _ ht2).und
                have hd2' : d2 = .string ∨ ∃ e, d2 = .slice e := by
                  cases d2 <;> simp [kindOf] at hk2' <;> (first | exact .inl rfl | exact .inr ⟨_, rfl⟩ | (rw [← hk2'] at hk2; simp [sliceOrStr] at hk2))
                obtain ⟨fi, hfi, hfs, hfb, z, hz, hzc⟩ := (htt _ _ hte).info
                have hmx : m + k ≤ maxLen := by
                  have : m + k ≤ (m + k) * ti.bytes := Nat.le_mul_of_pos_right _ hbp
                  simp only [maxLen]; omega
                have hzs : z.cells.size = fi.size := by rw [hfs, ← hzl, ← hzc]; simp
                have hsrc' := hsrc E w hm
                have hold' := hold.src (P := P) hm.get
                rw [← hfs] at hsrc' hold'
                have h63' : ((m + k : Nat) : Int) ≤ 9223372036854775807 := by simp only [maxLen] at hmx; omega
                have hgr := run_app_grow (P := P) (w := w) (ty := o.type) hdd hd2 hd2' hfi hz hold' hsrc' (by omega) h63' (growslice_fits (by omega) (by rw [hfb]; exact hb))
                have hlen : (olds ++ news).length = (m + k) * fi.size := by rw [List.length_append, hold'.size, hsrc'.size, Nat.add_mul]
                have hge := grownCap_ge w (m + k) m e'
                have e2 : a.eval s = .slice ad m m := h2
                simp only [resolve, invoke, builtin, Sem.run_bind, Sem.run_pure, Result.andThen_ok, List.map_toArray, List.map_cons, List.map_nil, e2, h3, hgr]
                have hown : (w.drew.alloc (.cells (olds.toArray ++ news.toArray ++ Builtin.zeroCells z.cells (grownCap w (m + k) m e' - (m + k))) e')).ownsRow w.heap.size e' fi.size (.slice (some ⟨w.heap.size, 0, none⟩) (m + k) (grownCap w (m + k) m e')) (m + k) (olds ++ news) := by
                  refine ⟨hlen, .inr ⟨w.heap.size, _, _, rfl, Nat.le_refl _, heap_alloc_new w.drew _, hge, grownCap_le_maxLen w (m + k) m e' hmx, ?_, ?_⟩⟩
                  · simp only [Array.size_append, List.size_toArray, zeroCells_size, hzs, hold'.size, hsrc'.size, ← Nat.add_mul]
                    congr 1
                    omega
                  · simp only [Array.toList_append]
                    rw [← hlen]
                    exact List.take_left
                have hbel : Below w.heap.size w (w.drew.alloc (.cells (olds.toArray ++ news.toArray ++ Builtin.zeroCells z.cells (grownCap w (m + k) m e' - (m + k))) e')) :=
                  ⟨rfl, rfl, rfl, by simp, fun k hk => heap_alloc_old w.drew _ hk⟩
                rw [hfs] at hown
                have hm' := hm.newRow hbel hown
                have := hK () (E.setκ nl _) _ trivial (Env.agree_setκ E _) hm' (by simp [SV.ok, A.ok, blt_iff])
                show K (a.put o.dst _) _
                simpa [SV.den, A.den, Env.setκ] using this
            · simp at hv
          · simp at hv
        · simp at hv
      | _ => simp [evalAppV] at hv
    | _ => simp [evalAppV] at hv
  | _ => simp [hop, evalAppV] at hv
end
end Go.Eng
