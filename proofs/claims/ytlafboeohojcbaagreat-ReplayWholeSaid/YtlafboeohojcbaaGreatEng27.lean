/-
 A call that is walked in place: the callee works in its caller's own memory.
-/
import Derived.Test.YtlafboeohojcbaaGreatEngR
set_option linter.unusedSimpArgs false
set_option linter.unusedVariables false
namespace Go.Eng
open Go Go.RowKit
section
variable {P : Program} {tt : List (Nat × TI)} {ops : Array Oper} {Q : Exit → Act → World → Prop} {o : Oper} {rest : List Oper} {n : Nat} {F : Frame0} {C : List Nat} {O : Own} {nl : Nat} {V : Vw}
 {K : Act → World → Prop} {E : Env} {w : World} {sp : List Nat} {O0 : Own} {nl0 : Nat} {V0 : Vw} {fuel : Nat} {listed : List Bool}
theorem Mem.addKeep (hm : Mem E O nl V w) (m : Nat) (hlt : m < nl) : Mem E ((nl, .keep m (E.ρ m) (E.κ m)) :: O) (nl + 1) V w := by
 have old : ∀ l' c, lk ((nl, Cel.keep m (E.ρ m) (E.κ m)) :: O) l' = some c → l' ≠ nl → lk O l' = some c := fun l' c h hne => by
  rwa [lk_other _ _ (fun x => hne x.symm)] at h
 refine ⟨?_, ?_, ?_, hm.get, ?_, hm.os, hm.tape, hm.output, ?_, ?_, ?_, ?_, ?_⟩
 ·
  intro l cs' q h
  by_cases hne : l = nl
  · subst hne; rw [lk_same] at h; cases h
  · exact hm.lit _ _ _ (old _ _ h hne)
 ·
  intro l q s n' ys h
  by_cases hne : l = nl
  · subst hne; rw [lk_same] at h; cases h
  · exact hm.row _ _ _ _ _ (old _ _ h hne)
 ·
  intro l1 l2 c1 c2 k h1 h2 hk1 hk2
  by_cases e1 : l1 = nl
  · subst e1; rw [lk_same] at h1; cases h1; simp [blk] at hk1
  ·
   by_cases e2 : l2 = nl
   · subst e2; rw [lk_same] at h2; cases h2; simp [blk] at hk2
   · exact hm.sep _ _ _ _ _ (old _ _ h1 e1) (old _ _ h2 e2) hk1 hk2
 ·
  intro l c k h hk1
  by_cases hne : l = nl
  · subst hne; rw [lk_same] at h; cases h; simp [blk] at hk1
  · exact hm.off _ _ _ (old _ _ h hne) hk1
 ·
  intro l c h
  by_cases hne : l = nl
  · omega
  · have := hm.lab _ _ (old _ _ h hne); omega
 ·
  intro l cs' q h
  by_cases hne : l = nl
  · subst hne; rw [lk_same] at h; cases h
  · exact allOk_mono (Nat.le_succ nl) (hm.labs _ _ _ (old _ _ h hne))
 ·
  intro l q b' h
  by_cases hne : l = nl
  · subst hne; rw [lk_same] at h; cases h
  ·
   obtain ⟨h1, h2⟩ := hm.pin _ _ _ (old _ _ h hne)
   exact ⟨h1, Nat.lt_succ_of_lt h2⟩
 ·
  intro l k h
  by_cases hne : l = nl
  · subst hne; rw [lk_same] at h; cases h
  · exact hm.big _ _ (old _ _ h hne)
 ·
  intro l q b' v' h
  by_cases hne : l = nl
  · subst hne; rw [lk_same] at h; cases h; exact ⟨rfl, rfl, Nat.lt_succ_of_lt hlt⟩
  ·
   obtain ⟨h1, h2, h3⟩ := hm.kp _ _ _ _ (old _ _ h hne)
   exact ⟨h1, h2, Nat.lt_succ_of_lt h3⟩
def keepsOf (E : Env) (base : Nat) : Nat → Own
 | 0 => []
 | k + 1 => (base + k, .keep k (E.ρ k) (E.κ k)) :: keepsOf E base k
theorem Mem.addKeeps (hm : Mem E O nl V w) : ∀ k, k ≤ nl → Mem E (keepsOf E nl k ++ O) (nl + k) V w
 | 0, _ => hm
 | k + 1, h => (hm.addKeeps k (by omega)).addKeep k (by omega)
def KeepsIn (E : Env) (O : Own) (base : Nat) : Nat → Prop
 | 0 => True
 | k + 1 => lk O (base + k) = some (.keep k (E.ρ k) (E.κ k)) ∧ KeepsIn E O base k
theorem KeepsIn.zero {base : Nat} : KeepsIn E O base 0 := trivial
theorem KeepsIn.succ {base k : Nat} (h : lk O (base + k) = some (.keep k (E.ρ k) (E.κ k))) (r : KeepsIn E O base k) : KeepsIn E O base (k + 1) := ⟨h, r⟩
theorem KeepsIn.agree {E' : Env} {w' : World} {base : Nat} (hm : Mem E' O nl V w') : ∀ {k : Nat}, KeepsIn E O base k → E.agree k E'
 | 0, _ => fun l hl => by omega
 | k + 1, ⟨h1, h2⟩ => fun l hl => by
  by_cases h : l = k
  ·
   subst h
   obtain ⟨h3, h4, _⟩ := hm.kp _ _ _ _ h1
   exact ⟨h3, h4⟩
  · exact KeepsIn.agree hm h2 l (by omega)
def InlC (E : Env) (nl : Nat) (G : SV → Own → Nat → Vw → Prop) (e : Ending) (w' : World) : Prop :=
 ∃ E' s1 O1 nl1 V1, e = .returned (s1.den E') ∧ E.agree nl E' ∧ nl ≤ nl1 ∧ Mem E' O1 nl1 V1 w' ∧ s1.ok nl1 = true ∧ G s1 O1 nl1 V1
theorem allOk'_mono {nl nl' : Nat} (h : nl ≤ nl') {l : List SV} (hx : allOk' nl l = true) : allOk' nl' l = true :=
 allOk'_iff.2 fun x hm => SV.ok_mono h (allOk'_iff.1 hx x hm)
theorem o_inl {p : List (Nat × Bool)} {g : Bool} {C' : List Nat} {d f m : Nat} {fn : Func} {c : Code} {ss : List SV}
  (hg : gd ops F C o.guard = some (p, g, C')) (hgt : g = true) (hd : o.dst = some d) (hc : (Nat.blt d n && !(memN d C')) = true)
  (hv : evalC F p o.op = some (f, ss)) (hok : FnOk P f) (hfn : P.funcs[f]? = some fn) (hb : fn.body = some c) (hn : fn.ntmps = m) (hle : Nat.ble ss.length m = true)
  (h : ∀ E, KJ (c.wp P (bodyPost P fn (InlC E nl fun s1 O1 nl1 V1 => KJ (wpList P ops Q rest) n ((d, ⟨p, true, s1⟩) :: F) C' O1 nl1 V1))) m (argF ss 0) [] (keepsOf E nl nl ++ O) (nl + nl) V) :
  KJ (wpList P ops Q (o :: rest)) n F C O nl V := by
 subst hgt
 constructor
 intro E a w hdf hf hm
 obtain ⟨h1, h2, h3, h4⟩ := gd_sound hf hg
 simp only [Bool.and_eq_true, blt_iff, Bool.not_eq_true'] at hc
 unfold wpList
 rw [h1]
 simp only [if_true]
 left
 obtain ⟨hr, hss⟩ := evalC_sound h2 h3.symm hv hok w
 unfold Oper.wp
 rw [hr, Oper.upon_enter]
 refine (enter ss hfn hb hn (hm.addKeeps nl (Nat.le_refl _)) (allOk'_mono (by omega) hss) hle (h E)).mono ?_
 rintro e w' ⟨E', s1, O1, nl1, V1, rfl, hag, hnl, hm', hs, hK⟩
 show wpList P ops Q rest (a.put o.dst _) w'
 rw [hd]
 exact hK.out E' _ w' (by simp [Act.put, hdf]) (h2.putTo hag hnl hc.1 hc.2 h3 h4 hs) hm'
def plainS : List SV → Option (List A)
 | [] => some []
 | .a x :: r => match plainS r with
  | some l => some (x :: l)
  | none => none
 | _ => none
def retS : List SV → Option SV
 | [s] => some s
 | l => match plainS l with
  | some xs => some (.tup xs)
  | none => none
theorem plainS_den {E : Env} : ∀ {l : List SV} {xs : List A}, plainS l = some xs → l.map (SV.den E) = xs.map (A.den E) ∧ ∀ nl, (∀ s ∈ l, s.ok nl = true) → allOk nl xs = true
 | [], xs, h => by simp [plainS] at h; subst h; exact ⟨rfl, fun _ _ => rfl⟩
 | x :: r, xs, h => by
  cases x with
  | a y =>
   simp only [plainS] at h
   split at h
   ·
    rename_i l hl
    simp only [Option.some.injEq] at h
    subst h
    obtain ⟨h1, h2⟩ := plainS_den (E := E) hl
    refine ⟨by simp [h1, SV.den], fun nl hs => ?_⟩
    have hy := hs (.a y) (by simp)
    simp only [allOk, Bool.and_eq_true]
    exact ⟨hy, h2 nl fun s hs' => hs s (by simp [hs'])⟩
   · cases h
  | _ => simp [plainS] at h
theorem retS_den {E : Env} {l : List SV} {s : SV} (h : retS l = some s) : retV (l.map (SV.den E)) = s.den E ∧ ∀ nl, (∀ s ∈ l, s.ok nl = true) → s.ok nl = true := by
 match l, h with
 | [x], h => simp [retS] at h; subst h; exact ⟨rfl, fun nl hs => hs _ (by simp)⟩
 | [], h => simp [retS, plainS] at h; subst h; exact ⟨rfl, fun nl _ => rfl⟩
 | x :: y :: r, h =>
  simp only [retS] at h
  split at h
  ·
   rename_i xs hx
   simp only [Option.some.injEq] at h
   subst h
   obtain ⟨h1, h2⟩ := plainS_den (E := E) hx
   refine ⟨?_, fun nl hs => h2 nl hs⟩
   show Value.tuple (List.map (SV.den E) (x :: y :: r)).toArray = _
   rw [h1]; rfl
  · cases h
def rangeL (base : Nat) : Nat → List Nat
 | 0 => []
 | k + 1 => (base + k) :: rangeL base k
theorem inl_end {E E' : Env} {nl nl'' : Nat} {O'' O1 : Own} {V'' : Vw} {w' : World} {ss : List SV} {s1 : SV} {G : SV → Own → Nat → Vw → Prop} (hm : Mem E' O'' nl'' V'' w') (hok : ∀ s ∈ ss, s.ok nl'' = true)
  (hr : retS ss = some s1) (ho : restO O'' (rangeL nl nl) [] = some O1) (hk : KeepsIn E O'' nl nl) (hn : Nat.ble nl nl'' = true) (hO : SubO O'' O1) (hc : okCels nl'' O1 = true) (h : G s1 O1 nl'' V'') :
  InlC E nl G (.returned (retV (ss.map (SV.den E')))) w' := by
 obtain ⟨h1, h2⟩ := retS_den (E := E') hr
 exact ⟨E', s1, O1, nl'', V'', by rw [h1], hk.agree hm, by simpa using hn, hm.weak hO hc (Vw.le.refl _), h2 _ hok, h⟩
theorem k_trim (ts ls : List Nat) {K0 : List (Nat × SV)} {O1 : Own} (nl' : Nat) (hk : keepL F ts [] = some K0) (ho : restO O ls [] = some O1) (hs : SubF F K0) (hO : SubO O O1)
  (hok : (okSlots nl' K0 && okCels nl' O1) = true) (h : KJ K n (mkF K0) [] O1 nl' V) : KJ K n F C O nl V := weaken h hs hO hok (Vw.le.refl _)
end
end Go.Eng
