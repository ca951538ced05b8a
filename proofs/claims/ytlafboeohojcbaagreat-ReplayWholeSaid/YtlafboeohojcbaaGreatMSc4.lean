import Derived.Test.YtlafboeohojcbaaGreatMRn1
import Derived.Test.YtlafboeohojcbaaGreatEng40
/- A transaction's pieces, by block: what the program keeps and what the document tells. -/
set_option linter.unusedVariables false
set_option linter.unusedSimpArgs false
set_option maxRecDepth 100000
namespace Go.Proofs.YtlafboeohojcbaaGreat
open Go Go.Eng Go.RowKit
def frS (f : Int → Option (List ByteArray)) (r : Record) : Int → Option (List ByteArray) := if 0 ≤ r.k ∧ r.k < 8 then pcS f r.block r.k r.text else f
def frT (l : List Record) : Int → Option (List ByteArray) := l.foldl frS (fun _ => none)
theorem frT_snoc (l : List Record) (r : Record) : frT (l ++ [r]) = frS (frT l) r := by simp [frT]
def takeT (T F : Int → Option (List ByteArray)) : Int → Option (List ByteArray) := fun n => match F n with
 | some p => some p
 | none => T n
def blkT : List Record → List Record → (Int → Option (List ByteArray)) → (Int → Option (List ByteArray))
 | [], _, T => T
 | r :: t, cur, T => if r.count = 0 then blkT t (cur ++ [r]) T else blkT t [] (takeT T (frT cur))
def catP (p : List ByteArray) : ByteArray := p.foldl (· ++ ·) ByteArray.empty
abbrev pcL (l : List Record) (n : Int) : List ByteArray := [pieceF l n 0, pieceF l n 1, pieceF l n 2, pieceF l n 3, pieceF l n 4, pieceF l n 5, pieceF l n 6, pieceF l n 7]
abbrev pcA (l : List Record) (n : Int) : Bool := someF l n 0 || someF l n 1 || someF l n 2 || someF l n 3 || someF l n 4 || someF l n 5 || someF l n 6 || someF l n 7
theorem text8 (l : List Record) (n : Int) : textTo l n 8 = (catP (pcL l n), pcA l n) := by
 simp [textTo, catP, pcL, pcA]
theorem fr_text : ∀ (m : Nat) (l : List Record), l.length = m → (∀ r ∈ l, r.count = 0) → ∀ n, frT l n = (if pcA l n = true then some (pcL l n) else none) ∧ (pcA l n = false → pcL l n = no8)
 | 0, l, hm, _, n => by
  have : l = [] := List.length_eq_zero_iff.1 hm
  subst this
  exact ⟨rfl, fun _ => rfl⟩
 | m + 1, l, hm, hz, n => by
  obtain ⟨l0, r, rfl⟩ : ∃ l0 r, l = l0 ++ [r] := ⟨l.dropLast, l.getLast (by intro h; rw [h] at hm; simp at hm), (List.dropLast_concat_getLast _).symm⟩
  have hm0 : l0.length = m := by simpa using hm
  obtain ⟨h1, h2⟩ := fr_text m l0 hm0 (fun x hx => hz x (by simp [hx])) n
  have hr0 : r.count = 0 := hz r (by simp)
  rw [frT_snoc, frS]
  by_cases hk : 0 ≤ r.k ∧ r.k < 8
  ·
   rw [if_pos hk, pcS]
   by_cases hn : n = r.block
   ·
    subst hn
    rw [if_pos rfl]
    have hgd : (frT l0 r.block).getD no8 = pcL l0 r.block := by
     rw [h1]
     cases hq : pcA l0 r.block with
     | true => rfl
     | false => rw [if_neg (by simp)]; exact (h2 hq).symm
    rw [hgd]
    have hk8 : r.k = 0 ∨ r.k = 1 ∨ r.k = 2 ∨ r.k = 3 ∨ r.k = 4 ∨ r.k = 5 ∨ r.k = 6 ∨ r.k = 7 := by omega
    have ha : pcA (l0 ++ [r]) r.block = true := by
     rcases hk8 with h | h | h | h | h | h | h | h <;> simp [pcA, someF_snoc, isPc, h, hr0]
    refine ⟨?_, fun h => by rw [ha] at h; cases h⟩
    rw [if_pos ha]
    congr 1
    rcases hk8 with h | h | h | h | h | h | h | h <;> simp [pcL, pieceF_snoc, isPc, h, hr0]
   ·
    rw [if_neg hn]
    have hbn : (r.block == n) = false := beq_eq_false_iff_ne.2 (fun e => hn e.symm)
    have e1 : pcL (l0 ++ [r]) n = pcL l0 n := by simp only [pcL, pieceF_snoc, isPc, hbn, Bool.false_and, Bool.and_false, Bool.false_eq_true, if_false]
    have e2 : pcA (l0 ++ [r]) n = pcA l0 n := by simp only [pcA, someF_snoc, isPc, hbn, Bool.false_and, Bool.and_false, Bool.or_false]
    rw [e1, e2]
    exact ⟨h1, h2⟩
  ·
   rw [if_neg hk]
   have n0 : (r.k == 0) = false := beq_eq_false_iff_ne.2 (by omega)
   have n1 : (r.k == 1) = false := beq_eq_false_iff_ne.2 (by omega)
   have n2 : (r.k == 2) = false := beq_eq_false_iff_ne.2 (by omega)
   have n3 : (r.k == 3) = false := beq_eq_false_iff_ne.2 (by omega)
   have n4 : (r.k == 4) = false := beq_eq_false_iff_ne.2 (by omega)
   have n5 : (r.k == 5) = false := beq_eq_false_iff_ne.2 (by omega)
   have n6 : (r.k == 6) = false := beq_eq_false_iff_ne.2 (by omega)
   have n7 : (r.k == 7) = false := beq_eq_false_iff_ne.2 (by omega)
   have e1 : pcL (l0 ++ [r]) n = pcL l0 n := by simp only [pcL, pieceF_snoc, isPc, n0, n1, n2, n3, n4, n5, n6, n7, Bool.and_false, Bool.false_eq_true, if_false]
   have e2 : pcA (l0 ++ [r]) n = pcA l0 n := by simp only [pcA, someF_snoc, isPc, n0, n1, n2, n3, n4, n5, n6, n7, Bool.and_false, Bool.or_false]
   rw [e1, e2]
   exact ⟨h1, h2⟩
theorem blk_last (n : Int) : ∀ (l cur : List Record) (T : Int → Option (List ByteArray)), (∀ r ∈ cur, r.count = 0) → (blkT l cur T n).map catP = lastG n l cur ((T n).map catP)
 | [], _, _, _ => rfl
 | r :: t, cur, T, hz => by
  rw [blkT, lastG]
  by_cases hc : r.count = 0
  ·
   rw [if_pos hc, if_pos hc]
   exact blk_last n t _ T (fun x hx => by
    rcases List.mem_append.1 hx with h | h
    · exact hz x h
    · simp only [List.mem_singleton] at h; rw [h]; exact hc)
  ·
   rw [if_neg hc, if_neg hc, blk_last n t [] _ (fun x hx => by simp at hx)]
   congr 1
   obtain ⟨h1, _⟩ := fr_text _ cur rfl hz n
   rw [text8, takeT, h1]
   cases hq : pcA cur n with
   | true => simp
   | false => simp
theorem scan_blk (L : List Record) : scanB L = mkF (fun n => (blkT L [] (fun _ => none) n).map catP) 0 64 := by
 rw [scanB]
 congr 1
 funext n
 exact (blk_last n L [] (fun _ => none) (fun x hx => absurd hx List.not_mem_nil)).symm
theorem mpf_mono {ty : Nat} {V0 V V' : Vw} {es : List (Int × Value)} {T : Int → Option (List ByteArray)} (h : MpF ty V0 V es T) (hle : V.le V') : MpF ty V0 V' es T := ⟨h.r.mono hle, h.fresh, h.inj, h.nodup⟩
theorem set_str (q : List ByteArray) (k : Nat) (t : ByteArray) : (q.map Value.string).toArray.setIfInBounds (0 + k) (.string t) = ((q.set k t).map Value.string).toArray := by
 rw [Nat.zero_add]
 apply Array.ext'
 simp
theorem flatS5 : ∀ D : List ByteArray, D.flatMap encS = D.map Value.string
 | [] => rfl
 | x :: r => by rw [List.flatMap_cons, flatS5 r]; rfl
theorem slP {V : Vw} {b ty : Nat} {p : List ByteArray} (hb : V.get b = some (pcOb ty p)) (hp : p.length = 8) : SlOf V encS 1 (slV b) p := by
 have := SlOf.ofBlock (enc := encS) (sz := 1) (l := p) (c := 8) hb (flatS5 p).symm (fun _ => rfl) (by omega)
 rw [hp] at this
 exact this
theorem frS_sizes {f : Int → Option (List ByteArray)} {r : Record} (hf : ∀ n p, f n = some p → ∀ s ∈ p, s.size ≤ 256) (hr : r.text.size ≤ 256) : ∀ n p, frS f r n = some p → ∀ s ∈ p, s.size ≤ 256 := by
 intro n p hp s hs
 rw [frS] at hp
 split at hp
 ·
  rw [pcS] at hp
  split at hp
  ·
   cases hp
   rcases List.mem_or_eq_of_mem_set hs with h | h
   ·
    cases hq : f n with
    | none =>
     rw [hq] at h
     have := List.eq_of_mem_replicate h
     subst this
     decide
    | some p0 => rw [hq] at h; exact hf n p0 hq s h
   · rw [h]; exact hr
  · exact hf n p hp s hs
 · exact hf n p hp s hs
theorem frT_sizes : ∀ (m : Nat) (l : List Record), l.length = m → (∀ r ∈ l, r.text.size ≤ 256) → ∀ n p, frT l n = some p → ∀ s ∈ p, s.size ≤ 256
 | 0, l, hm, _, n, p, hp => by
  have : l = [] := List.length_eq_zero_iff.1 hm
  subst this
  cases hp
 | m + 1, l, hm, hz, n, p, hp => by
  obtain ⟨l0, r, rfl⟩ : ∃ l0 r, l = l0 ++ [r] := ⟨l.dropLast, l.getLast (by intro h; rw [h] at hm; simp at hm), (List.dropLast_concat_getLast _).symm⟩
  rw [frT_snoc] at hp
  exact frS_sizes (frT_sizes m l0 (by simpa using hm) (fun x hx => hz x (by simp [hx]))) (hz r (by simp)) n p hp
theorem unseen_lt {m j : Nat} {seen : Array Nat} (hj : j < m) (hn : ¬ j ∈ seen) : ((List.range m).countP fun i => !(seen.push j).contains i) < (List.range m).countP fun i => !seen.contains i := by
 have h1 : ∀ i, (!(seen.push j).contains i) = true → (!seen.contains i) = true := fun i h => by
  simp at h ⊢
  exact fun h2 => h.1 h2
 obtain ⟨A, B, hAB⟩ := List.append_of_mem (List.mem_range.2 hj)
 rw [hAB, List.countP_append, List.countP_append, List.countP_cons, List.countP_cons]
 have e1 := List.countP_mono_left (l := A) (p := fun i => !(seen.push j).contains i) (q := fun i => !seen.contains i) (fun i _ => h1 i)
 have e2 := List.countP_mono_left (l := B) (p := fun i => !(seen.push j).contains i) (q := fun i => !seen.contains i) (fun i _ => h1 i)
 have e3 : (!(seen.push j).contains j) = false := by simp
 have e4 : (!seen.contains j) = true := by simpa using hn
 rw [e3, e4]
 simp only [Bool.false_eq_true, if_false, if_true]
 omega
theorem sblocks_c (V : Vw) (a : Option Addr) (n c : Nat) (l : List Record) (w : World) (hV : V.le (vw w)) (hs0 : SlOf V Record.cells 6 (.slice a n c) l) (hn : l.length ≤ 1000000) (hz : ∀ r ∈ l, r.text.size ≤ 256) :
  Calls Tryz.prog 85 #[.slice a n c] w (RowB (scanB (l.take (whole l))) w) := by
 have hs := hs0.mono hV
 have hwle := whole_le l
 have hwc := fun w1 hV1 => sWhole_c (vw w) a n c l w1 hV1 hs hn
 have hsL0 := sl_take hs hwle
 obtain ⟨L, hL⟩ : ∃ L, l.take (whole l) = L := ⟨_, rfl⟩
 have hzL : ∀ r ∈ L, r.text.size ≤ 256 := fun r hr => hz r (List.mem_of_mem_take (hL ▸ hr))
 have hmL : L.length = whole l := by rw [← hL, List.length_take]; omega
 rw [hL] at hsL0 ⊢
 generalize whole l = m at hwc hsL0 hmL hwle hL
 subst hmL
 refine enter (E := E0) (O := []) (nl := 0) (V := vw w) [.a (.v (.slice a n c))] Tryz.func85 rfl rfl (mem0 E0 0 w) rfl rfl ?_
 refine c_seq (c_region ?_)
 refine yO rfl rfl rfl rfl ?_
 refine o_end [0, 2] rfl ?_
 refine x_then ?_
 refine c_scope ?_
 refine c_seq (c_region ?_)
 refine o_step rfl rfl rfl rfl rfl (s_mkMapV rfl) (fun mt hmt => ?_)
 have hle0 : ∀ es, (vw w).le ((vw w).put mt (mvOb es)) := fun es => Vw.put_le (Vw.le.refl _) hmt
 iterate 2 refine yO rfl rfl rfl rfl ?_
 refine o_end [0, 2, 3, 4] rfl ?_
 refine x_then (c_seq (c_region ?_))
 refine yO rfl rfl rfl rfl ?_
 refine o_call (.a (.v _)) rfl rfl fnok98 rfl rfl rfl (fun hg E w1 hm => by exact hwc _ ((hle0 _).trans hm.leV)) ?_
 refine yO rfl rfl rfl rfl ?_
 refine o_end [2, 3, 4, 5] rfl ?_
 refine x_then (c_seq ?_)
 refine c_label ?_
 refine x_then (c_seq (c_seq (c_region ?_)))
 refine yO rfl rfl rfl rfl ?_
 refine o_yield rfl rfl rfl (y_len tok rfl (fun hg => (hsL0.mono (hle0 _)).sl)) ?_
 refine yO rfl rfl rfl rfl ?_
 refine o_end [2, 3, 4, 5, 17, 18, 19] rfl ?_
 refine x_then (c_block ?_)
 refine c_loopV [2, 3, 5, 17, 18] [] rfl rfl (σ := Nat × Nat × List (Int × Value) × (Int → Option (List ByteArray)) × Vw) (fun (i, f, es, T, Z) => [(4, .a (.v (I f))), (19, .a (.v (I i)))]) (fun (i, f, es, T, Z) => []) (fun (i, f, es, T, Z) => Z) (fun (i, f, es, T, Z) => (i ≤ L.length ∧ f ≤ i ∧ (vw w).le Z ∧ Z.get mt = some (mvOb es) ∧ MpR 9 Z es T ∧ blkT L [] (fun _ => none) = blkT (L.drop i) ((L.drop f).take (i - f)) T ∧ (∀ n p, T n = some p → ∀ s ∈ p, s.size ≤ 256))) (fun (i, f, es, T, Z) => L.length - i) ((0, 0, [], fun _ => none, (vw w).put mt (mvOb []))) (⟨by omega, by omega, hle0 _, Vw.put_get _ _ _, ⟨fun _ _ => rfl, fun _ _ h => (by cases h)⟩, rfl, fun _ _ h => (by cases h)⟩) (by repeat (first | exact fN | refine fC rfl ?_)) (by repeat (first | exact oN | refine oC rfl ?_)) rfl (Vw.le.refl _) ?_
 rintro ⟨i, f, es, T, Z⟩ ⟨hi, hfi, hZ, hmtZ, hT, hblk, hTz⟩
 dsimp only at hi hfi hZ hmtZ hT hblk hTz ⊢
 refine c_seq (c_region ?_)
 refine yO rfl rfl rfl rfl ?_
 refine o_end [2, 3, 4, 5, 17, 18, 19, 20] rfl ?_
 refine x_then (c_seq ?_)
 refine c_cond rfl (fun h => ?_) (fun h => ?_)
 ·
  simp only [Xa, Xb, Xc, Xd, Xe, Xf, Xg, Xh, Xi, Xj, Xk, Xl, Xm, Xn, Xo, Xp] at h
  obtain ⟨r, h_r⟩ : ∃ r, L[i]? = some r := ⟨_, List.getElem?_eq_getElem (by omega)⟩
  have hlti := lt_of_at h_r
  clear h
  have hsLZ := hsL0.mono hZ
  have hdrop : L.drop i = r :: L.drop (i + 1) := drop_at h_r
  have hwi : IntKind.i64.wrap ((i : Int) + 1) = ((i + 1 : Nat) : Int) := wrapI (by omega) (by omega)
  rw [hdrop, blkT] at hblk
  refine c_skip (x_then (c_seq (c_block (c_seq (c_region ?_)))))
  refine yO rfl rfl rfl rfl ?_
  have hlt_r := lt_of_at h_r
  refine o_yield rfl rfl rfl (y_idx tok rfl (fun hg => hsLZ.sl) (fun hg => ⟨by omega, by omega⟩)) ?_
  refine o_yield rfl rfl rfl (y_lel tok (i) 0 (r) rfl (fun hg => hsLZ) (fun hg => h_r) rfl rfl) ?_
  refine o_new tok rfl rfl rfl rfl ?_
  refine yO rfl rfl rfl rfl ?_
  refine o_store tok rfl rfl rfl (by first | (repeat' first | exact trivial | exact rfl | apply And.intro); done | simp [onesP, oneP, lk, Value.oneCell']) ?_
  refine o_end [2, 3, 4, 5, 6, 7, 17, 18, 19] rfl ?_
  refine x_then (c_seq (c_seq (c_region ?_)))
  iterate 3 refine yO rfl rfl rfl rfl ?_
  refine o_end [2, 3, 4, 5, 6, 17, 18, 19, 26] rfl ?_
  refine x_then ?_
  refine c_cond rfl (fun h => ?_) (fun h => ?_)
  ·
   simp only [Xa, Xb, Xc, Xd, Xe, Xf, Xg, Xh, Xi, Xj, Xk, Xl, Xm, Xn, Xo, Xp] at h
   refine c_exit (x_then_exit (x_block_hit (x_then (c_region ?_))))
   iterate 2 refine yO rfl rfl rfl rfl ?_
   refine o_end [2, 3, 4, 5, 17, 18, 19] rfl ?_
   refine x_then ?_
   rw [if_pos h, ← cut_snoc hfi h_r] at hblk
   rw [hwi]
   refine x_round ((i + 1, f, es, T, Z)) (⟨by dsimp only; omega, by dsimp only; omega, hZ, hmtZ, hT, hblk, hTz⟩) (by first | omega | (dsimp only; omega)) (by repeat (first | exact fN | refine fC rfl ?_)) (by repeat (first | exact oN | refine oC rfl ?_)) rfl (Vw.le.refl _)
  ·
   simp only [Xa, Xb, Xc, Xd, Xe, Xf, Xg, Xh, Xi, Xj, Xk, Xl, Xm, Xn, Xo, Xp] at h
   rw [if_neg h] at hblk
   clear h
   have hcut0 := hsLZ.cut (lo := f) (hi := i) hfi (by omega)
   obtain ⟨cur, hcur⟩ : ∃ cur, (L.drop f).take (i - f) = cur := ⟨_, rfl⟩
   have hcn : cur.length ≤ 1000000 := by rw [← hcur, List.length_take, List.length_drop]; omega
   have hcz : ∀ r ∈ cur, r.text.size ≤ 256 := fun r hr => hzL r (List.mem_of_mem_drop (List.mem_of_mem_take (hcur ▸ hr)))
   rw [hcur] at hcut0 hblk
   refine c_skip (x_then (c_seq (c_region ?_)))
   iterate 4 refine yO rfl rfl rfl rfl ?_
   refine o_yield rfl rfl rfl (y_sl tok rfl (fun hg => hsLZ.sl) (fun hg => by dsimp only [Option.getD]; omega)) ?_
   rw [show ((some (f : Int)).getD 0).toNat = f from rfl, show ((some (i : Int)).getD (L.length : Int)).toNat = i from rfl]
   obtain ⟨xa, xn, xc, hX⟩ : ∃ xa xn xc, sliceV (.slice a L.length L.length) f i 6 = .slice xa xn xc := ⟨_, _, _, rfl⟩
   rw [hX] at hcut0 ⊢
   refine o_inl rfl rfl rfl rfl rfl fnok99 Tryz.func99 rfl rfl rfl (fun E => ?_)
   refine c_seq (c_region ?_)
   refine o_step rfl rfl rfl rfl rfl (s_mkMapV rfl) (fun mf hmf => ?_)
   have hlef : ∀ es, Z.le (Z.put mf (mvOb es)) := fun es => Vw.put_le (Vw.le.refl _) hmf
   refine yO rfl rfl rfl rfl ?_
   refine o_end [0, 1, 4] rfl ?_
   refine x_then (c_seq (c_seq (c_region ?_)))
   refine yO rfl rfl rfl rfl ?_
   refine o_yield rfl rfl rfl (y_len tok rfl (fun hg => (hcut0.mono (hlef _)).sl)) ?_
   refine yO rfl rfl rfl rfl ?_
   refine o_end [0, 4, 11, 12, 13] rfl ?_
   refine x_then (c_block ?_)
   refine c_loopV [0, 4, 11, 12] [] rfl rfl (σ := Nat × List (Int × Value) × Vw) (fun (k, ef, Y) => [(13, .a (.v (I k)))]) (fun (k, ef, Y) => []) (fun (k, ef, Y) => Y) (fun (k, ef, Y) => (k ≤ cur.length ∧ Z.le Y ∧ Y.get mf = some (mvOb ef) ∧ MpF 9 Z Y ef (frT (cur.take k)))) (fun (k, ef, Y) => cur.length - k) ((0, [], Z.put mf (mvOb []))) (⟨by omega, hlef _, Vw.put_get _ _ _, ⟨⟨fun _ _ => rfl, fun _ _ h => (by cases h)⟩, fun _ _ h => (by cases h), fun _ _ _ h => (by cases h), List.nodup_nil⟩⟩) (by repeat (first | exact fN | refine fC rfl ?_)) (by repeat (first | exact oN | refine oC rfl ?_)) rfl (Vw.le.refl _) ?_
   rintro ⟨k, ef, Y⟩ ⟨hk, hZY, hYmf, hF⟩
   dsimp only at hk hZY hYmf hF ⊢
   refine c_seq (c_region ?_)
   refine yO rfl rfl rfl rfl ?_
   refine o_end [0, 4, 11, 12, 13, 14] rfl ?_
   refine x_then (c_seq ?_)
   refine c_cond rfl (fun h => ?_) (fun h => ?_)
   ·
    simp only [Xa, Xb, Xc, Xd, Xe, Xf, Xg, Xh, Xi, Xj, Xk, Xl, Xm, Xn, Xo, Xp] at h
    obtain ⟨x, h_x⟩ : ∃ x, cur[k]? = some x := ⟨_, List.getElem?_eq_getElem (by omega)⟩
    have hltk := lt_of_at h_x
    clear h
    have hcutY := hcut0.mono hZY
    have hwk : IntKind.i64.wrap ((k : Int) + 1) = ((k + 1 : Nat) : Int) := wrapI (by omega) (by omega)
    cases hTx : frT (cur.take k) x.block with
    | none =>
     refine c_skip (x_then (c_seq (c_block (c_seq (c_region ?_)))))
     have hlt_x := lt_of_at h_x
     refine o_yield rfl rfl rfl (y_idx tok rfl (fun hg => hcutY.sl) (fun hg => ⟨by omega, by omega⟩)) ?_
     refine o_yield rfl rfl rfl (y_lel tok (k) 0 (x) rfl (fun hg => hcutY) (fun hg => h_x) rfl rfl) ?_
     refine o_new tok rfl rfl rfl rfl ?_
     refine o_store tok rfl rfl rfl (by first | (repeat' first | exact trivial | exact rfl | apply And.intro); done | simp [onesP, oneP, lk, Value.oneCell']) ?_
     refine o_end [0, 4, 6, 11, 12, 13] rfl ?_
     refine x_then (c_seq (c_region ?_))
     iterate 3 refine yO rfl rfl rfl rfl ?_
     refine o_yield rfl rfl rfl (y_lkpV ef (.slice none 0 0) rfl Tryz.underlying144 Tryz.underlying3 (fun w => Tryz.zeroValue24 w) (fun hg => hYmf) (fun hg => by rw [hF.r.none_ _ hTx]; rfl)) ?_
     refine yO rfl rfl rfl rfl ?_
     refine o_end [0, 4, 6, 7, 11, 12, 13] rfl ?_
     refine x_then (c_seq (c_seq (c_region ?_)))
     refine yO rfl rfl rfl rfl ?_
     refine o_yield rfl rfl rfl (y_seq (.bool true) rfl (fun E w => run_slEqN 0 0 Tryz.underlying24 w)) ?_
     refine o_end [0, 4, 6, 7, 11, 12, 13, 22] rfl ?_
     refine x_then ?_
     refine c_cond rfl (fun h => ?_) (fun h => ?_)
     ·
      refine c_region ?_
      refine o_step rfl rfl rfl rfl rfl (s_mkV tok 8 8 rfl rfl rfl (by decide) (by decide) (by decide)) (fun b hbY => ?_)
      obtain ⟨Vp, hVpe⟩ : ∃ Vp, Vp = Y.put b (pcOb 9 no8) := ⟨_, rfl⟩
      have hVpe2 : Y.put b (.cells (repZ 8 [.string ByteArray.empty]).toArray 9 (0, 0)) = Vp := hVpe.symm
      have hVp : Y.le Vp := by rw [hVpe]; exact Vw.put_le (Vw.le.refl _) hbY
      have hbq : Vp.get b = some (pcOb 9 no8) := by rw [hVpe]; exact Vw.put_get _ _ _
      have hb0 : Z.get b = none := by
       cases hq : Z.get b with
       | none => rfl
       | some o => have := hZY.get _ _ hq; rw [hbY] at this; cases this
      have hmfb : mf ≠ b := fun e => by rw [← e, hYmf] at hbY; cases hbY
      have hq8 : no8.length = 8 := rfl
      have hcase : (frT (cur.take k) x.block = some no8 ∧ mvGet ef x.block = some (slV b)) ∨ (frT (cur.take k) x.block = none ∧ no8 = no8 ∧ Y.get b = none) := .inr ⟨hTx, rfl, hbY⟩
      have hpnil : True := trivial
      rw [hVpe2]
      refine yO rfl rfl rfl rfl ?_
      refine o_end [0, 4, 6, 7, 11, 12, 13] rfl ?_
      refine x_then (c_seq (c_region ?_))
      iterate 7 refine yO rfl rfl rfl rfl ?_
      clear hpnil
      have hspV : IsSl Vp (slV b) 1 8 (no8.flatMap encS) := by
       have := (slP hbq hq8).sl
       rwa [hq8] at this
      refine o_yield rfl rfl rfl (y_lenP tok rfl) ?_
      iterate 2 refine yO rfl rfl rfl rfl ?_
      refine o_end [0, 4, 6, 7, 11, 12, 13, 33] rfl ?_
      refine x_then ?_
      refine c_cond rfl (fun h => ?_) (fun h => ?_)
      ·
       simp only [Xa, Xb, Xc, Xd, Xe, Xf, Xg, Xh, Xi, Xj, Xk, Xl, Xm, Xn, Xo, Xp] at h
       refine c_seq (c_region ?_)
       iterate 5 refine yO rfl rfl rfl rfl ?_
       have hk8 : x.k.toNat < 8 := by omega
       refine o_yield rfl rfl rfl (y_idxK tok x.k.toNat rfl (by simp) (fun hg => hspV) (fun hg => by omega)) ?_
       refine o_stepN rfl rfl rfl rfl (s_vst tok (b := b) (off := 0) rfl hbq (by simp; omega) (.inl (Nat.zero_le _)) rfl) (fun _ _ => ?_)
       refine o_end [0, 4, 6, 7, 11, 12, 13] rfl ?_
       refine x_then (c_region ?_)
       iterate 4 refine yO rfl rfl rfl rfl ?_
       rw [set_str]
       refine o_stepN rfl rfl rfl rfl (s_mapPut ef rfl rfl Tryz.underlying144 Tryz.underlying3 ((Vw.put_other _ _ hmfb).trans (hVp.get _ _ hYmf))) (fun _ _ => ?_)
       refine o_end [0, 4, 11, 12, 13] rfl ?_
       refine x_block (x_then (c_region ?_))
       iterate 2 refine yO rfl rfl rfl rfl ?_
       refine o_end [0, 4, 11, 12, 13] rfl ?_
       refine x_then ?_
       obtain ⟨hs1, hs2⟩ := mp_step (blk := x.block) (k := x.k) (t := x.text) hF hZY hVp hYmf hmf hbq hq8 hb0 hcase
       have hfr : frT (cur.take (k + 1)) = pcS (frT (cur.take k)) x.block x.k x.text := by rw [rp_take h_x, frT_snoc, frS, if_pos (by omega)]
       rw [← hfr] at hs1
       rw [hwk]
       refine x_round ((k + 1, mvPut ef x.block (slV b), (Vp.put b (pcOb 9 (no8.set x.k.toNat x.text))).put mf (mvOb (mvPut ef x.block (slV b))))) (⟨by dsimp only; omega, hs2, Vw.put_get _ _ _, hs1⟩) (by first | omega | (dsimp only; omega)) (by repeat (first | exact fN | refine fC rfl ?_)) (by repeat (first | exact oN | refine oC rfl ?_)) rfl (Vw.le.refl _)
      ·
       simp only [Xa, Xb, Xc, Xd, Xe, Xf, Xg, Xh, Xi, Xj, Xk, Xl, Xm, Xn, Xo, Xp] at h
       refine c_skip (x_block (x_then (c_region ?_)))
       iterate 2 refine yO rfl rfl rfl rfl ?_
       refine o_end [0, 4, 11, 12, 13] rfl ?_
       refine x_then ?_
       have hfr : frT (cur.take (k + 1)) = frT (cur.take k) := by rw [rp_take h_x, frT_snoc, frS, if_neg (by omega)]
       rw [hwk]
       refine x_round ((k + 1, ef, Vp)) (⟨by dsimp only; omega, hZY.trans hVp, hVp.get _ _ hYmf, by dsimp only; rw [hfr]; exact mpf_mono hF hVp⟩) (by first | omega | (dsimp only; omega)) (by repeat (first | exact fN | refine fC rfl ?_)) (by repeat (first | exact oN | refine oC rfl ?_)) rfl (Vw.le.refl _)
     ·
      exact absurd h (by decide)
    | some q =>
     obtain ⟨b, hgb, hbY, hq8⟩ := hF.r.some_ _ _ hTx
     refine c_skip (x_then (c_seq (c_block (c_seq (c_region ?_)))))
     have hlt_x := lt_of_at h_x
     refine o_yield rfl rfl rfl (y_idx tok rfl (fun hg => hcutY.sl) (fun hg => ⟨by omega, by omega⟩)) ?_
     refine o_yield rfl rfl rfl (y_lel tok (k) 0 (x) rfl (fun hg => hcutY) (fun hg => h_x) rfl rfl) ?_
     refine o_new tok rfl rfl rfl rfl ?_
     refine o_store tok rfl rfl rfl (by first | (repeat' first | exact trivial | exact rfl | apply And.intro); done | simp [onesP, oneP, lk, Value.oneCell']) ?_
     refine o_end [0, 4, 6, 11, 12, 13] rfl ?_
     refine x_then (c_seq (c_region ?_))
     iterate 3 refine yO rfl rfl rfl rfl ?_
     refine o_yield rfl rfl rfl (y_lkpV ef (slV b) rfl Tryz.underlying144 Tryz.underlying3 (fun w => Tryz.zeroValue24 w) (fun hg => hYmf) (fun hg => by rw [hgb]; rfl)) ?_
     refine yO rfl rfl rfl rfl ?_
     refine o_end [0, 4, 6, 7, 11, 12, 13] rfl ?_
     refine x_then (c_seq (c_seq (c_region ?_)))
     refine yO rfl rfl rfl rfl ?_
     refine o_yield rfl rfl rfl (y_seq (.bool false) rfl (fun E w => run_slEqS ⟨b, 0, none⟩ 8 8 Tryz.underlying24 w)) ?_
     refine o_end [0, 4, 6, 7, 11, 12, 13, 22] rfl ?_
     refine x_then ?_
     refine c_cond rfl (fun h => ?_) (fun h => ?_)
     ·
      exact absurd h (by decide)
     ·
      refine c_skip (x_then (c_seq (c_region ?_)))
      iterate 7 refine yO rfl rfl rfl rfl ?_
      have hpnil : True := trivial
      have hVp : Y.le Y := Vw.le.refl _
      obtain ⟨Vp, hVpe⟩ : ∃ Vp, Vp = Y := ⟨_, rfl⟩
      have hbq : Y.get b = some (pcOb 9 q) := hbY
      have hb0 : Z.get b = none := hF.fresh _ _ hgb
      have hmfb : mf ≠ b := fun e => by rw [← e, hYmf] at hbY; cases hbY
      have hcase : (frT (cur.take k) x.block = some q ∧ mvGet ef x.block = some (slV b)) ∨ (frT (cur.take k) x.block = none ∧ q = no8 ∧ Y.get b = none) := .inl ⟨hTx, hgb⟩
      clear hpnil
      have hspV : IsSl Y (slV b) 1 8 (q.flatMap encS) := by
       have := (slP hbq hq8).sl
       rwa [hq8] at this
      refine o_yield rfl rfl rfl (y_lenP tok rfl) ?_
      iterate 2 refine yO rfl rfl rfl rfl ?_
      refine o_end [0, 4, 6, 7, 11, 12, 13, 33] rfl ?_
      refine x_then ?_
      refine c_cond rfl (fun h => ?_) (fun h => ?_)
      ·
       simp only [Xa, Xb, Xc, Xd, Xe, Xf, Xg, Xh, Xi, Xj, Xk, Xl, Xm, Xn, Xo, Xp] at h
       refine c_seq (c_region ?_)
       iterate 5 refine yO rfl rfl rfl rfl ?_
       have hk8 : x.k.toNat < 8 := by omega
       refine o_yield rfl rfl rfl (y_idxK tok x.k.toNat rfl (by simp) (fun hg => hspV) (fun hg => by omega)) ?_
       refine o_stepN rfl rfl rfl rfl (s_vst tok (b := b) (off := 0) rfl hbq (by simp; omega) (.inl (Nat.zero_le _)) rfl) (fun _ _ => ?_)
       refine o_end [0, 4, 6, 7, 11, 12, 13] rfl ?_
       refine x_then (c_region ?_)
       iterate 4 refine yO rfl rfl rfl rfl ?_
       rw [set_str]
       refine o_stepN rfl rfl rfl rfl (s_mapPut ef rfl rfl Tryz.underlying144 Tryz.underlying3 ((Vw.put_other _ _ hmfb).trans (hVp.get _ _ hYmf))) (fun _ _ => ?_)
       refine o_end [0, 4, 11, 12, 13] rfl ?_
       refine x_block (x_then (c_region ?_))
       iterate 2 refine yO rfl rfl rfl rfl ?_
       refine o_end [0, 4, 11, 12, 13] rfl ?_
       refine x_then ?_
       obtain ⟨hs1, hs2⟩ := mp_step (blk := x.block) (k := x.k) (t := x.text) hF hZY hVp hYmf hmf hbq hq8 hb0 hcase
       have hfr : frT (cur.take (k + 1)) = pcS (frT (cur.take k)) x.block x.k x.text := by rw [rp_take h_x, frT_snoc, frS, if_pos (by omega)]
       rw [← hfr] at hs1
       rw [hwk]
       refine x_round ((k + 1, mvPut ef x.block (slV b), (Y.put b (pcOb 9 (q.set x.k.toNat x.text))).put mf (mvOb (mvPut ef x.block (slV b))))) (⟨by dsimp only; omega, hs2, Vw.put_get _ _ _, hs1⟩) (by first | omega | (dsimp only; omega)) (by repeat (first | exact fN | refine fC rfl ?_)) (by repeat (first | exact oN | refine oC rfl ?_)) rfl (Vw.le.refl _)
      ·
       simp only [Xa, Xb, Xc, Xd, Xe, Xf, Xg, Xh, Xi, Xj, Xk, Xl, Xm, Xn, Xo, Xp] at h
       refine c_skip (x_block (x_then (c_region ?_)))
       iterate 2 refine yO rfl rfl rfl rfl ?_
       refine o_end [0, 4, 11, 12, 13] rfl ?_
       refine x_then ?_
       have hfr : frT (cur.take (k + 1)) = frT (cur.take k) := by rw [rp_take h_x, frT_snoc, frS, if_neg (by omega)]
       rw [hwk]
       refine x_round ((k + 1, ef, Y)) (⟨by dsimp only; omega, hZY.trans hVp, hVp.get _ _ hYmf, by dsimp only; rw [hfr]; exact mpf_mono hF hVp⟩) (by first | omega | (dsimp only; omega)) (by repeat (first | exact fN | refine fC rfl ?_)) (by repeat (first | exact oN | refine oC rfl ?_)) rfl (Vw.le.refl _)
   ·
    simp only [Xa, Xb, Xc, Xd, Xe, Xf, Xg, Xh, Xi, Xj, Xk, Xl, Xm, Xn, Xo, Xp] at h
    have hkc : k = cur.length := by omega
    subst hkc
    clear h
    rw [List.take_of_length_le (Nat.le_refl _)] at hF
    have hFz := frT_sizes _ cur rfl hcz
    obtain ⟨F, hFe⟩ : ∃ F, frT cur = F := ⟨_, rfl⟩
    rw [hFe] at hF hblk hFz
    have hmtY : Y.get mt = some (mvOb es) := hZY.get _ _ hmtZ
    have hmtf : mt ≠ mf := fun e => by rw [e, hmf] at hmtZ; cases hmtZ
    have hTY := hT.mono hZY
    refine c_exit (x_then_exit (x_then_exit (x_block_hit (x_then (c_seq ?_)))))
    refine c_region ?_
    refine yO rfl rfl rfl rfl ?_
    refine o_step rfl rfl rfl rfl rfl (s_rng ef rfl Tryz.underlying144 hYmf) (fun rr hrr => ?_)
    have hrt : rr ≠ mt := fun e => by rw [e, hmtY] at hrr; cases hrr
    have hrf : rr ≠ mf := fun e => by rw [e, hYmf] at hrr; cases hrr
    have hinit : ((Y.put rr (itOb mf ef.length #[] ef.length)).put mt (mvOb es)).le (Y.put rr (itOb mf ef.length #[] ef.length)) := by
     rw [Vw.put_self ((Vw.put_other _ _ hrt.symm).trans hmtY)]
     exact Vw.le.refl _
    refine o_end [0, 46] rfl ?_
    refine x_then (c_block ?_)
    refine c_loopV [0, 46] [] rfl rfl (σ := Array Nat × List (Int × Value) × Nat) (fun (seen, et, cl) => []) (fun (seen, et, cl) => []) (fun (seen, et, cl) => (Y.put rr (itOb mf ef.length seen cl)).put mt (mvOb et)) (fun (seen, et, cl) => (ef.length ≤ cl ∧ (∀ n, (∃ (i : Nat) (v : Value), i ∈ seen ∧ ef[i]? = some (n, v)) → mvGet et n = mvGet ef n) ∧ (∀ n, ¬ (∃ (i : Nat) (v : Value), i ∈ seen ∧ ef[i]? = some (n, v)) → mvGet et n = mvGet es n))) (fun (seen, et, cl) => (List.range ef.length).countP (fun i => !seen.contains i)) ((#[], es, ef.length)) (⟨Nat.le_refl _, fun n ⟨i, v, hi, _⟩ => (by simp at hi), fun n _ => rfl⟩) (by repeat (first | exact fN | refine fC rfl ?_)) (by repeat (first | exact oN | refine oC rfl ?_)) rfl (hinit) ?_
    rintro ⟨seen, et, cl⟩ ⟨hcl, hA, hB⟩
    dsimp only at hcl hA hB ⊢
    have hgr : ((Y.put rr (itOb mf ef.length seen cl)).put mt (mvOb et)).get rr = some (itOb mf ef.length seen cl) := by rw [Vw.put_other _ _ hrt, Vw.put_get]
    have hgf : ((Y.put rr (itOb mf ef.length seen cl)).put mt (mvOb et)).get mf = some (mvOb ef) := by rw [Vw.put_other _ _ hmtf.symm, Vw.put_other _ _ hrf.symm]; exact hYmf
    refine c_seq (c_region ?_)
    refine o_step rfl rfl rfl rfl rfl (s_nxt ef rfl hgr hcl hgf) (fun q hq => ?_)
    rcases q with _ | ⟨j, kk, vv⟩
    rotate_left
    ·
     obtain ⟨hj, hjs⟩ := hq
     have hjl := lt_of_at hj
     dsimp only
     refine yO rfl rfl rfl rfl ?_
     refine o_end [0, 46, 48] rfl ?_
     refine x_then (c_seq ?_)
     refine c_cond rfl (fun h => ?_) (fun h => ?_)
     ·
      refine c_skip (x_then (c_block (c_seq (c_region ?_))))
      refine o_yield rfl rfl rfl (y_ent ef rfl (fun hg => Vw.put_get _ _ _) (fun hg => (Vw.put_other _ _ hrf.symm).trans hgf) (fun hg => hj)) ?_
      iterate 4 refine yO rfl rfl rfl rfl ?_
      refine o_end [0, 8, 9, 46] rfl ?_
      refine x_then (c_region ?_)
      iterate 3 refine yO rfl rfl rfl rfl ?_
      refine o_stepN rfl rfl rfl rfl (s_mapPut et rfl rfl Tryz.underlying144 Tryz.underlying3 ((Vw.put_other _ _ hrt.symm).trans (Vw.put_get _ _ _))) (fun _ _ => ?_)
      refine o_end [0, 46] rfl ?_
      refine x_block (x_then ?_)
      rw [Vw.put4 _ _ _ _ _ hrt]
      have hA2 : ∀ n, (∃ (i : Nat) (v : Value), i ∈ seen.push j ∧ ef[i]? = some (n, v)) → mvGet (mvPut et kk vv) n = mvGet ef n := by
       rintro n ⟨i2, v2, hi2, he2⟩
       rw [mvGet_put]
       split
       · rename_i e; subst e; exact (mvGet_at hF.nodup hj).symm
       ·
        rename_i hne
        rw [Array.mem_push] at hi2
        rcases hi2 with hi2 | rfl
        · exact hA n ⟨i2, v2, hi2, he2⟩
        · rw [hj] at he2; cases he2; exact absurd rfl hne
      have hB2 : ∀ n, ¬ (∃ (i : Nat) (v : Value), i ∈ seen.push j ∧ ef[i]? = some (n, v)) → mvGet (mvPut et kk vv) n = mvGet es n := by
       intro n hno
       rw [mvGet_put, if_neg (fun e => hno ⟨j, vv, by simp, by rw [hj, e]⟩)]
       exact hB n (fun ⟨i2, v2, hi2, he2⟩ => hno ⟨i2, v2, by rw [Array.mem_push]; exact .inl hi2, he2⟩)
      have hms := unseen_lt hjl hjs
      refine x_round ((seen.push j, mvPut et kk vv, ef.length)) (⟨Nat.le_refl _, hA2, hB2⟩) (by first | omega | (dsimp only; omega)) (by repeat (first | exact fN | refine fC rfl ?_)) (by repeat (first | exact oN | refine oC rfl ?_)) rfl (Vw.le.refl _)
     ·
      exact absurd h (by decide)
    ·
     dsimp only at hq ⊢
     refine yO rfl rfl rfl rfl ?_
     refine o_end [0, 46, 48] rfl ?_
     refine x_then (c_seq ?_)
     refine c_cond rfl (fun h => ?_) (fun h => ?_)
     ·
      exact absurd h (by decide)
     ·
      refine c_exit (x_then_exit (x_then_exit (x_block_hit ?_)))
      refine b_end tok rfl ?_
      intro E1 w1 hm1 hok1
      refine inl_end (E := E) hm1 hok1 rfl rfl (by repeat (first | exact KeepsIn.zero | refine KeepsIn.succ rfl ?_)) rfl (by repeat (first | exact oN | refine oC rfl ?_)) rfl ?_
      clear hm1 hok1 w1 E1 E
      refine o_end [2, 3, 5, 6, 17, 18, 19] rfl ?_
      refine x_then (c_region ?_)
      iterate 3 refine yO rfl rfl rfl rfl ?_
      refine o_end [2, 3, 4, 5, 17, 18, 19] rfl ?_
      refine x_block (x_then (c_region ?_))
      iterate 2 refine yO rfl rfl rfl rfl ?_
      refine o_end [2, 3, 4, 5, 17, 18, 19] rfl ?_
      refine x_then ?_
      have hfin : ∀ n, mvGet et n = match mvGet ef n with | some v => some v | none => mvGet es n := by
       intro n
       cases hq2 : mvGet ef n with
       | some v =>
        obtain ⟨i2, hi2⟩ := at_mvGet hq2
        exact (hA n ⟨i2, v, hq i2 (lt_of_at hi2), hi2⟩).trans hq2
       | none =>
        refine hB n ?_
        rintro ⟨i2, v2, _, he2⟩
        rw [mvGet_at hF.nodup he2] at hq2
        cases hq2
      have hkeep : ∀ b p, Y.get b = some (pcOb 9 p) → ((Y.put rr (itOb mf ef.length seen cl)).put mt (mvOb et)).get b = some (pcOb 9 p) := by
       intro b p hb
       have h1 : b ≠ mt := fun e => by rw [e, hmtY] at hb; cases hb
       have h2 : b ≠ rr := fun e => by rw [e, hrr] at hb; cases hb
       rw [Vw.put_other _ _ h1, Vw.put_other _ _ h2]
       exact hb
      have hR : MpR 9 ((Y.put rr (itOb mf ef.length seen cl)).put mt (mvOb et)) et (takeT T F) := by
       refine ⟨fun n hn => ?_, fun n p hp => ?_⟩
       ·
        rw [takeT] at hn
        rw [hfin]
        cases hq2 : F n with
        | some p => rw [hq2] at hn; cases hn
        | none =>
         rw [hq2] at hn
         rw [hF.r.none_ n hq2]
         exact hTY.none_ n hn
       ·
        rw [takeT] at hp
        rw [hfin]
        cases hq2 : F n with
        | some p2 =>
         rw [hq2] at hp
         cases hp
         obtain ⟨b, h1, h2, h3⟩ := hF.r.some_ n p hq2
         exact ⟨b, by rw [h1], hkeep b p h2, h3⟩
        | none =>
         rw [hq2] at hp
         obtain ⟨b, h1, h2, h3⟩ := hTY.some_ n p hp
         exact ⟨b, by rw [hF.r.none_ n hq2]; exact h1, hkeep b p h2, h3⟩
      have hsz : ∀ n p, takeT T F n = some p → ∀ s ∈ p, s.size ≤ 256 := by
       intro n p hp
       rw [takeT] at hp
       cases hq2 : F n with
       | some p2 => rw [hq2] at hp; cases hp; exact hFz n p hq2
       | none => rw [hq2] at hp; exact hTz n p hp
      have hwZ : (vw w).le ((Y.put rr (itOb mf ef.length seen cl)).put mt (mvOb et)) := by
       have h0 := hZ.trans hZY
       refine ⟨fun k o hk => ?_, h0.os, h0.tape, h0.output⟩
       have h1 : k ≠ mt := fun e => by rw [e, hmt] at hk; cases hk
       have h2 : k ≠ rr := fun e => by have := h0.get _ _ hk; rw [e, hrr] at this; cases this
       rw [Vw.put_other _ _ h1, Vw.put_other _ _ h2]
       exact h0.get _ _ hk
      rw [hwi]
      refine x_round ((i + 1, i + 1, et, takeT T F, (Y.put rr (itOb mf ef.length seen cl)).put mt (mvOb et))) (⟨by dsimp only; omega, Nat.le_refl _, hwZ, Vw.put_get _ _ _, hR, by dsimp only; rw [Nat.sub_self, List.take_zero]; exact hblk, hsz⟩) (by first | omega | (dsimp only; omega)) (by repeat (first | exact fN | refine fC rfl ?_)) (by repeat (first | exact oN | refine oC rfl ?_)) rfl (Vw.le.refl _)
 ·
  simp only [Xa, Xb, Xc, Xd, Xe, Xf, Xg, Xh, Xi, Xj, Xk, Xl, Xm, Xn, Xo, Xp] at h
  have hiL : i = L.length := by omega
  subst hiL
  clear h
  rw [List.drop_length, blkT] at hblk
  have hsc : scanB L = mkF (fun n => (T n).map catP) 0 64 := by rw [scan_blk, hblk]
  generalize hF : (fun n => (T n).map catP) = f8 at hsc
  refine c_exit (x_then_exit (x_then_exit (x_block_hit (x_then (c_seq ?_)))))
  refine c_seq (c_region ?_)
  refine yO rfl rfl rfl rfl ?_
  refine o_end [2, 3, 36] rfl ?_
  refine x_then (c_block ?_)
  refine k_nil 2 72 2 rfl rfl ?_
  have e0 : mkF f8 0 0 = [] := rfl
  refine c_loopK [3] [0] rfl rfl (σ := Nat) (fun j => [(2, .a (.row 0)), (36, .a (.v (I j)))]) (fun j => [(0, .row 72 2 (mkF f8 0 j).length ((mkF f8 0 j).flatMap Block.cells))]) (fun j => j ≤ 64) (fun j => 64 - j) (0) (by omega) (by repeat (first | exact SubF.nil | refine SubF.cons rfl ?_ | refine SubF.cons (by simp only [e0]; first | done | rfl) ?_)) (by repeat (first | exact SubO.nil | refine SubO.cons rfl ?_ | refine SubO.cons (by simp only [e0]; first | done | rfl) ?_)) rfl ?_
  rintro j hj
  have hml := mkF_len f8 j 0
  refine c_seq (c_region ?_)
  refine yO rfl rfl rfl rfl ?_
  refine o_end [2, 3, 36, 37] rfl ?_
  refine x_then (c_seq ?_)
  refine c_cond rfl (fun h => ?_) (fun h => ?_)
  ·
   simp only [Xa, Xb, Xc, Xd, Xe, Xf, Xg, Xh, Xi, Xj, Xk, Xl, Xm, Xn, Xo, Xp] at h
   have hjlt : j < 64 := by omega
   clear h
   have hwj : IntKind.i64.wrap ((j : Int) + 1) = ((j + 1 : Nat) : Int) := wrapI (by omega) (by omega)
   have hfj : f8 (j : Int) = (T (j : Int)).map catP := by rw [← hF]
   have hsn := mkF_snoc f8 j 0
   rw [Int.zero_add, hfj] at hsn
   cases hTj : T (j : Int) with
   | none =>
    rw [hTj] at hsn
    have hsn2 : mkF f8 0 (j + 1) = mkF f8 0 j := by rw [hsn]; exact List.append_nil _
    refine c_skip (x_then (c_seq (c_block (c_seq (c_region ?_)))))
    iterate 2 refine yO rfl rfl rfl rfl ?_
    refine o_end [2, 3, 8, 36] rfl ?_
    refine x_then (c_seq (c_region ?_))
    iterate 2 refine yO rfl rfl rfl rfl ?_
    refine o_yield rfl rfl rfl (y_lkpV2 es (.slice none 0 0) false rfl Tryz.underlying144 Tryz.underlying3 (fun w => Tryz.zeroValue24 w) (fun hg => hmtZ) (fun hg => by rw [hT.none_ _ hTj]; exact ⟨rfl, rfl⟩)) ?_
    iterate 5 refine yO rfl rfl rfl rfl ?_
    refine o_end [2, 3, 8, 9, 10, 36] rfl ?_
    refine x_then (c_seq (c_seq (c_region ?_)))
    iterate 2 refine yO rfl rfl rfl rfl ?_
    refine o_end [2, 3, 8, 9, 36, 46] rfl ?_
    refine x_then ?_
    refine c_cond rfl (fun h => ?_) (fun h => ?_)
    ·
     refine c_exit (x_then_exit (x_block_hit (x_then (c_region ?_))))
     iterate 2 refine yO rfl rfl rfl rfl ?_
     refine o_end [2, 3, 36] rfl ?_
     refine x_then ?_
     rw [hwj, ← hsn2]
     refine x_round (j + 1) (by omega) (by first | omega | (dsimp only; omega)) (by repeat (first | exact fN | refine fC rfl ?_)) (by repeat (first | exact oN | refine oC rfl ?_)) rfl (Vw.le.refl _)
    ·
     exact absurd h (by decide)
   | some p =>
    obtain ⟨b, hgb, hbZ, hp8⟩ := hT.some_ _ _ hTj
    have hpz := hTz _ _ hTj
    have hsp := slP hbZ hp8
    rw [hTj] at hsn
    have hsn2 : mkF f8 0 (j + 1) = mkF f8 0 j ++ [⟨(j : Int), catP p⟩] := hsn
    have hcsz : ∀ m : Nat, (catP (p.take m)).size ≤ 256 * m := by
     intro m
     induction m with
     | zero => simp [catP]
     | succ m ih =>
      by_cases hm : m < p.length
      ·
       obtain ⟨s, hs⟩ : ∃ s, p[m]? = some s := ⟨_, List.getElem?_eq_getElem hm⟩
       rw [rp_take hs, catP, List.foldl_append]
       have h1 := hpz s (List.mem_of_getElem? hs)
       have h2 : (List.foldl (· ++ ·) (List.foldl (· ++ ·) ByteArray.empty (p.take m)) [s]).size = (catP (p.take m)).size + s.size := by
        simp [catP, ByteArray.size_append]
       omega
      ·
       rw [List.take_of_length_le (by omega)]
       rw [List.take_of_length_le (by omega)] at ih
       omega
    refine c_skip (x_then (c_seq (c_block (c_seq (c_region ?_)))))
    iterate 2 refine yO rfl rfl rfl rfl ?_
    refine o_end [2, 3, 8, 36] rfl ?_
    refine x_then (c_seq (c_region ?_))
    iterate 2 refine yO rfl rfl rfl rfl ?_
    refine o_yield rfl rfl rfl (y_lkpV2 es (slV b) true rfl Tryz.underlying144 Tryz.underlying3 (fun w => Tryz.zeroValue24 w) (fun hg => hmtZ) (fun hg => by rw [hgb]; exact ⟨rfl, rfl⟩)) ?_
    iterate 5 refine yO rfl rfl rfl rfl ?_
    refine o_end [2, 3, 8, 9, 10, 36] rfl ?_
    refine x_then (c_seq (c_seq (c_region ?_)))
    iterate 2 refine yO rfl rfl rfl rfl ?_
    refine o_end [2, 3, 8, 9, 36, 46] rfl ?_
    refine x_then ?_
    refine c_cond rfl (fun h => ?_) (fun h => ?_)
    ·
     exact absurd h (by decide)
    ·
     refine c_skip (x_then (c_seq (c_region ?_)))
     iterate 2 refine yO rfl rfl rfl rfl ?_
     refine o_new tok rfl rfl rfl rfl ?_
     refine o_store tok rfl rfl rfl (by first | (repeat' first | exact trivial | exact rfl | apply And.intro); done | simp [onesP, oneP, lk, Value.oneCell']) ?_
     refine o_end [2, 3, 9, 11, 36] rfl ?_
     refine x_then (c_seq (c_seq (c_region ?_)))
     refine yO rfl rfl rfl rfl ?_
     refine o_yield rfl rfl rfl (y_lenP tok rfl) ?_
     refine yO rfl rfl rfl rfl ?_
     refine o_end [2, 3, 11, 36, 49, 50, 51] rfl ?_
     refine x_then (c_block ?_)
     refine c_loopK [2, 3, 11, 36, 49, 50] [1] rfl rfl (σ := Nat) (fun k => [(51, .a (.v (I k)))]) (fun k => [(1, .lit [.v (I j), .v (S (catP (p.take k)))] 72)]) (fun k => k ≤ 8) (fun k => 8 - k) (0) (by omega) (by repeat (first | exact fN | refine fC rfl ?_)) (by repeat (first | exact oN | refine oC rfl ?_)) rfl ?_
     rintro k hk
     refine c_seq (c_region ?_)
     refine yO rfl rfl rfl rfl ?_
     refine o_end [2, 3, 11, 36, 49, 50, 51, 52] rfl ?_
     refine x_then (c_seq ?_)
     refine c_cond rfl (fun h => ?_) (fun h => ?_)
     ·
      simp only [Xa, Xb, Xc, Xd, Xe, Xf, Xg, Xh, Xi, Xj, Xk, Xl, Xm, Xn, Xo, Xp] at h
      refine c_skip (x_then (c_seq (c_block (c_seq (c_region ?_)))))
      obtain ⟨s, h_s⟩ := hsp.at (k := k) (by omega)
      have hlt_s := lt_of_at h_s
      refine o_yield rfl rfl rfl (y_idx tok rfl (fun hg => hsp.sl) (fun hg => ⟨by omega, by omega⟩)) ?_
      refine o_yield rfl rfl rfl (y_lel tok (k) 0 (s) rfl (fun hg => hsp) (fun hg => h_s) rfl rfl) ?_
      refine yO rfl rfl rfl rfl ?_
      refine o_end [2, 3, 11, 13, 36, 49, 50, 51] rfl ?_
      refine x_then (c_region ?_)
      iterate 3 refine yO rfl rfl rfl rfl ?_
      have hzs := hpz s (List.mem_of_getElem? h_s)
      have hzc := hcsz k
      refine o_yield rfl rfl rfl (y_cat rfl (fun hg => by omega)) ?_
      refine yO rfl rfl rfl rfl ?_
      refine o_store tok rfl rfl rfl (by first | (repeat' first | exact trivial | exact rfl | apply And.intro); done | simp [onesP, oneP, lk, Value.oneCell']) ?_
      refine o_end [2, 3, 11, 36, 49, 50, 51] rfl ?_
      refine x_block (x_then (c_region ?_))
      iterate 2 refine yO rfl rfl rfl rfl ?_
      refine o_end [2, 3, 11, 36, 49, 50, 51] rfl ?_
      refine x_then ?_
      rw [show catP (p.take k) ++ s = catP (p.take (k + 1)) from by rw [rp_take h_s]; simp [catP], wrapI (n := (k : Int) + 1) (by omega) (by omega)]
      refine x_round (k + 1) (by omega) (by first | omega | (dsimp only; omega)) (by repeat (first | exact fN | refine fC rfl ?_)) (by repeat (first | exact oN | refine oC rfl ?_)) rfl (Vw.le.refl _)
     ·
      simp only [Xa, Xb, Xc, Xd, Xe, Xf, Xg, Xh, Xi, Xj, Xk, Xl, Xm, Xn, Xo, Xp] at h
      refine c_exit (x_then_exit (x_then_exit (x_block_hit (x_then (c_region ?_)))))
      iterate 2 refine yO rfl rfl rfl rfl ?_
      have hk8 : k = 8 := by omega
      subst hk8
      rw [List.take_of_length_le (by omega)]
      refine o_step rfl rfl rfl rfl rfl (s_bs tok 2 rfl rfl rfl) (fun _ _ => ?_)
      refine o_step rfl rfl rfl rfl rfl (s_app tok (Block.cells ⟨(j : Int), catP p⟩) rfl (fun E w hm => ownsRow_src (hm.row _ _ _ _ _ rfl)) (fun _ _ _ => by simpa using blk_ones [⟨(j : Int), catP p⟩]) (by dsimp only; omega)) (fun _ _ => ?_)
      refine yO rfl rfl rfl rfl ?_
      refine o_end [2, 3, 36] rfl ?_
      refine x_block (x_then (c_region ?_))
      iterate 2 refine yO rfl rfl rfl rfl ?_
      refine o_end [2, 3, 36] rfl ?_
      refine x_then ?_
      have hx := app_row (mkF f8 0 j) ⟨(j : Int), catP p⟩
      rw [← hsn2] at hx
      rw [hx.1, hx.2, hwj]
      refine k_swap 0 3 rfl ?_
      refine x_round (j + 1) (by omega) (by first | omega | (dsimp only; omega)) (by repeat (first | exact fN | refine fC rfl ?_)) (by repeat (first | exact oN | refine oC rfl ?_)) rfl (Vw.le.refl _)
  ·
   simp only [Xa, Xb, Xc, Xd, Xe, Xf, Xg, Xh, Xi, Xj, Xk, Xl, Xm, Xn, Xo, Xp] at h
   refine c_exit (x_then_exit (x_then_exit (x_block_hit (x_then (c_seq ?_)))))
   refine c_region ?_
   iterate 2 refine yO rfl rfl rfl rfl ?_
   refine o_end [2] rfl ?_
   refine x_then (c_ret ?_)
   refine x_scope_ret ?_
   refine b_ret tok rfl ?_
   have h64 : j = 64 := by omega
   subst h64
   rw [← hsc]
   intro E w' hm _
   exact ⟨⟨E.κ 0, rfl, hm.rowFresh hZ (l := 0) rfl⟩, hm.below hZ⟩
end Go.Proofs.YtlafboeohojcbaaGreat

/- A transaction's records: the document's. -/
set_option linter.unusedVariables false
set_option linter.unusedSimpArgs false
set_option maxRecDepth 100000
namespace Go.Proofs.YtlafboeohojcbaaGreat
open Go Go.Eng Go.RowKit
theorem rest_list (t : ByteArray) : ∀ k, (restAt t k).data.toList = t.data.toList.drop (256 * k)
 | 0 => by simp [restAt]
 | k + 1 => by
  have hz := size_list (restAt t k)
  rw [restAt, tailOf, ByteArray.data_extract, Array.toList_extract, List.extract_eq_take_drop]
  rw [List.take_of_length_le (by rw [List.length_drop]; omega), ← hz]
  have hr := rest_list t k
  by_cases h : (restAt t k).data.toList.length ≤ 256
  ·
   rw [Nat.min_eq_left h, List.drop_length]
   rw [hr, List.length_drop] at h
   rw [List.drop_of_length_le (by omega)]
  ·
   rw [Nat.min_eq_right (by omega), hr, List.drop_drop]
   congr 1
theorem piece_list (t : ByteArray) (k : Nat) : (pieceAt t k).data.toList = (t.data.toList.drop (256 * k)).take 256 := by
 have hz := size_list (restAt t k)
 rw [pieceAt, headOf, ByteArray.data_extract, Array.toList_extract, List.extract_eq_take_drop, List.drop_zero, Nat.sub_zero, ← rest_list, ← hz]
 by_cases h : (restAt t k).data.toList.length ≤ 256
 · rw [Nat.min_eq_left h, List.take_of_length_le (Nat.le_refl _), List.take_of_length_le h]
 · rw [Nat.min_eq_right (by omega)]
theorem rlease_c (g : Geo) (ok : g.Ok) (hg : geoB g = true) (i : Nat) (hi : (i : Int) < g.nodes) (w : World) : Calls Tryz.prog 28 #[g.val, I i] w fun e w' => e = .returned (I (1 + i)) ∧ Below w.heap.size w w' := by
 have hf := geo_facts hg
 refine enter (E := E0) (O := []) (nl := 0) (V := vw w) [.a (.v g.val), .a (.v (I i))] Tryz.func28 rfl rfl (mem0 E0 0 w) rfl rfl ?_
 refine c_seq (c_region ?_)
 refine o_new tok rfl rfl rfl rfl ?_
 refine yO rfl rfl rfl rfl ?_
 refine o_end [1, 2] rfl ?_
 refine x_then (c_seq (c_seq (c_region ?_)))
 refine yO rfl rfl rfl rfl ?_
 refine o_call (.a (.v _)) rfl rfl fnok4 rfl rfl rfl (fun hg E w1 hm => by exact refMay_c g ok _) ?_
 iterate 6 refine yO rfl rfl rfl rfl ?_
 refine o_call (.a (.v _)) rfl rfl fnok18 rfl rfl rfl (fun hg E w1 hm => by exact in_c _ _ _ _) ?_
 iterate 2 refine yO rfl rfl rfl rfl ?_
 refine o_end [1, 15] rfl ?_
 refine x_then ?_
 refine c_cond rfl (fun h => ?_) (fun h => ?_)
 ·
  refine c_seq (c_region ?_)
  refine yO rfl rfl rfl rfl ?_
  refine o_end [4] rfl ?_
  refine x_then (c_ret (x_then_ret ?_))
  refine b_ret tok rfl ?_
  rw [inB_iff] at h
  simp only [Bool.or_eq_true, Bool.not_eq_true', decide_eq_false_iff_not] at h
  rw [wrapI (by omega) (by omega), hg] at h
  rcases h with h | h
  · cases h
  · omega
 ·
  refine c_skip (x_then (c_seq (c_region ?_)))
  iterate 3 refine yO rfl rfl rfl rfl ?_
  refine o_end [4] rfl ?_
  refine x_then (c_ret ?_)
  refine b_ret tok rfl ?_
  intro E w' hm _
  refine ⟨?_, hm.below (Vw.le.refl _)⟩
  rw [wrapI (by omega) (by omega)]; rfl
theorem rpaxos_c (g : Geo) (ok : g.Ok) (hg : geoB g = true) (i : Nat) (hi : (i : Int) < g.nodes) (w : World) : Calls Tryz.prog 29 #[g.val, I i] w fun e w' => e = .returned (I (1 + g.nodes + i)) ∧ Below w.heap.size w w' := by
 have hf := geo_facts hg
 refine enter (E := E0) (O := []) (nl := 0) (V := vw w) [.a (.v g.val), .a (.v (I i))] Tryz.func29 rfl rfl (mem0 E0 0 w) rfl rfl ?_
 refine c_seq (c_region ?_)
 refine o_new tok rfl rfl rfl rfl ?_
 refine yO rfl rfl rfl rfl ?_
 refine o_end [1, 2] rfl ?_
 refine x_then (c_seq (c_seq (c_region ?_)))
 refine yO rfl rfl rfl rfl ?_
 refine o_call (.a (.v _)) rfl rfl fnok4 rfl rfl rfl (fun hg E w1 hm => by exact refMay_c g ok _) ?_
 iterate 6 refine yO rfl rfl rfl rfl ?_
 refine o_call (.a (.v _)) rfl rfl fnok18 rfl rfl rfl (fun hg E w1 hm => by exact in_c _ _ _ _) ?_
 iterate 2 refine yO rfl rfl rfl rfl ?_
 refine o_end [1, 2, 15] rfl ?_
 refine x_then ?_
 refine c_cond rfl (fun h => ?_) (fun h => ?_)
 ·
  refine c_seq (c_region ?_)
  refine yO rfl rfl rfl rfl ?_
  refine o_end [4] rfl ?_
  refine x_then (c_ret (x_then_ret ?_))
  refine b_ret tok rfl ?_
  rw [inB_iff] at h
  simp only [Bool.or_eq_true, Bool.not_eq_true', decide_eq_false_iff_not] at h
  rw [wrapI (by omega) (by omega), hg] at h
  rcases h with h | h
  · cases h
  · omega
 ·
  refine c_skip (x_then (c_seq (c_region ?_)))
  iterate 6 refine yO rfl rfl rfl rfl ?_
  refine o_end [4] rfl ?_
  refine x_then (c_ret ?_)
  refine b_ret tok rfl ?_
  intro E w' hm _
  refine ⟨?_, hm.below (Vw.le.refl _)⟩
  rw [wrapI (n := 1 + g.nodes) (by omega) (by omega), wrapI (by omega) (by omega)]; rfl
theorem rlog_c (g : Geo) (ok : g.Ok) (hg : geoB g = true) (i : Nat) (hi : (i : Int) < g.log) (w : World) : Calls Tryz.prog 30 #[g.val, I i] w fun e w' => e = .returned (I (1 + 2 * g.nodes + i)) ∧ Below w.heap.size w w' := by
 have hf := geo_facts hg
 refine enter (E := E0) (O := []) (nl := 0) (V := vw w) [.a (.v g.val), .a (.v (I i))] Tryz.func30 rfl rfl (mem0 E0 0 w) rfl rfl ?_
 refine c_seq (c_region ?_)
 refine o_new tok rfl rfl rfl rfl ?_
 refine yO rfl rfl rfl rfl ?_
 refine o_end [1, 2] rfl ?_
 refine x_then (c_seq (c_seq (c_region ?_)))
 refine yO rfl rfl rfl rfl ?_
 refine o_call (.a (.v _)) rfl rfl fnok4 rfl rfl rfl (fun hg E w1 hm => by exact refMay_c g ok _) ?_
 iterate 6 refine yO rfl rfl rfl rfl ?_
 refine o_call (.a (.v _)) rfl rfl fnok18 rfl rfl rfl (fun hg E w1 hm => by exact in_c _ _ _ _) ?_
 iterate 2 refine yO rfl rfl rfl rfl ?_
 refine o_end [1, 2, 15] rfl ?_
 refine x_then ?_
 refine c_cond rfl (fun h => ?_) (fun h => ?_)
 ·
  refine c_seq (c_region ?_)
  refine yO rfl rfl rfl rfl ?_
  refine o_end [4] rfl ?_
  refine x_then (c_ret (x_then_ret ?_))
  refine b_ret tok rfl ?_
  rw [inB_iff] at h
  simp only [Bool.or_eq_true, Bool.not_eq_true', decide_eq_false_iff_not] at h
  rw [wrapI (by omega) (by omega), hg] at h
  rcases h with h | h
  · cases h
  · omega
 ·
  refine c_skip (x_then (c_seq (c_region ?_)))
  iterate 7 refine yO rfl rfl rfl rfl ?_
  refine o_end [4] rfl ?_
  refine x_then (c_ret ?_)
  refine b_ret tok rfl ?_
  intro E w' hm _
  refine ⟨?_, hm.below (Vw.le.refl _)⟩
  rw [wrapI (n := 2 * g.nodes) (by omega) (by omega), wrapI (n := 1 + 2 * g.nodes) (by omega) (by omega), wrapI (by omega) (by omega)]; rfl
def HeadAt (g : Geo) (q : Nat) (i : Nat) : Prop := (i : Int) < g.slots ∧ headV g (i : Int) = q
def JourAt (g : Geo) (q : Nat) (i j : Nat) : Prop := (i : Int) < g.slots ∧ (j : Int) < g.journal ∧ jourV g (i : Int) (j : Int) = q
theorem head_eq {g : Geo} (hg : geoB g = true) {i : Nat} (hi : (i : Int) < g.slots) : headV g (i : Int) = 1 + 2 * g.nodes + g.log + (i : Int) * (1 + g.journal) := by rw [headV, if_pos ⟨hg, by omega, hi⟩]
theorem jour_eq {g : Geo} (hg : geoB g = true) {i : Nat} (hi : (i : Int) < g.slots) {j : Int} (hj : 0 ≤ j) : jourV g (i : Int) j = 1 + 2 * g.nodes + g.log + (i : Int) * (1 + g.journal) + 1 + j % g.journal := by
 have h := (head_pos hg hi).1
 rw [jourV, if_neg (by omega), head_eq hg hi]
theorem slot_step {a i k : Int} (ha : 0 ≤ a) (h : i < k) : i * a + a ≤ k * a := by
 have := Int.mul_le_mul_of_nonneg_right (a := i + 1) (b := k) (c := a) (by omega) ha
 rw [Int.add_mul] at this
 omega
theorem head_jour {g : Geo} (hg : geoB g = true) {i k : Nat} (hi : (i : Int) < g.slots) (hk : (k : Int) < g.slots) {l : Int} (hl : 0 ≤ l) : headV g (i : Int) ≠ jourV g (k : Int) l := by
 intro h
 have hf := geo_facts hg
 rw [head_eq hg hi, jour_eq hg hk hl] at h
 have h3 := Int.emod_nonneg l (b := g.journal) (by omega)
 have h4 := Int.emod_lt_of_pos l (b := g.journal) (by omega)
 rcases Int.lt_trichotomy (i : Int) k with h5 | h5 | h5
 · have := slot_step (a := 1 + g.journal) (by omega) h5; omega
 · rw [h5] at h; omega
 · have := slot_step (a := 1 + g.journal) (by omega) h5; omega
theorem head_low {g : Geo} (hg : geoB g = true) {i : Nat} (hi : (i : Int) < g.slots) : headV g (i : Int) < dataAt g := by
 have hf := geo_facts hg
 have h := slot_step (a := 1 + g.journal) (by omega) hi
 have hdd : dataAt g = 1 + 2 * g.nodes + g.log + g.slots * (1 + g.journal) := rfl
 rw [head_eq hg hi]
 omega
theorem jour_low {g : Geo} (hg : geoB g = true) {i : Nat} (hi : (i : Int) < g.slots) {j : Int} (hj : 0 ≤ j) : jourV g (i : Int) j < dataAt g := by
 have hf := geo_facts hg
 have h := slot_step (a := 1 + g.journal) (by omega) hi
 have h2 := Int.emod_lt_of_pos j (b := g.journal) (by omega)
 have hdd : dataAt g = 1 + 2 * g.nodes + g.log + g.slots * (1 + g.journal) := rfl
 rw [jour_eq hg hi hj]
 omega
structure WhatP (g : Geo) (q : Nat) (k a b : Int) : Prop where
 one : k = 1 ↔ q = 0
 head : k = 5 ↔ ∃ i, HeadAt g q i
 jour : k = 6 → ∃ i j : Nat, a = i ∧ b = j ∧ JourAt g q i j
 nojour : k ≠ 6 → ∀ i j, ¬ JourAt g q i j
 dat : dataAt g ≤ (q : Int) → k = 7
 hda : k = 5 → ∃ i : Nat, a = i ∧ HeadAt g q i
theorem what_low {g : Geo} (hg : geoB g = true) {q : Nat} (h : (q : Int) ≤ 2 * g.nodes + g.log) : (∀ i, ¬ HeadAt g q i) ∧ ∀ i j, ¬ JourAt g q i j := by
 have hf := geo_facts hg
 refine ⟨fun i ⟨hi, he⟩ => ?_, fun i j ⟨hi, hj, he⟩ => ?_⟩
 ·
  rw [head_eq hg hi] at he
  have := Int.mul_nonneg (a := (i : Int)) (b := 1 + g.journal) (by omega) (by omega)
  omega
 ·
  rw [jour_eq hg hi (by omega)] at he
  have := Int.mul_nonneg (a := (i : Int)) (b := 1 + g.journal) (by omega) (by omega)
  have := Int.emod_nonneg (j : Int) (b := g.journal) (by omega)
  omega
theorem what_c (g : Geo) (ok : g.Ok) (hG : geoB g = true) (q : Nat) (hq : (q : Int) < totV g) (w : World) :
  Calls Tryz.prog 8 #[g.val, I q] w fun e w' => ∃ k a b, (e = .returned (.tuple #[I8 k, I a, I b]) ∧ WhatP g q k a b) ∧ Below w.heap.size w w' := by
 have hf := geo_facts hG
 have hz := geo_sizes hG
 have hdd : dataAt g = 1 + 2 * g.nodes + g.log + g.slots * (1 + g.journal) := rfl
 refine enter (E := E0) (O := []) (nl := 0) (V := vw w) [.a (.v g.val), .a (.v (I q))] Tryz.func8 rfl rfl (mem0 E0 0 w) rfl rfl ?_
 refine c_seq (c_region ?_)
 refine o_new tok rfl rfl rfl rfl ?_
 iterate 3 refine yO rfl rfl rfl rfl ?_
 refine o_end [1, 2] rfl ?_
 refine x_then (c_seq (c_seq (c_region ?_)))
 refine yO rfl rfl rfl rfl ?_
 refine o_call (.a (.v _)) rfl rfl fnok4 rfl rfl rfl (fun hg E w1 hm => by exact refMay_c g ok _) ?_
 iterate 8 refine yO rfl rfl rfl rfl ?_
 refine o_call (.a (.v _)) rfl rfl fnok5 rfl rfl rfl (fun hg E w1 hm => by exact refTotal_c g ok _) ?_
 iterate 2 refine yO rfl rfl rfl rfl ?_
 refine o_end [1, 2, 24] rfl ?_
 refine x_then ?_
 refine c_cond rfl (fun h => ?_) (fun h => ?_)
 ·
  refine c_seq (c_region ?_)
  iterate 3 refine yO rfl rfl rfl rfl ?_
  refine o_end [4, 5, 6] rfl ?_
  refine x_then (c_ret (x_then_ret ?_))
  refine b_ret tok rfl ?_
  exact absurd h (by simp [hG]; omega)
 ·
  clear h
  refine c_skip (x_then (c_seq (c_seq (c_region ?_))))
  iterate 2 refine yO rfl rfl rfl rfl ?_
  refine o_end [1, 2, 26] rfl ?_
  refine x_then ?_
  refine c_cond rfl (fun h => ?_) (fun h => ?_)
  ·
   simp only [Xa, Xb, Xc, Xd, Xe, Xf, Xg, Xh, Xi, Xj, Xk, Xl, Xm, Xn, Xo, Xp] at h
   refine c_seq (c_region ?_)
   iterate 3 refine yO rfl rfl rfl rfl ?_
   refine o_end [4, 5, 6] rfl ?_
   refine x_then (c_ret (x_then_ret ?_))
   refine b_ret tok rfl ?_
   have hq0 : q = 0 := by omega
   obtain ⟨n1, n2⟩ := what_low (q := q) hG (by omega)
   intro E w' hm _
   exact ⟨1, 0, 0, ⟨rfl, ⟨fun _ => hq0, fun _ => rfl⟩, ⟨fun h => absurd h (by decide), fun ⟨i, h⟩ => absurd h (n1 i)⟩, fun h => absurd h (by decide), fun _ => n2, fun h => absurd h (by omega), fun h => absurd h (by decide)⟩, hm.below (Vw.le.refl _)⟩
  ·
   simp only [Xa, Xb, Xc, Xd, Xe, Xf, Xg, Xh, Xi, Xj, Xk, Xl, Xm, Xn, Xo, Xp] at h
   have hq0 : q ≠ 0 := by omega
   clear h
   refine c_skip (x_then (c_seq (c_seq (c_region ?_))))
   refine yO rfl rfl rfl rfl ?_
   refine o_end [1, 2, 7] rfl ?_
   refine x_then (c_block ?_)
   refine c_loopK [1, 2] [] rfl rfl (σ := Nat) (fun i => [(7, .a (.v (I i)))]) (fun i => []) (fun i => (i : Int) ≤ g.nodes ∧ ∀ j : Nat, j < i → (q : Int) ≠ 1 + j ∧ (q : Int) ≠ 1 + g.nodes + j) (fun i => g.nodes.toNat - i) (0) (⟨by omega, fun j hj => by omega⟩) (by repeat (first | exact fN | refine fC rfl ?_)) (by repeat (first | exact oN | refine oC rfl ?_)) rfl ?_
   rintro i ⟨hi, hno⟩
   iterate 2 refine c_seq ?_
   refine c_region ?_
   iterate 4 refine yO rfl rfl rfl rfl ?_
   refine o_end [1, 2, 7, 30] rfl ?_
   refine x_then ?_
   refine c_cond rfl (fun h => ?_) (fun h => ?_)
   ·
    simp only [Xa, Xb, Xc, Xd, Xe, Xf, Xg, Xh, Xi, Xj, Xk, Xl, Xm, Xn, Xo, Xp] at h
    refine c_skip (x_then (c_seq (c_block (c_seq (c_seq ?_)))))
    refine c_region ?_
    iterate 2 refine yO rfl rfl rfl rfl ?_
    have hin : (i : Int) < g.nodes := by omega
    refine o_call (.a (.v _)) rfl rfl fnok28 rfl rfl rfl (fun hg E w1 hm => by exact rlease_c g ok hG i hin _) ?_
    iterate 2 refine yO rfl rfl rfl rfl ?_
    refine o_end [1, 2, 7, 37] rfl ?_
    refine x_then ?_
    refine c_cond rfl (fun h => ?_) (fun h => ?_)
    ·
     refine c_seq (c_region ?_)
     iterate 4 refine yO rfl rfl rfl rfl ?_
     refine o_end [4, 5, 6] rfl ?_
     refine x_then (c_ret (x_then_ret (x_block_ret (x_then_ret (x_then_ret ?_)))))
     refine x_block_ret (x_then_ret ?_)
     refine b_ret tok rfl ?_
     have hqi : (q : Int) = 1 + i := by
      have : (1 : Int) + i = q := by simpa using h
      omega
     obtain ⟨n1, n2⟩ := what_low (q := q) hG (by omega)
     intro E w' hm _
     exact ⟨2, i, 0, ⟨rfl, ⟨fun h => absurd h (by decide), fun h => absurd h hq0⟩, ⟨fun h => absurd h (by decide), fun ⟨i, h⟩ => absurd h (n1 i)⟩, fun h => absurd h (by decide), fun _ => n2, fun h => absurd h (by omega), fun h => absurd h (by decide)⟩, hm.below (Vw.le.refl _)⟩
    ·
     have hqa : (q : Int) ≠ 1 + i := by
      have : ¬ (1 : Int) + i = q := by simpa using h
      omega
     clear h
     refine c_skip (x_then (c_seq (c_region ?_)))
     iterate 2 refine yO rfl rfl rfl rfl ?_
     refine o_call (.a (.v _)) rfl rfl fnok29 rfl rfl rfl (fun hg E w1 hm => by exact rpaxos_c g ok hG i hin _) ?_
     iterate 2 refine yO rfl rfl rfl rfl ?_
     refine o_end [1, 2, 7, 43] rfl ?_
     refine x_then ?_
     refine c_cond rfl (fun h => ?_) (fun h => ?_)
     ·
      refine c_seq (c_region ?_)
      iterate 4 refine yO rfl rfl rfl rfl ?_
      refine o_end [4, 5, 6] rfl ?_
      refine x_then (c_ret (x_block_ret (x_then_ret (x_then_ret (x_block_ret ?_)))))
      refine x_then_ret ?_
      refine b_ret tok rfl ?_
      have hqi : (q : Int) = 1 + g.nodes + i := by
       have : (1 : Int) + g.nodes + i = q := by simpa using h
       omega
      obtain ⟨n1, n2⟩ := what_low (q := q) hG (by omega)
      intro E w' hm _
      exact ⟨3, i, 0, ⟨rfl, ⟨fun h => absurd h (by decide), fun h => absurd h hq0⟩, ⟨fun h => absurd h (by decide), fun ⟨i, h⟩ => absurd h (n1 i)⟩, fun h => absurd h (by decide), fun _ => n2, fun h => absurd h (by omega), fun h => absurd h (by decide)⟩, hm.below (Vw.le.refl _)⟩
     ·
      have hqb : (q : Int) ≠ 1 + g.nodes + i := by
       have : ¬ (1 : Int) + g.nodes + i = q := by simpa using h
       omega
      clear h
      have hnx : ∀ j : Nat, j < i + 1 → (q : Int) ≠ 1 + j ∧ (q : Int) ≠ 1 + g.nodes + j := by
       intro j hj
       by_cases hji : j < i
       · exact hno j hji
       ·
        have : j = i := by omega
        subst this
        exact ⟨hqa, hqb⟩
      refine c_skip (x_block (x_then (c_region ?_)))
      iterate 3 refine yO rfl rfl rfl rfl ?_
      refine o_end [1, 2, 7] rfl ?_
      refine x_then ?_
      rw [wrapI (n := (i : Int) + 1) (by omega) (by omega)]
      refine x_round (i + 1) (⟨by omega, hnx⟩) (by first | omega | (dsimp only; omega)) (by repeat (first | exact fN | refine fC rfl ?_)) (by repeat (first | exact oN | refine oC rfl ?_)) rfl (Vw.le.refl _)
   ·
    simp only [Xa, Xb, Xc, Xd, Xe, Xf, Xg, Xh, Xi, Xj, Xk, Xl, Xm, Xn, Xo, Xp] at h
    have hq1 : (q : Int) > 2 * g.nodes := by
     have hi' : (i : Int) = g.nodes := by omega
     rcases Int.lt_or_le (2 * g.nodes) q with h1 | h1
     · exact h1
     ·
      exfalso
      by_cases h2 : (q : Int) ≤ g.nodes
      · exact (hno (q - 1) (by omega)).1 (by omega)
      · exact (hno (q - 1 - g.nodes.toNat) (by omega)).2 (by omega)
    clear h hno hi
    refine c_exit (x_then_exit (x_then_exit (x_block_hit (x_then (c_seq ?_)))))
    refine c_seq (c_region ?_)
    refine yO rfl rfl rfl rfl ?_
    refine o_end [1, 2, 8] rfl ?_
    refine x_then (c_block ?_)
    refine c_loopK [1, 2] [] rfl rfl (σ := Nat) (fun i => [(8, .a (.v (I i)))]) (fun i => []) (fun i => (i : Int) ≤ g.log ∧ ∀ j : Nat, j < i → (q : Int) ≠ 1 + 2 * g.nodes + j) (fun i => g.log.toNat - i) (0) (⟨by omega, fun j hj => by omega⟩) (by repeat (first | exact fN | refine fC rfl ?_)) (by repeat (first | exact oN | refine oC rfl ?_)) rfl ?_
    rintro i ⟨hi, hno⟩
    iterate 2 refine c_seq ?_
    refine c_region ?_
    iterate 4 refine yO rfl rfl rfl rfl ?_
    refine o_end [1, 2, 8, 48] rfl ?_
    refine x_then ?_
    refine c_cond rfl (fun h => ?_) (fun h => ?_)
    ·
     simp only [Xa, Xb, Xc, Xd, Xe, Xf, Xg, Xh, Xi, Xj, Xk, Xl, Xm, Xn, Xo, Xp] at h
     refine c_skip (x_then (c_seq (c_block (c_seq (c_region ?_)))))
     iterate 2 refine yO rfl rfl rfl rfl ?_
     have hin : (i : Int) < g.log := by omega
     refine o_call (.a (.v _)) rfl rfl fnok30 rfl rfl rfl (fun hg E w1 hm => by exact rlog_c g ok hG i hin _) ?_
     iterate 2 refine yO rfl rfl rfl rfl ?_
     refine o_end [1, 2, 8, 55] rfl ?_
     refine x_then ?_
     refine c_cond rfl (fun h => ?_) (fun h => ?_)
     ·
      refine c_seq (c_region ?_)
      iterate 4 refine yO rfl rfl rfl rfl ?_
      refine o_end [4, 5, 6] rfl ?_
      refine x_then (c_ret (x_block_ret (x_then_ret (x_then_ret (x_block_ret ?_)))))
      refine x_then_ret ?_
      refine b_ret tok rfl ?_
      have hqi : (q : Int) = 1 + 2 * g.nodes + i := by
       have : (1 : Int) + 2 * g.nodes + i = q := by simpa using h
       omega
      obtain ⟨n1, n2⟩ := what_low (q := q) hG (by omega)
      intro E w' hm _
      exact ⟨4, i, 0, ⟨rfl, ⟨fun h => absurd h (by decide), fun h => absurd h hq0⟩, ⟨fun h => absurd h (by decide), fun ⟨i, h⟩ => absurd h (n1 i)⟩, fun h => absurd h (by decide), fun _ => n2, fun h => absurd h (by omega), fun h => absurd h (by decide)⟩, hm.below (Vw.le.refl _)⟩
     ·
      have hqb : (q : Int) ≠ 1 + 2 * g.nodes + i := by
       have : ¬ (1 : Int) + 2 * g.nodes + i = q := by simpa using h
       omega
      clear h
      have hnx : ∀ j : Nat, j < i + 1 → (q : Int) ≠ 1 + 2 * g.nodes + j := by
       intro j hj
       by_cases hji : j < i
       · exact hno j hji
       ·
        have : j = i := by omega
        subst this
        exact hqb
      refine c_skip (x_block (x_then (c_region ?_)))
      iterate 3 refine yO rfl rfl rfl rfl ?_
      refine o_end [1, 2, 8] rfl ?_
      refine x_then ?_
      rw [wrapI (n := (i : Int) + 1) (by omega) (by omega)]
      refine x_round (i + 1) (⟨by omega, hnx⟩) (by first | omega | (dsimp only; omega)) (by repeat (first | exact fN | refine fC rfl ?_)) (by repeat (first | exact oN | refine oC rfl ?_)) rfl (Vw.le.refl _)
    ·
     simp only [Xa, Xb, Xc, Xd, Xe, Xf, Xg, Xh, Xi, Xj, Xk, Xl, Xm, Xn, Xo, Xp] at h
     have hq2 : (q : Int) > 2 * g.nodes + g.log := by
      have hi' : (i : Int) = g.log := by omega
      rcases Int.lt_or_le (2 * g.nodes + g.log) q with h1 | h1
      · exact h1
      · exact absurd (by omega) (hno (q - 1 - 2 * g.nodes.toNat) (by omega))
     clear h hno hi
     refine c_exit (x_then_exit (x_then_exit (x_block_hit (x_then (c_seq ?_)))))
     refine c_seq (c_region ?_)
     refine yO rfl rfl rfl rfl ?_
     refine o_end [1, 2, 9] rfl ?_
     refine x_then (c_block ?_)
     refine c_loopK [1, 2] [] rfl rfl (σ := Nat) (fun i => [(9, .a (.v (I i)))]) (fun i => []) (fun i => (i : Int) ≤ g.slots ∧ ∀ k : Nat, k < i → ¬ HeadAt g q k ∧ ∀ j, ¬ JourAt g q k j) (fun i => g.slots.toNat - i) (0) (⟨by omega, fun j hj => by omega⟩) (by repeat (first | exact fN | refine fC rfl ?_)) (by repeat (first | exact oN | refine oC rfl ?_)) rfl ?_
     rintro i ⟨hi, hno⟩
     iterate 2 refine c_seq ?_
     refine c_region ?_
     iterate 4 refine yO rfl rfl rfl rfl ?_
     refine o_end [1, 2, 9, 60] rfl ?_
     refine x_then ?_
     refine c_cond rfl (fun h => ?_) (fun h => ?_)
     ·
      simp only [Xa, Xb, Xc, Xd, Xe, Xf, Xg, Xh, Xi, Xj, Xk, Xl, Xm, Xn, Xo, Xp] at h
      refine c_skip (x_then (c_seq (c_block (c_seq (c_seq ?_)))))
      refine c_region ?_
      iterate 2 refine yO rfl rfl rfl rfl ?_
      have hin : (i : Int) < g.slots := by omega
      refine o_call (.a (.v _)) rfl rfl fnok26 rfl rfl rfl (fun hg E w1 hm => by exact refHead_c g ok i _) ?_
      iterate 2 refine yO rfl rfl rfl rfl ?_
      refine o_end [1, 2, 9, 67] rfl ?_
      refine x_then ?_
      refine c_cond rfl (fun h => ?_) (fun h => ?_)
      ·
       refine c_seq (c_region ?_)
       iterate 4 refine yO rfl rfl rfl rfl ?_
       refine o_end [4, 5, 6] rfl ?_
       refine x_then (c_ret (x_then_ret (x_block_ret (x_then_ret (x_then_ret ?_)))))
       refine x_block_ret (x_then_ret ?_)
       refine b_ret tok rfl ?_
       have hqi : headV g (i : Int) = q := by simpa using h
       intro E w' hm _
       exact ⟨5, i, 0, ⟨rfl, ⟨fun h => absurd h (by decide), fun h => absurd h hq0⟩, ⟨fun _ => ⟨i, hin, hqi⟩, fun _ => rfl⟩, fun h => absurd h (by decide), fun _ k j hj => head_jour hG hin hj.1 (l := (j : Int)) (by omega) (by rw [hqi]; exact hj.2.2.symm), fun h => absurd h (by have := (head_low hG hin); omega), fun _ => ⟨i, rfl, hin, hqi⟩⟩, hm.below (Vw.le.refl _)⟩
      ·
       have hqb : ¬ HeadAt g q i := fun hh => by
        have : ¬ headV g (i : Int) = q := by simpa using h
        exact this hh.2
       clear h
       refine c_skip (x_then (c_seq (c_region ?_)))
       refine yO rfl rfl rfl rfl ?_
       refine o_end [1, 2, 9, 10] rfl ?_
       refine x_then (c_block ?_)
       refine c_loopK [1, 2, 9] [] rfl rfl (σ := Nat) (fun m => [(10, .a (.v (I m)))]) (fun m => []) (fun m => (m : Int) ≤ g.journal ∧ ∀ j : Nat, j < m → ¬ JourAt g q i j) (fun m => g.journal.toNat - m) (0) (⟨by omega, fun j hj => by omega⟩) (by repeat (first | exact fN | refine fC rfl ?_)) (by repeat (first | exact oN | refine oC rfl ?_)) rfl ?_
       rintro m ⟨hm, hnj⟩
       iterate 2 refine c_seq ?_
       refine c_region ?_
       iterate 4 refine yO rfl rfl rfl rfl ?_
       refine o_end [1, 2, 9, 10, 72] rfl ?_
       refine x_then ?_
       refine c_cond rfl (fun h => ?_) (fun h => ?_)
       ·
        simp only [Xa, Xb, Xc, Xd, Xe, Xf, Xg, Xh, Xi, Xj, Xk, Xl, Xm, Xn, Xo, Xp] at h
        refine c_skip (x_then (c_seq (c_block (c_seq (c_region ?_)))))
        iterate 3 refine yO rfl rfl rfl rfl ?_
        have hmn : (m : Int) < g.journal := by omega
        refine o_call (.a (.v _)) rfl rfl fnok27 rfl rfl rfl (fun hg E w1 hm => by exact refJour_c g ok i m _) ?_
        iterate 2 refine yO rfl rfl rfl rfl ?_
        refine o_end [1, 2, 9, 10, 80] rfl ?_
        refine x_then ?_
        refine c_cond rfl (fun h => ?_) (fun h => ?_)
        ·
         refine c_seq (c_region ?_)
         iterate 5 refine yO rfl rfl rfl rfl ?_
         refine o_end [4, 5, 6] rfl ?_
         refine x_then (c_ret (x_block_ret (x_then_ret (x_then_ret (x_block_ret ?_)))))
         refine x_block_ret (x_then_ret (x_then_ret (x_block_ret (x_then_ret ?_))))
         refine b_ret tok rfl ?_
         have hqi : jourV g (i : Int) (m : Int) = q := by simpa using h
         intro E w' hm _
         exact ⟨6, i, m, ⟨rfl, ⟨fun h => absurd h (by decide), fun h => absurd h hq0⟩, ⟨fun h => absurd h (by decide), fun ⟨k, hk⟩ => absurd (by rw [hk.2, hqi]) (head_jour hG hk.1 hin (l := (m : Int)) (by omega))⟩, fun _ => ⟨i, m, rfl, rfl, hin, hmn, hqi⟩, fun h => absurd rfl h, fun h => absurd h (by have := (jour_low hG hin (j := (m : Int)) (by omega)); omega), fun h => absurd h (by decide)⟩, hm.below (Vw.le.refl _)⟩
        ·
         have hqc : ¬ JourAt g q i m := fun hh => by
          have : ¬ jourV g (i : Int) (m : Int) = q := by simpa using h
          exact this hh.2.2
         clear h
         have hnx : ∀ j : Nat, j < m + 1 → ¬ JourAt g q i j := by
          intro j hj
          by_cases hji : j < m
          · exact hnj j hji
          ·
           have : j = m := by omega
           subst this
           exact hqc
         refine c_skip (x_block (x_then (c_region ?_)))
         iterate 3 refine yO rfl rfl rfl rfl ?_
         refine o_end [1, 2, 9, 10] rfl ?_
         refine x_then ?_
         rw [wrapI (n := (m : Int) + 1) (by omega) (by omega)]
         refine x_round (m + 1) (⟨by omega, hnx⟩) (by first | omega | (dsimp only; omega)) (by repeat (first | exact fN | refine fC rfl ?_)) (by repeat (first | exact oN | refine oC rfl ?_)) rfl (Vw.le.refl _)
       ·
        simp only [Xa, Xb, Xc, Xd, Xe, Xf, Xg, Xh, Xi, Xj, Xk, Xl, Xm, Xn, Xo, Xp] at h
        have hnx : ∀ k : Nat, k < i + 1 → ¬ HeadAt g q k ∧ ∀ j, ¬ JourAt g q k j := by
         intro k hk
         by_cases hki : k < i
         · exact hno k hki
         ·
          have : k = i := by omega
          subst this
          exact ⟨hqb, fun j hj => hnj j (by have := hj.2.1; omega) hj⟩
        refine c_exit (x_then_exit (x_then_exit (x_block_hit (x_block (x_then ?_)))))
        refine c_region ?_
        iterate 3 refine yO rfl rfl rfl rfl ?_
        refine o_end [1, 2, 9] rfl ?_
        refine x_then ?_
        rw [wrapI (n := (i : Int) + 1) (by omega) (by omega)]
        refine x_round (i + 1) (⟨by omega, hnx⟩) (by first | omega | (dsimp only; omega)) (by repeat (first | exact fN | refine fC rfl ?_)) (by repeat (first | exact oN | refine oC rfl ?_)) rfl (Vw.le.refl _)
     ·
      simp only [Xa, Xb, Xc, Xd, Xe, Xf, Xg, Xh, Xi, Xj, Xk, Xl, Xm, Xn, Xo, Xp] at h
      have hall : ∀ k : Nat, (k : Int) < g.slots → ¬ HeadAt g q k ∧ ∀ j, ¬ JourAt g q k j := fun k hk => hno k (by omega)
      clear h hno hi
      refine c_exit (x_then_exit (x_then_exit (x_block_hit (x_then (c_seq ?_)))))
      refine c_region ?_
      iterate 2 refine yO rfl rfl rfl rfl ?_
      refine o_call (.a (.v _)) rfl rfl fnok19 rfl rfl rfl (fun hg E w1 hm => by exact refData_c g ok 0 0 _) ?_
      iterate 2 refine yO rfl rfl rfl rfl ?_
      refine o_end [2, 11] rfl ?_
      refine x_then (c_seq ?_)
      refine c_draw mixed (by kernel_rfl) ?_
      iterate 3 refine d_yield rfl rfl rfl (yV rfl) rfl ?_
      refine d_yield rfl rfl rfl (y_quo rfl (fun hg => by omega)) rfl ?_
      iterate 3 refine d_yield rfl rfl rfl (yV rfl) rfl ?_
      refine d_yield rfl rfl rfl (y_rem rfl (fun hg => by omega)) rfl ?_
      iterate 3 refine d_yield rfl rfl rfl (yV rfl) rfl ?_
      refine d_end [4, 5, 6] rfl ?_
      refine x_then (c_ret ?_)
      refine b_ret tok rfl ?_
      intro E w' hm _
      exact ⟨7, _, _, ⟨rfl, ⟨fun h => absurd h (by decide), fun h => absurd h hq0⟩, ⟨fun h => absurd h (by decide), fun ⟨i, h⟩ => absurd h (hall i h.1).1⟩, fun h => absurd h (by decide), fun _ i j h => (hall i h.1).2 j h, fun _ => rfl, fun h => absurd h (by decide)⟩, hm.below (Vw.le.refl _)⟩
def wrS (T : List ByteArray) (c : Cell) : List ByteArray := T.set c.sector.toNat c.b
def wrA (T : List ByteArray) (l : List Cell) : List ByteArray := l.foldl wrS T
theorem wrA_len (l : List Cell) : ∀ T : List ByteArray, (wrA T l).length = T.length := by
 induction l with
 | nil => intro T; rfl
 | cons c r ih => intro T; rw [wrA, List.foldl_cons]; exact (ih _).trans (by rw [wrS, List.length_set])
theorem wrA_snoc (T : List ByteArray) (l : List Cell) (c : Cell) : wrA T (l ++ [c]) = wrS (wrA T l) c := by simp [wrA]
theorem wrA_off {q : Nat} : ∀ (l : List Cell) (T : List ByteArray), (∀ c ∈ l, c.sector.toNat ≠ q) → (wrA T l)[q]? = T[q]?
 | [], T, _ => rfl
 | c :: r, T, h => by
  have ih := wrA_off r (wrS T c) (fun x hx => h x (List.mem_cons_of_mem _ hx))
  rw [wrA, List.foldl_cons]
  refine ih.trans ?_
  rw [wrS, List.getElem?_set_ne (h c List.mem_cons_self)]
theorem wrA_at : ∀ (l : List Cell) (T : List ByteArray) (c : Cell), c ∈ l → (∀ i j : Nat, i < j → ∀ x y : Cell, l[i]? = some x → l[j]? = some y → x.sector.toNat ≠ y.sector.toNat) → c.sector.toNat < T.length → (wrA T l)[c.sector.toNat]? = some c.b
 | [], T, c, hc, _, _ => by cases hc
 | x :: r, T, c, hc, hp, hlt => by
  rw [wrA, List.foldl_cons]
  rcases List.mem_cons.1 hc with rfl | hc
  ·
   have := wrA_off (q := c.sector.toNat) r (wrS T c) (fun y hy => by
    obtain ⟨j, hj⟩ := List.mem_iff_getElem?.1 hy
    exact (hp 0 (j + 1) (by omega) c y rfl (by simpa using hj)).symm)
   refine this.trans ?_
   rw [wrS, List.getElem?_set_self hlt]
  · exact wrA_at r (wrS T x) c hc (fun i j hij a b ha hb => hp (i + 1) (j + 1) (by omega) a b (by simpa using ha) (by simpa using hb)) (by rw [wrS, List.length_set]; exact hlt)
structure CellsOk (n : Int) (l : List Cell) : Prop where
 lo : ∀ c ∈ l, 0 ≤ c.sector ∧ c.sector < n ∧ c.b.size ≤ 512
 up : ∀ i j : Nat, i < j → ∀ x y : Cell, l[i]? = some x → l[j]? = some y → x.sector < y.sector
theorem CellsOk.ne {n : Int} {l : List Cell} (h : CellsOk n l) : ∀ i j : Nat, i < j → ∀ x y : Cell, l[i]? = some x → l[j]? = some y → x.sector.toNat ≠ y.sector.toNat := by
 intro i j hij x y hx hy
 have h1 := h.up i j hij x y hx hy
 have h2 := h.lo x (List.mem_of_getElem? hx)
 omega
theorem CellsOk.drop {n : Int} {l : List Cell} (h : CellsOk n l) (k : Nat) : CellsOk n (l.drop k) :=
 ⟨fun c hc => h.lo c (List.mem_of_mem_drop hc), fun i j hij x y hx hy => h.up (k + i) (k + j) (by omega) x y (by rwa [List.getElem?_drop] at hx) (by rwa [List.getElem?_drop] at hy)⟩
theorem CellsOk.take {n : Int} {l : List Cell} (h : CellsOk n l) (k : Nat) : CellsOk n (l.take k) := by
 have ht : ∀ (i : Nat) (x : Cell), (l.take k)[i]? = some x → l[i]? = some x := fun i x hx => by
  rw [List.getElem?_take] at hx
  split at hx
  · exact hx
  · cases hx
 exact ⟨fun c hc => h.lo c (List.mem_of_mem_take hc), fun i j hij x y hx hy => h.up i j hij x y (ht i x hx) (ht j y hy)⟩
theorem data_lt {g : Geo} {n k : Int} (hg : geoB g = true) (h1 : 0 ≤ n) (h2 : n < g.blocks) (h3 : 0 ≤ k) (h4 : k < g.per) : dataAt g ≤ dataV g n k ∧ dataV g n k < totV g ∧ 1 ≤ dataAt g := by
 have hf := geo_facts hg
 have m1 := Int.mul_nonneg h1 (show 0 ≤ g.per by omega)
 have m2 : (n + 1) * g.per ≤ g.blocks * g.per := Int.mul_le_mul_of_nonneg_right (by omega) (by omega)
 have m3 := Int.mul_nonneg (show 0 ≤ g.slots by omega) (show 0 ≤ 1 + g.journal by omega)
 rw [Int.add_mul] at m2
 have hd : dataAt g = 1 + 2 * g.nodes + g.log + g.slots * (1 + g.journal) := rfl
 rw [dataV_eq hg h1 h2 h3 h4, totV, if_pos hg]
 omega
theorem piece_size (t : ByteArray) (k : Nat) : (pieceAt t k).size ≤ 256 := by
 have := piece_list t k
 have h2 : (pieceAt t k).data.toList.length ≤ 256 := by rw [this]; rw [List.length_take]; omega
 have h3 := size_list (pieceAt t k)
 omega
theorem cells_ok {g : Geo} {l : List Block} (hm : mayL g l = true) : CellsOk (totV g) (allCells g l) := by
 have hm2 := hm
 rw [mayL, Bool.and_eq_true] at hm2
 obtain ⟨hg, hmf⟩ := hm2
 have hf := geo_facts hg
 have hat := mayF_at hmf
 have hper : g.per = (g.per.toNat : Int) := by omega
 have hp : 0 < g.per.toNat := by omega
 constructor
 ·
  intro c hc
  rw [allCells, cellsN, List.mem_map] at hc
  obtain ⟨j, hj, rfl⟩ := hc
  rw [List.mem_range] at hj
  have hd : j / g.per.toNat < l.length := (Nat.div_lt_iff_lt_mul hp).2 hj
  have hmod := Nat.mod_lt j hp
  obtain ⟨b, hb⟩ : ∃ b, l[j / g.per.toNat]? = some b := ⟨l[j / g.per.toNat], by simp [hd]⟩
  obtain ⟨_, k2, _, k4, _⟩ := hat _ b hb
  have hs := data_lt (n := b.n) (k := ((j % g.per.toNat : Nat) : Int)) hg (by omega) k2 (by omega) (by omega)
  have hz := piece_size b.text (j % g.per.toNat)
  rw [cellAt, blkAt_eq hb]
  dsimp only
  omega
 ·
  have hup : ∀ d i : Nat, i + d + 1 < l.length * g.per.toNat → (cellAt g g.per.toNat l i).sector < (cellAt g g.per.toNat l (i + d + 1)).sector := by
   intro d
   induction d with
   | zero => intro i hi; exact cell_up (i := i + 0 + 1) hm hper hi (by omega)
   | succ d ih =>
    intro i hi
    have h1 := ih i (by omega)
    have h2 := cell_up (i := i + (d + 1) + 1) hm hper hi (by omega)
    rw [show i + (d + 1) + 1 - 1 = i + d + 1 by omega] at h2
    omega
  intro i j hij x y hx hy
  have hj : j < l.length * g.per.toNat := by
   have := (List.getElem?_eq_some_iff.1 hy).1
   rwa [allCells, cellsN_len] at this
  rw [allCells, cellsN_at (by omega)] at hx
  rw [allCells, cellsN_at hj] at hy
  cases hx; cases hy
  have := hup (j - i - 1) i (by omega)
  rw [show i + (j - i - 1) + 1 = j by omega] at this
  exact this
theorem data_inj {g : Geo} (hg : geoB g = true) {n k n' k' : Int} (h1 : 0 ≤ n) (h2 : n < g.blocks) (h3 : 0 ≤ k) (h4 : k < g.per) (h1' : 0 ≤ n') (h2' : n' < g.blocks) (h3' : 0 ≤ k') (h4' : k' < g.per) (h : dataV g n k = dataV g n' k') : n = n' := by
 rw [dataV_eq hg h1 h2 h3 h4, dataV_eq hg h1' h2' h3' h4'] at h
 rcases Int.lt_trichotomy n n' with hlt | heq | hlt
 ·
  have : (n + 1) * g.per ≤ n' * g.per := Int.mul_le_mul_of_nonneg_right (by omega) (by omega)
  rw [Int.add_mul] at this
  omega
 · exact heq
 ·
  have : (n' + 1) * g.per ≤ n * g.per := Int.mul_le_mul_of_nonneg_right (by omega) (by omega)
  rw [Int.add_mul] at this
  omega
theorem getB_at {n : Int} : ∀ (l : List Block), (∃ (i : Nat) (b : Block), l[i]? = some b ∧ b.n = n ∧ getB l n = (b.text, true)) ∨ ((∀ b ∈ l, b.n ≠ n) ∧ getB l n = (ByteArray.empty, false))
 | [] => .inr ⟨by simp, rfl⟩
 | b :: r => by
  rw [getB]
  by_cases h : b.n = n
  · exact .inl ⟨0, b, rfl, h, by rw [if_pos h]⟩
  ·
   rw [if_neg h]
   rcases getB_at r with ⟨i, c, h1, h2, h3⟩ | ⟨h1, h2⟩
   · exact .inl ⟨i + 1, c, by simpa using h1, h2, h3⟩
   ·
    exact .inr ⟨fun x hx => by
     rcases List.mem_cons.1 hx with rfl | hx
     · exact h
     · exact h1 x hx, h2⟩
theorem wholeFrom_data : ∀ (pre l : List Record) (i n d : Nat), (∀ r ∈ pre, r.count = 0) → wholeFrom (pre ++ l) i n d = wholeFrom l (i + pre.length) n (d + pre.length)
 | [], _, _, _, _, _ => rfl
 | x :: pre, l, i, n, d, h => by
  rw [List.cons_append, wholeFrom, if_pos (h x List.mem_cons_self), wholeFrom_data pre l _ _ _ (fun r hr => h r (List.mem_cons_of_mem _ hr)), List.length_cons]
  rw [show i + 1 + pre.length = i + (pre.length + 1) by omega, show d + 1 + pre.length = d + (pre.length + 1) by omega]
theorem whole_drop : ∀ (l pre : List Record) (i n : Nat), (∀ r ∈ pre, r.count = 0) → i = n + pre.length → whole ((pre ++ l).drop (wholeFrom l i n pre.length - n)) = 0
 | [], pre, i, n, h, _ => by
  have hw : wholeFrom ([] : List Record) i n pre.length = n := rfl
  rw [hw, Nat.sub_self, List.drop_zero]
  have := wholeFrom_data pre [] 0 0 0 h
  exact this
 | r :: t, pre, i, n, h, hi => by
  rw [wholeFrom]
  split
  ·
   rename_i hr
   have := whole_drop t (pre ++ [r]) (i + 1) n (fun x hx => by
    rcases List.mem_append.1 hx with hx | hx
    · exact h x hx
    · rw [List.mem_singleton] at hx; subst hx; exact hr) (by simp; omega)
   rw [List.length_append, List.length_singleton, List.append_assoc, List.singleton_append] at this
   exact this
  ·
   rename_i hr
   split
   ·
    rename_i hc
    rw [Nat.sub_self, List.drop_zero]
    have := wholeFrom_data pre (r :: t) 0 0 0 h
    rw [Nat.zero_add, wholeFrom, if_neg hr, if_pos hc] at this
    exact this
   ·
    have hge := wholeFrom_ge t (i + 1) (i + 1) 0 (Nat.le_refl _)
    have := whole_drop t [] (i + 1) (i + 1) (by simp) rfl
    rw [List.length_nil, List.nil_append] at this
    have e : (pre ++ r :: t).drop (wholeFrom t (i + 1) (i + 1) 0 - n) = t.drop (wholeFrom t (i + 1) (i + 1) 0 - (i + 1)) := by
     obtain ⟨m, hm⟩ : ∃ m, wholeFrom t (i + 1) (i + 1) 0 = i + 1 + m := ⟨_, (Nat.add_sub_cancel' hge).symm⟩
     rw [hm, show i + 1 + m - n = pre.length + (m + 1) by omega, show i + 1 + m - (i + 1) = m by omega, ← List.drop_drop, List.drop_left, List.drop_succ_cons]
    rw [e]
    exact this
theorem whole_rest (A : List Record) : whole (A.drop (whole A)) = 0 := by
 have := whole_drop A [] 0 0 (by simp) rfl
 exact this
theorem isB_lsn {s : ByteArray} {key l1 l2 : Int} (h : isB s key l1 = true) (hne : l1 ≠ l2) : isB s key l2 = false := by
 simp only [isB, Bool.and_eq_true, decide_eq_true_eq] at h
 rw [isB, h.2, decide_eq_false hne, Bool.and_false]
theorem jour_mod {g : Geo} (hG : geoB g = true) {slot lsn : Int} (hh : 0 ≤ headV g slot) (hl : 0 ≤ lsn) : jourV g slot (lsn + g.journal) = jourV g slot lsn := by
 have hf := geo_facts hG
 rw [jourV, jourV, if_neg (by omega), if_neg (by omega), Int.add_emod_right]
theorem rows_next {g : Geo} {slot key tail : Int} {D D' : List ByteArray} {A : List Record} (h : RowsOf g slot key tail D A) {k : Nat} (hk : k ≤ A.length) (hk0 : k = 0 → D' = D ∨ True) (ht : tail + k ≤ 1099511627776) (hlen : D'.length = D.length) (hsz : ∀ s ∈ D', s.size ≤ maxLen)
  (hsame : ∀ lsn : Int, 0 ≤ lsn → D'[(jourV g slot lsn).toNat]? = D[(jourV g slot lsn).toNat]?) : RowsOf g slot key (tail + k) D' (A.drop k) := by
 have hf := geo_facts h.geo
 have h0 := h.tl0
 have hfew := h.few
 refine ⟨h.geo, by rw [hlen]; exact h.len, h.hd, by omega, ht, by rw [List.length_drop]; omega, hsz, fun j r hj => ?_, fun hlt => ?_⟩
 ·
  rw [List.getElem?_drop] at hj
  obtain ⟨s, h1, h2, h3⟩ := h.at_ (k + j) r hj
  have e : tail + ((k + j : Nat) : Int) = tail + k + j := by omega
  rw [e] at h1 h2 h3
  exact ⟨s, by rw [hsame _ (by omega)]; exact h1, h2, h3⟩
 ·
  rw [List.length_drop] at hlt ⊢
  have e : tail + (k : Int) + ((A.length - k : Nat) : Int) = tail + A.length := by omega
  rw [e]
  by_cases hj : (A.length : Int) < g.journal
  ·
   obtain ⟨s, h1, h2⟩ := h.rest hj
   exact ⟨s, by rw [hsame _ (by omega)]; exact h1, h2⟩
  ·
   have hAj : (A.length : Int) = g.journal := by omega
   have hA0 : 0 < A.length := by omega
   obtain ⟨r, hr⟩ : ∃ r, A[0]? = some r := ⟨_, List.getElem?_eq_getElem hA0⟩
   obtain ⟨s, h1, h2, _⟩ := h.at_ 0 r hr
   have e2 : tail + ((0 : Nat) : Int) = tail := by omega
   rw [e2] at h1 h2
   refine ⟨s, ?_, isB_lsn h2 (by omega)⟩
   rw [hsame _ (by omega), hAj, jour_mod h.geo h.hd h0]
   exact h1
def nowS (S : List ByteArray) (g : Geo) (n : Int) : Nat → ByteArray
 | 0 => ByteArray.empty
 | k + 1 => nowS S g n k ++ S.getD (dataV g n (k : Int)).toNat ByteArray.empty
theorem nowS_congr {S T : List ByteArray} {g : Geo} {n : Int} : ∀ k : Nat, (∀ j : Nat, j < k → S[(dataV g n (j : Int)).toNat]? = T[(dataV g n (j : Int)).toNat]?) → nowS S g n k = nowS T g n k
 | 0, _ => rfl
 | k + 1, h => by rw [nowS, nowS, nowS_congr k (fun j hj => h j (by omega)), List.getD, List.getD, h k (by omega)]
theorem nowS_piece {S : List ByteArray} {g : Geo} {n : Int} {t : ByteArray} : ∀ k : Nat, (∀ j : Nat, j < k → S[(dataV g n (j : Int)).toNat]? = some (pieceAt t j)) → (nowS S g n k).data.toList = t.data.toList.take (256 * k)
 | 0, _ => by simp [nowS]
 | k + 1, h => by
  have hx : S.getD (dataV g n (k : Int)).toNat ByteArray.empty = pieceAt t k := by rw [List.getD, h k (by omega)]; rfl
  rw [nowS, hx, ByteArray.data_append, Array.toList_append, nowS_piece k (fun j hj => h j (by omega)), piece_list]
  rw [show 256 * (k + 1) = 256 * k + 256 by omega, List.take_add]
theorem ba_ext {a b : ByteArray} (h : a.data.toList = b.data.toList) : a = b := by
 cases a; cases b
 congr 1
 exact Array.ext' h
theorem now_wr {g : Geo} {b : List Block} {D S : List ByteArray} (hm : mayL g b = true) (hD : (D.length : Int) = totV g) {n : Int} (h0 : 0 ≤ n) (h1 : n < g.blocks) (hS : ∀ q : Nat, dataAt g ≤ (q : Int) → (q : Int) < totV g → S[q]? = (wrA D (allCells g b))[q]?) :
  nowS S g n g.per.toNat = if (getB b n).2 = true then (getB b n).1 else nowS D g n g.per.toNat := by
 have hok := cells_ok hm
 have hm2 := hm
 rw [mayL, Bool.and_eq_true] at hm2
 obtain ⟨hg, hmf⟩ := hm2
 have hf := geo_facts hg
 have hat := mayF_at hmf
 rcases getB_at b (n := n) with ⟨i, x, hb, hbn, hget⟩ | ⟨hno, hget⟩
 ·
  obtain ⟨_, k2, k3, k4, _⟩ := hat i x hb
  have hil := (List.getElem?_eq_some_iff.1 hb).1
  rw [hget, if_pos rfl]
  dsimp only
  have hp : ∀ j : Nat, j < g.per.toNat → S[(dataV g n (j : Int)).toNat]? = some (pieceAt x.text j) := by
   intro j hj
   have hdl := data_lt (n := n) (k := (j : Int)) hg h0 h1 (by omega) (by omega)
   have hc : (⟨dataV g x.n ((j : Nat) : Int), pieceAt x.text j⟩ : Cell) ∈ allCells g b := by
    rw [allCells, cellsN, List.mem_map]
    refine ⟨i * g.per.toNat + j, ?_, cellAt_eq g hb hj⟩
    rw [List.mem_range]
    have : (i + 1) * g.per.toNat ≤ b.length * g.per.toNat := Nat.mul_le_mul_right _ hil
    rw [Nat.add_mul] at this
    omega
   have hw := wrA_at _ D _ hc hok.ne (by dsimp only; rw [hbn]; omega)
   dsimp only at hw
   rw [hbn] at hw
   rw [hS _ (by omega) (by omega), hw]
  apply ba_ext
  rw [nowS_piece _ hp, List.take_of_length_le (by have := size_list x.text; omega)]
 ·
  rw [hget, if_neg (by simp)]
  apply nowS_congr
  intro j hj
  have hdl := data_lt (n := n) (k := (j : Int)) hg h0 h1 (by omega) (by omega)
  rw [hS _ (by omega) (by omega)]
  apply wrA_off
  intro c hc he
  rw [allCells, cellsN, List.mem_map] at hc
  obtain ⟨j', hj', rfl⟩ := hc
  rw [List.mem_range] at hj'
  have hp : 0 < g.per.toNat := by omega
  have hdd' : j' / g.per.toNat < b.length := (Nat.div_lt_iff_lt_mul hp).2 hj'
  have hmod := Nat.mod_lt j' hp
  obtain ⟨x, hb⟩ : ∃ x, b[j' / g.per.toNat]? = some x := ⟨b[j' / g.per.toNat], by simp [hdd']⟩
  obtain ⟨_, k2, _, k4, _⟩ := hat _ x hb
  rw [cellAt, blkAt_eq hb] at he
  dsimp only at he
  have hdl2 := data_lt (n := x.n) (k := ((j' % g.per.toNat : Nat) : Int)) hg (by omega) k2 (by omega) (by omega)
  exact hno x (List.mem_of_getElem? hb) (data_inj hg (by omega) k2 (by omega) (by omega) h0 h1 (by omega) (by omega) (show dataV g x.n ((j' % g.per.toNat : Nat) : Int) = dataV g n (j : Int) by omega))
end Go.Proofs.YtlafboeohojcbaaGreat
