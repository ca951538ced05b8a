import Derived.Test.YtlafboeohojcbaaGreatMRw1
import Derived.Test.YtlafboeohojcbaaGreatEng44
/- A replay run on sectors, so many acts. -/
set_option linter.unusedVariables false
set_option linter.unusedSimpArgs false
set_option maxRecDepth 100000
namespace Go.Proofs.YtlafboeohojcbaaGreat
open Go Go.Eng Go.RowKit
theorem over_st (N1 m n : Nat) (h : n ≤ N1 + m) (h1 : 1 < N1) : decide (3 < gAt N1 m (n + 1)) = decide (n = N1 + m) := by
 unfold gAt
 by_cases e : n = N1 + m
 · rw [if_neg (by omega), if_neg (by omega), if_neg (by omega), if_neg (by omega), decide_eq_true e]; rfl
 ·
  rw [decide_eq_false e, if_neg (by omega)]
  split
  · rfl
  ·
   split
   · rfl
   · rw [if_pos (by omega)]; rfl
set_option maxHeartbeats 8000000 in
theorem runG_c (g : Geo) (ok : g.Ok) (slot key tail : Int) (hkey : keyB key = true ∧ 0 ≤ seatOf key) (D : List ByteArray) (A : List Record) (hJ : RowsOf g slot key tail D A) (hA6 : ∀ r ∈ A, r.text.size ≤ 256) (hml : mayL g (scanB (A.take (whole A))) = true) (hcl : (celL g A).length ≤ 1000) (hcs : CellsOk (D.length : Int) (celL g A))
  (s0 : ByteArray) (hd0 : D[(headV g slot).toNat]? = some s0) (htl : tailOk s0 = some tail) (s1 : ByteArray) (hs1 : headS (tail + whole A) = (s1, 0)) (most b cap e : Nat) (rest : List Value) (hcap : D.length ≤ cap) (hmost : most ≤ 1000000) (w : World) (hb : w.heap[b]? = some (.cells (csOf D rest) e (0, 0))) :
  Calls Tryz.prog 13 #[g.val, .slice (some ⟨b, 0, none⟩) D.length cap, I slot, I key, I most] w fun ex w' => ex = .returned (.tuple #[I ((min most (actsN g A + (celL g A).length + 1) : Nat) : Int), .bool (decide (actsN g A + (celL g A).length + 1 ≤ most)), .bool true]) ∧ Go.Eng.Touch (· = b) w w' ∧
   w'.heap[b]? = some (.cells (csOf (gD D (celL g A) (headV g slot).toNat s1 (actsN g A) (min most (actsN g A + (celL g A).length + 1))) rest) e (0, 0)) := by
 have h1 := actsN_pos g A
 have hh := hJ.hd
 have hf := geo_facts hJ.geo
 have ht0 := hJ.tl0
 have ht1 := hJ.tl1
 have hfew := hJ.few
 have hln := hJ.len
 have hz := geo_sizes hJ.geo
 have hN : actsN g A ≤ 70 := by unfold actsN; split <;> omega
 have hN1 : 1 < actsN g A := by unfold actsN; split <;> omega
 have hbeg : ∀ w, Calls Tryz.prog 21 #[g.val, I slot, I key] w fun e w' => e = .returned (.tuple #[stG slot key tail (tail + whole A) (actsN g A) (celL g A).length 0 none 0 0 none 0 0, I 0]) ∧ Below w.heap.size w w' := fun w => (rbegin_c g ok slot key w).mono (by
  rintro e w' ⟨h, ⟨_, _, _, he⟩ | ⟨hn, _⟩⟩
  ·
   refine ⟨?_, h⟩
   rw [he]
   simp only [stG, gAt, stTl, gI, gEn, if_true, if_pos (show 0 < actsN g A by omega)]
  · exact absurd ⟨hh, hkey.1, hkey.2⟩ hn)
 have hDle : D.length ≤ 4000 := by
  have ht : totV g = dataAt g + g.blocks * g.per := by rw [totV, if_pos hJ.geo]
  omega
 have hwant0 := fun Z => stWantG_c Z g ok slot key tail (tail + whole A) D A hJ (celL g A) hcl s1 hs1
 have htake0 := fun Z => stTakeG_c Z g ok slot key tail D A hJ hA6 hml hcl s0 hd0 htl
 obtain ⟨cs, hcse⟩ : ∃ cs, celL g A = cs := ⟨_, rfl⟩
 rw [hcse] at hbeg hwant0 htake0 hcl hcs ⊢
 obtain ⟨Nt, hNt⟩ : ∃ Nt, actsN g A + cs.length + 1 = Nt := ⟨_, rfl⟩
 rw [hNt]
 obtain ⟨en, hen⟩ : ∃ en, tail + (whole A : Int) = en := ⟨_, rfl⟩
 rw [hen] at hbeg hwant0 htake0
 obtain ⟨N1, hN1e⟩ : ∃ N1, actsN g A = N1 := ⟨_, rfl⟩
 rw [hN1e] at hbeg hwant0 htake0 hNt hN hN1 h1 ⊢
 obtain ⟨hq, hqe⟩ : ∃ hq, (headV g slot).toNat = hq := ⟨_, rfl⟩
 have hqh : headV g slot = (hq : Int) := by omega
 have hqD : hq < D.length := by have := rh_in hJ.geo hh; omega
 rw [hqe]
 refine enter (E := E0) (O := []) (nl := 0) (V := vw w) [.a (.v g.val), .a (.v (.slice (some ⟨b, 0, none⟩) D.length cap)), .a (.v (I slot)), .a (.v (I key)), .a (.v (I most))] Tryz.func13 rfl rfl (mem0 E0 0 w) rfl rfl ?_
 refine c_seq (c_region ?_)
 refine o_new tok rfl rfl rfl rfl ?_
 iterate 3 refine yO rfl rfl rfl rfl ?_
 refine o_end [1, 2, 3, 4, 5] rfl ?_
 refine x_then (c_seq (c_region ?_))
 iterate 3 refine yO rfl rfl rfl rfl ?_
 refine o_call (.a (.v _)) rfl rfl fnok21 rfl rfl rfl (fun hg E w1 hm => by exact hbeg _) ?_
 iterate 3 refine yO rfl rfl rfl rfl ?_
 refine o_new tok rfl rfl rfl rfl ?_
 refine o_store tok rfl rfl rfl (by first | (repeat' first | exact trivial | exact rfl | apply And.intro); done | simp [onesP, oneP, lk, Value.oneCell']) ?_
 refine yO rfl rfl rfl rfl ?_
 refine o_end [1, 4, 5, 13, 14] rfl ?_
 refine x_then (c_seq (c_seq (c_region ?_)))
 iterate 2 refine yO rfl rfl rfl rfl ?_
 refine o_end [1, 4, 5, 13, 27] rfl ?_
 refine x_then ?_
 refine c_cond rfl (fun h => ?_) (fun h => ?_)
 ·
  exact absurd h (by decide)
 ·
  refine c_skip (x_then (c_seq (c_region ?_)))
  refine yO rfl rfl rfl rfl ?_
  refine o_end [1, 4, 5, 13, 15] rfl ?_
  refine x_then (c_seq (c_seq (c_region ?_)))
  refine yO rfl rfl rfl rfl ?_
  refine o_end [1, 4, 5, 13, 15, 16] rfl ?_
  refine x_then (c_block ?_)
  clear h
  have hD0 : gD D cs hq s1 N1 0 = D := by rw [gD, if_pos (by omega), Nat.zero_sub]; rfl
  have e15 : decide (0 = Nt) = false := decide_eq_false (by omega)
  refine c_loopV [1, 4, 5, 13] [0, 1] rfl rfl (σ := Nat × Option Addr × Nat × Nat × Option Addr × Nat × Nat × Vw) (fun (n, a, k, c, xa, xn, xc, Z) => [(15, .a (.v (.bool (decide (n = Nt))))), (16, .a (.v (I n)))]) (fun (n, a, k, c, xa, xn, xc, Z) => [(0, .lit (g.cells.map .v) 23), (1, .lit ((rpL slot key (gAt N1 cs.length n) (stTl tail n) (.slice a k c) (.slice xa xn xc) (gI N1 cs.length n) (gEn N1 en n)).map .v) 44)]) (fun (n, a, k, c, xa, xn, xc, Z) => Z) (fun (n, a, k, c, xa, xn, xc, Z) => (n ≤ Nt ∧ n ≤ most) ∧ ((vw w).del b).le Z ∧ Z.get b = some (.cells (csOf (gD D cs hq s1 N1 n) rest) e (0, 0)) ∧ SlOf (Z.del b) Record.cells 6 (.slice a k c) (A.take (n - 1)) ∧ CelS (Z.del b) cs N1 n xa xn xc) (fun (n, a, k, c, xa, xn, xc, Z) => Nt - n) ((0, none, 0, 0, none, 0, 0, vw w)) (⟨⟨by omega, by omega⟩, vdel_le _ _, by rw [hD0]; exact hb, slNil _ _ _ _ (fun _ => rfl), ⟨fun _ => ⟨rfl, rfl, rfl⟩, fun h => by omega⟩⟩) (by repeat (first | exact SubF.nil | refine SubF.cons rfl ?_ | refine SubF.cons (by simp only [e15]; first | done | rfl) ?_)) (by repeat (first | exact SubO.nil | refine SubO.cons rfl ?_ | refine SubO.cons (by simp only [e15]; first | done | rfl) ?_)) rfl (Vw.le.refl _) ?_
  rintro ⟨n, a, k, c, xa, xn, xc, Z⟩ ⟨⟨hnt, hnm⟩, hZ, hbZ, hsZ, hcZ⟩
  dsimp only at hnt hnm hZ hbZ hsZ hcZ ⊢
  have hgl := gD_len D cs hq s1 N1 n
  iterate 2 refine c_seq ?_
  refine c_region ?_
  iterate 3 refine yO rfl rfl rfl rfl ?_
  refine o_end [1, 4, 5, 13, 15, 16, 30] rfl ?_
  refine x_then ?_
  refine c_cond rfl (fun h => ?_) (fun h => ?_)
  ·
   simp only [Xa, Xb, Xc, Xd, Xe, Xf, Xg, Xh, Xi, Xj, Xk, Xl, Xm, Xn, Xo, Xp] at h
   have hnm1 : n < most := by simp at h; omega
   clear h
   have hsZ2 : SlOf Z encS 1 (.slice (some ⟨b, 0, none⟩) D.length cap) (gD D cs hq s1 N1 n) := by
    have := csOf_sl hbZ (cap := cap) (by omega)
    rwa [hgl] at this
   have hwant := fun w1 hV1 => hwant0 (Z.del b) n (by omega) a k c xa xn xc w1 hV1 hsZ hcZ
   rcases Nat.lt_or_ge n Nt with hlt0 | hge
   ·
    have hdn : decide (n = Nt) = false := decide_eq_false (by omega)
    rw [hdn]
    have hnext : decide (n = N1 + cs.length) = decide (n + 1 = Nt) := by
     by_cases he : n = N1 + cs.length
     · rw [decide_eq_true he, decide_eq_true (by omega)]
     · rw [decide_eq_false he, decide_eq_false (by omega)]
    have hov := over_st N1 cs.length n (by omega) hN1
    have hwn : IntKind.i64.wrap ((n : Int) + 1) = ((n + 1 : Nat) : Int) := wrapI (by omega) (by omega)
    have hgS : ∃ q : Nat, gS g slot tail cs N1 n = q ∧ q < D.length := by
     by_cases n0 : n = 0
     · exact ⟨hq, by rw [gS, if_pos n0]; omega, hqD⟩
     ·
      by_cases n1 : n < N1
      ·
       have e2 := rj_in hJ.geo hh (lsn := tail + ((n - 1 : Nat) : Int)) (by omega)
       exact ⟨(jourV g slot (tail + ((n - 1 : Nat) : Int))).toNat, by rw [gS, if_neg n0, if_pos n1]; omega, by omega⟩
      ·
       by_cases n2 : n < N1 + cs.length
       ·
        have hlo := hcs.lo _ (List.mem_of_getElem? (cellD_at (cs := cs) (j := n - N1) (by omega)))
        exact ⟨(cellD cs (n - N1)).sector.toNat, by rw [gS, if_neg n0, if_neg n1, if_pos n2]; omega, by omega⟩
       · exact ⟨hq, by rw [gS, if_neg n0, if_neg n1, if_neg n2, if_pos (by omega)]; omega, hqD⟩
    obtain ⟨q, hqS, hqlt⟩ := hgS
    have hbw : ∀ (Z1 : Vw) (w1 : World) (ob : Obj), Z1.get b = some ob → Z1.le (vw w1) → b < w1.heap.size := fun Z1 w1 ob h1 h2 => h2.lt h1
    rw [hqS] at hwant
    rcases Nat.lt_or_ge n N1 with hrd | hwr
    ·
     obtain ⟨s, h_s⟩ : ∃ s, D[q]? = some s := ⟨_, List.getElem?_eq_getElem hqlt⟩
     have hK : gK N1 cs.length n = 1 := by rw [gK, if_pos hrd]
     have hG : gG g slot tail D N1 n = s := by
      by_cases n0 : n = 0
      ·
       rw [gS, if_pos n0] at hqS
       rw [gG, if_pos n0, hqS, Int.toNat_natCast, List.getD_eq_getElem?_getD, h_s]; rfl
      ·
       rw [gS, if_neg n0, if_pos hrd] at hqS
       rw [gG, if_neg n0, if_pos hrd, hqS, Int.toNat_natCast, List.getD_eq_getElem?_getD, h_s]; rfl
     obtain ⟨g1, g2⟩ := gD_read (D := D) (cs := cs) (hq := hq) (s1 := s1) hrd
     rw [hK] at hwant
     have h_s2 : (gD D cs hq s1 N1 n)[q]? = some s := by rw [g1]; exact h_s
     refine c_skip (x_then (c_seq (c_block (c_seq (c_region ?_)))))
     iterate 2 refine yO rfl rfl rfl rfl ?_
     refine o_call (.a (.v _)) rfl rfl fnok23 rfl rfl rfl (fun hg E w1 hm => by exact hwant _ ((vdel_le Z b).trans hm.leV)) ?_
     refine o_new tok rfl rfl rfl rfl ?_
     refine o_store tok rfl rfl rfl (by first | (repeat' first | exact trivial | exact rfl | apply And.intro); done | simp [onesP, oneP, lk, Value.oneCell']) ?_
     refine o_end [1, 4, 5, 13, 15, 16, 17] rfl ?_
     refine x_then (c_seq (c_region ?_))
     refine yO rfl rfl rfl rfl ?_
     refine o_end [1, 4, 5, 13, 15, 16, 17, 18] rfl ?_
     refine x_then (c_seq (c_block (c_seq (c_region ?_))))
     iterate 10 refine yO rfl rfl rfl rfl ?_
     refine o_yield rfl rfl rfl (y_lenP tok rfl) ?_
     iterate 3 refine yO rfl rfl rfl rfl ?_
     refine o_end [1, 4, 5, 13, 15, 16, 17, 18, 38] rfl ?_
     refine x_then ?_
     refine c_cond rfl (fun h => ?_) (fun h => ?_)
     ·
      exfalso
      simp at h
      omega
     ·
      clear h
      refine c_seq (c_region ?_)
      iterate 4 refine yO rfl rfl rfl rfl ?_
      refine o_end [1, 4, 5, 13, 15, 16, 17, 18, 55] rfl ?_
      refine x_then ?_
      refine c_cond rfl (fun h => ?_) (fun h => ?_)
      ·
       refine c_region ?_
       iterate 3 refine yO rfl rfl rfl rfl ?_
       clear h
       have htk := fun w1 hV1 => htake0 (Z.del b) n (by omega) a k c xa xn xc w1 hV1 hsZ hcZ
       rw [hG] at htk
       have hlt_s := lt_of_at h_s2
       refine o_yield rfl rfl rfl (y_idx tok rfl (fun hg => hsZ2.sl) (fun hg => ⟨by omega, by omega⟩)) ?_
       refine o_yield rfl rfl rfl (y_lel tok (q) 0 (s) rfl (fun hg => hsZ2) (fun hg => h_s2) rfl rfl) ?_
       refine yO rfl rfl rfl rfl ?_
       refine o_end [1, 4, 5, 13, 16, 18] rfl ?_
       refine x_block (x_then (c_seq (c_region ?_)))
       iterate 3 refine yO rfl rfl rfl rfl ?_
       refine o_callV (fun v V' => ∃ V2 : Vw, V2.le (V'.del b) ∧ (Z.del b).le V2 ∧ ∃ a k c xa xn xc, v = .tuple #[stG slot key tail en N1 cs.length (n + 1) a k c xa xn xc, .bool (decide (n = N1 + cs.length)), I 0] ∧ SlOf V2 Record.cells 6 (.slice a k c) (A.take n) ∧ CelS V2 cs N1 (n + 1) xa xn xc) rfl rfl fnok24 rfl rfl (fun hg E w1 hm => by exact (htk w1 ((vdel_le Z b).trans hm.leV)).mono fun e w' h => small_view2 (vdel_le Z b) hm.leV (vdel_none Z b) (hbw _ w1 _ hbZ hm.leV) h) ?_
       rintro v V1 hle1 hv
       obtain ⟨V2, h2, h3, a1, k1, c1, xa1, xn1, xc1, rfl, hsl1, hcs1⟩ := hv rfl
       iterate 4 refine yO rfl rfl rfl rfl ?_
       refine o_store tok rfl rfl rfl (by first | (repeat' first | exact trivial | exact rfl | apply And.intro); done | simp [onesP, oneP, lk, Value.oneCell']) ?_
       iterate 2 refine yO rfl rfl rfl rfl ?_
       refine o_end [1, 4, 5, 13, 14, 15, 16] rfl ?_
       refine x_then (c_seq (c_region ?_))
       iterate 5 refine yO rfl rfl rfl rfl ?_
       refine o_call (.a (.v _)) rfl rfl fnok25 rfl rfl rfl (fun hg E w1 hm => by exact rover_c _ _ _ _ _ _ _ _ _) ?_
       iterate 2 refine yO rfl rfl rfl rfl ?_
       refine o_end [1, 4, 5, 13, 15, 16, 89] rfl ?_
       refine x_then ?_
       refine c_cond rfl (fun h => ?_) (fun h => ?_)
       ·
        exfalso
        rw [hov] at h
        simp at h
       ·
        refine c_skip (x_block (x_then (c_region ?_)))
        iterate 3 refine yO rfl rfl rfl rfl ?_
        refine o_end [1, 4, 5, 13, 15, 16] rfl ?_
        refine x_then ?_
        rw [hnext, hwn]
        refine x_round ((n + 1, a1, k1, c1, xa1, xn1, xc1, V1)) (⟨⟨by dsimp only; omega, by dsimp only; omega⟩, hZ.trans hle1, by dsimp only; rw [g2, ← g1]; exact hle1.get _ _ hbZ, hsl1.mono h2, hcs1.mono h2⟩) (by first | omega | (dsimp only; omega)) (by repeat (first | exact fN | refine fC rfl ?_)) (by repeat (first | exact oN | refine oC rfl ?_)) rfl (Vw.le.refl _)
      ·
       exact absurd h (by decide)
    ·
     have hK : gK N1 cs.length n = 2 := by rw [gK, if_neg (by omega), if_pos (by omega)]
     have hG : gG g slot tail D N1 n = ByteArray.empty := by rw [gG, if_neg (by omega), if_neg (by omega)]
     have hset : (gD D cs hq s1 N1 n).set q (gT s1 cs N1 n) = gD D cs hq s1 N1 (n + 1) := by
      by_cases n2 : n < N1 + cs.length
      ·
       rw [gD_cell hwr n2, gT, if_neg (by omega), if_pos n2]
       rw [gS, if_neg (by omega), if_neg (by omega), if_pos n2] at hqS
       rw [hqS, Int.toNat_natCast]
      ·
       have n3 : n = N1 + cs.length := by omega
       rw [gD_head n3, gT, if_neg (by omega), if_neg n2, if_pos n3]
       rw [gS, if_neg (by omega), if_neg (by omega), if_neg n2, if_pos n3] at hqS
       have : q = hq := by omega
       rw [this]
     have htk := fun w1 hV1 => htake0 (Z.del b) n (by omega) a k c xa xn xc w1 hV1 hsZ hcZ
     rw [hG] at htk
     rw [hK] at hwant
     refine c_skip (x_then (c_seq (c_block (c_seq (c_region ?_)))))
     iterate 2 refine yO rfl rfl rfl rfl ?_
     refine o_call (.a (.v _)) rfl rfl fnok23 rfl rfl rfl (fun hg E w1 hm => by exact hwant _ ((vdel_le Z b).trans hm.leV)) ?_
     refine o_new tok rfl rfl rfl rfl ?_
     refine o_store tok rfl rfl rfl (by first | (repeat' first | exact trivial | exact rfl | apply And.intro); done | simp [onesP, oneP, lk, Value.oneCell']) ?_
     refine o_end [1, 4, 5, 13, 15, 16, 17] rfl ?_
     refine x_then (c_seq (c_region ?_))
     refine yO rfl rfl rfl rfl ?_
     refine o_end [1, 4, 5, 13, 15, 16, 17, 18] rfl ?_
     refine x_then (c_seq (c_block (c_seq (c_region ?_))))
     iterate 10 refine yO rfl rfl rfl rfl ?_
     refine o_yield rfl rfl rfl (y_lenP tok rfl) ?_
     iterate 3 refine yO rfl rfl rfl rfl ?_
     refine o_end [1, 4, 5, 13, 15, 16, 17, 18, 38] rfl ?_
     refine x_then ?_
     refine c_cond rfl (fun h => ?_) (fun h => ?_)
     ·
      exfalso
      simp at h
      omega
     ·
      clear h
      refine c_seq (c_region ?_)
      iterate 4 refine yO rfl rfl rfl rfl ?_
      refine o_end [1, 4, 5, 13, 15, 16, 17, 18, 55] rfl ?_
      refine x_then ?_
      refine c_cond rfl (fun h => ?_) (fun h => ?_)
      ·
       exact absurd h (by decide)
      ·
       refine c_seq (c_region ?_)
       iterate 4 refine yO rfl rfl rfl rfl ?_
       refine o_end [1, 4, 5, 13, 15, 16, 17, 18, 64] rfl ?_
       refine x_then ?_
       refine c_cond rfl (fun h => ?_) (fun h => ?_)
       ·
        refine c_region ?_
        iterate 5 refine yO rfl rfl rfl rfl ?_
        clear h
        refine o_yield rfl rfl rfl (y_idxK tok q rfl (by simp) (fun hg => hsZ2.sl) (fun hg => by omega)) ?_
        refine o_stepN rfl rfl rfl rfl (s_vst tok (b := b) (off := 0) rfl hbZ (by rw [csOf_size]; omega) (.inl (Nat.zero_le _)) rfl) (fun _ _ => ?_)
        refine o_end [1, 4, 5, 13, 16, 18] rfl ?_
        refine x_block (x_then (c_seq (c_region ?_)))
        iterate 3 refine yO rfl rfl rfl rfl ?_
        rw [csOf_set _ _ _ _ (by omega), hset]
        have hbP : (Z.put b (.cells (csOf (gD D cs hq s1 N1 (n + 1)) rest) e (0, 0))).get b = some (.cells (csOf (gD D cs hq s1 N1 (n + 1)) rest) e (0, 0)) := Vw.put_get _ _ _
        refine o_callV (fun v V' => ∃ V2 : Vw, V2.le (V'.del b) ∧ (Z.del b).le V2 ∧ ∃ a k c xa xn xc, v = .tuple #[stG slot key tail en N1 cs.length (n + 1) a k c xa xn xc, .bool (decide (n = N1 + cs.length)), I 0] ∧ SlOf V2 Record.cells 6 (.slice a k c) (A.take n) ∧ CelS V2 cs N1 (n + 1) xa xn xc) rfl rfl fnok24 rfl rfl (fun hg E w1 hm => by exact (htk w1 ((vdel_put Z b _).trans hm.leV)).mono fun e w' h => small_view2 (vdel_put Z b _) hm.leV (vdel_none Z b) (hbw _ w1 _ hbP hm.leV) h) ?_
        rintro v V1 hle1 hv
        obtain ⟨V2, h2, h3, a1, k1, c1, xa1, xn1, xc1, rfl, hsl1, hcs1⟩ := hv rfl
        iterate 4 refine yO rfl rfl rfl rfl ?_
        refine o_store tok rfl rfl rfl (by first | (repeat' first | exact trivial | exact rfl | apply And.intro); done | simp [onesP, oneP, lk, Value.oneCell']) ?_
        iterate 2 refine yO rfl rfl rfl rfl ?_
        refine o_end [1, 4, 5, 13, 14, 15, 16] rfl ?_
        refine x_then (c_seq (c_region ?_))
        iterate 5 refine yO rfl rfl rfl rfl ?_
        refine o_call (.a (.v _)) rfl rfl fnok25 rfl rfl rfl (fun hg E w1 hm => by exact rover_c _ _ _ _ _ _ _ _ _) ?_
        iterate 2 refine yO rfl rfl rfl rfl ?_
        refine o_end [1, 4, 5, 13, 15, 16, 89] rfl ?_
        refine x_then ?_
        refine c_cond rfl (fun h => ?_) (fun h => ?_)
        ·
         exfalso
         rw [hov] at h
         simp at h
        ·
         refine c_skip (x_block (x_then (c_region ?_)))
         iterate 3 refine yO rfl rfl rfl rfl ?_
         refine o_end [1, 4, 5, 13, 15, 16] rfl ?_
         refine x_then ?_
         rw [hnext, hwn]
         refine x_round ((n + 1, a1, k1, c1, xa1, xn1, xc1, V1)) (⟨⟨by dsimp only; omega, by dsimp only; omega⟩, (Vw.le_put hZ (vdel_none _ _)).trans hle1, hle1.get _ _ hbP, hsl1.mono h2, hcs1.mono h2⟩) (by first | omega | (dsimp only; omega)) (by repeat (first | exact fN | refine fC rfl ?_)) (by repeat (first | exact oN | refine oC rfl ?_)) rfl (Vw.le.refl _)
       ·
        exact absurd h (by decide)
   ·
    have hne : n = Nt := by omega
    have hdn : decide (n = Nt) = true := decide_eq_true hne
    rw [hdn]
    refine c_skip (x_then (c_seq (c_block (c_seq (c_region ?_)))))
    iterate 2 refine yO rfl rfl rfl rfl ?_
    refine o_call (.a (.v _)) rfl rfl fnok23 rfl rfl rfl (fun hg E w1 hm => by exact hwant _ ((vdel_le Z b).trans hm.leV)) ?_
    refine o_new tok rfl rfl rfl rfl ?_
    refine o_store tok rfl rfl rfl (by first | (repeat' first | exact trivial | exact rfl | apply And.intro); done | simp [onesP, oneP, lk, Value.oneCell']) ?_
    refine o_end [1, 4, 5, 13, 15, 16, 17] rfl ?_
    refine x_then (c_seq (c_region ?_))
    refine yO rfl rfl rfl rfl ?_
    refine o_end [1, 4, 5, 13, 15, 16, 17, 18] rfl ?_
    refine x_then (c_seq (c_block (c_seq (c_region ?_))))
    iterate 10 refine yO rfl rfl rfl rfl ?_
    refine o_yield rfl rfl rfl (y_lenP tok rfl) ?_
    iterate 3 refine yO rfl rfl rfl rfl ?_
    refine o_end [1, 4, 5, 13, 15, 16, 17, 18, 38] rfl ?_
    refine x_then ?_
    refine c_cond rfl (fun h => ?_) (fun h => ?_)
    ·
     refine c_seq (c_region ?_)
     iterate 6 refine yO rfl rfl rfl rfl ?_
     refine o_end [10, 11, 12] rfl ?_
     refine x_then (c_ret (x_block_ret (x_then_ret (x_block_ret (x_then_ret ?_)))))
     refine x_then_ret (x_block_ret (x_then_ret ?_))
     refine b_ret tok rfl ?_
     intro E w' hm _
     have hmin : min most Nt = n := by omega
     refine ⟨?_, touch_view hm hZ hbZ, by rw [hmin]; exact hm.get _ _ hbZ⟩
     rw [hmin, decide_eq_true (show Nt ≤ most by omega)]
     rfl
    ·
     simp at h
  ·
   simp only [Xa, Xb, Xc, Xd, Xe, Xf, Xg, Xh, Xi, Xj, Xk, Xl, Xm, Xn, Xo, Xp] at h
   refine c_exit (x_then_exit (x_then_exit (x_block_hit (x_then (c_seq ?_)))))
   refine c_region ?_
   iterate 5 refine yO rfl rfl rfl rfl ?_
   refine o_end [10, 11, 12] rfl ?_
   refine x_then (c_ret ?_)
   refine b_ret tok rfl ?_
   have hne : n = most := by omega
   intro E w' hm _
   have hmin : min most Nt = n := by omega
   refine ⟨?_, touch_view hm hZ hbZ, by rw [hmin]; exact hm.get _ _ hbZ⟩
   have hdd : decide (n = Nt) = decide (Nt ≤ most) := by
    by_cases he : n = Nt
    · rw [decide_eq_true he, decide_eq_true (by omega)]
    · rw [decide_eq_false he, decide_eq_false (by omega)]
   rw [hmin, ← hdd, ← hne]
   rfl
theorem wholeFrom_or : ∀ (l : List Record) (i n d : Nat), n ≤ i → wholeFrom l i n d = n ∨ i < wholeFrom l i n d
 | [], _, _, _, _ => .inl rfl
 | r :: t, i, n, d, h => by
  rw [wholeFrom]
  split
  ·
   rcases wholeFrom_or t (i + 1) n (d + 1) (by omega) with h1 | h1
   · exact .inl h1
   · exact .inr (by omega)
  ·
   split
   · exact .inl rfl
   ·
    have := wholeFrom_ge t (i + 1) (i + 1) 0 (Nat.le_refl _)
    exact .inr (by omega)
theorem wholeFrom_take : ∀ (l : List Record) (i n d : Nat), n ≤ i → wholeFrom (l.take (wholeFrom l i n d - i)) i n d = wholeFrom l i n d
 | [], i, n, d, _ => by simp [wholeFrom]
 | r :: t, i, n, d, h => by
  obtain ⟨R, hR⟩ : ∃ R, wholeFrom (r :: t) i n d = R := ⟨_, rfl⟩
  rw [hR]
  rcases wholeFrom_or (r :: t) i n d h with h1 | h1
  ·
   rw [hR] at h1
   rw [h1, show n - i = 0 by omega, List.take_zero]
   rfl
  ·
   rw [hR] at h1
   obtain ⟨m, hm⟩ : ∃ m, R - i = m + 1 := ⟨R - i - 1, by omega⟩
   rw [hm, List.take_succ_cons]
   rw [wholeFrom] at hR ⊢
   split at hR
   ·
    rename_i hc
    rw [if_pos hc]
    have := wholeFrom_take t (i + 1) n (d + 1) (by omega)
    rw [hR, show R - (i + 1) = m by omega] at this
    exact this
   ·
    rename_i hc
    rw [if_neg hc]
    split at hR
    · omega
    ·
     rename_i hc2
     rw [if_neg hc2]
     have := wholeFrom_take t (i + 1) (i + 1) 0 (Nat.le_refl _)
     rw [hR, show R - (i + 1) = m by omega] at this
     exact this
theorem whole_take (A : List Record) : whole (A.take (whole A)) = whole A := wholeFrom_take A 0 0 0 (Nat.le_refl _)
theorem scan_nil : scanB [] = [] := by
 rw [scanB]
 exact mkF_none 64 0
theorem cel_none {g : Geo} {A : List Record} (h : whole A = 0) : celL g A = [] := by
 rw [celL, h, List.take_zero, scan_nil, allCells, cellsN, List.length_nil, Nat.zero_mul]
 rfl
theorem may_nil {g : Geo} (h : geoB g = true) : mayL g [] = true := by rw [mayL, h]; rfl
theorem slot_nat {g : Geo} {slot : Int} (h : 0 ≤ headV g slot) : ∃ k : Nat, slot = k ∧ (k : Int) < g.slots := by
 rw [headV] at h
 split at h
 ·
  rename_i hc
  exact ⟨slot.toNat, by omega, by omega⟩
 · omega
theorem jour_data {g : Geo} (hG : geoB g = true) {slot lsn : Int} (hh : 0 ≤ headV g slot) (hl : 0 ≤ lsn) : 0 ≤ jourV g slot lsn ∧ jourV g slot lsn < dataAt g ∧ jourV g slot lsn ≠ headV g slot := by
 obtain ⟨k, rfl, hk⟩ := slot_nat hh
 exact ⟨(rj_in hG hh hl).1, jour_low hG hk hl, fun e => head_jour hG hk hk hl e.symm⟩
theorem head_data {g : Geo} (hG : geoB g = true) {slot : Int} (hh : 0 ≤ headV g slot) : headV g slot < dataAt g := by
 obtain ⟨k, rfl, hk⟩ := slot_nat hh
 exact head_low hG hk
theorem cells_from {g : Geo} {l : List Block} (hm : mayL g l = true) : ∀ c ∈ allCells g l, dataAt g ≤ c.sector := by
 have hm2 := hm
 rw [mayL, Bool.and_eq_true] at hm2
 obtain ⟨hg, hmf⟩ := hm2
 have hf := geo_facts hg
 have hat := mayF_at hmf
 have hp : 0 < g.per.toNat := by omega
 intro c hc
 rw [allCells, cellsN, List.mem_map] at hc
 obtain ⟨j, hj, rfl⟩ := hc
 rw [List.mem_range] at hj
 have hd : j / g.per.toNat < l.length := (Nat.div_lt_iff_lt_mul hp).2 hj
 have hmod := Nat.mod_lt j hp
 obtain ⟨b, hb⟩ : ∃ b, l[j / g.per.toNat]? = some b := ⟨l[j / g.per.toNat], by simp [hd]⟩
 obtain ⟨_, k2, _, k4, _⟩ := hat _ b hb
 have hs := data_lt (n := b.n) (k := ((j % g.per.toNat : Nat) : Int)) hg (by omega) k2 (by omega) (by omega)
 rw [cellAt, blkAt_eq hb]
 dsimp only
 omega
theorem wr_low {g : Geo} {cs : List Cell} (hcs : ∀ c ∈ cs, dataAt g ≤ c.sector) (D : List ByteArray) {q : Nat} (hq : (q : Int) < dataAt g) (j : Nat) : (wrA D (cs.take j))[q]? = D[q]? :=
 wrA_off _ _ (fun c hc e => by have := hcs c (List.mem_of_mem_take hc); omega)
theorem wr_all {g : Geo} {cs : List Cell} (hcs : ∀ c ∈ cs, dataAt g ≤ c.sector) (D : List ByteArray) {q : Nat} (hq : (q : Int) < dataAt g) : (wrA D cs)[q]? = D[q]? :=
 wrA_off _ _ (fun c hc e => by have := hcs c hc; omega)
theorem wr_again {n : Int} {cs : List Cell} (hok : CellsOk n cs) (D : List ByteArray) (hD : (D.length : Int) = n) (j : Nat) : wrA (wrA D (cs.take j)) cs = wrA D cs := by
 apply List.ext_getElem?
 intro q
 by_cases h : ∃ c ∈ cs, c.sector.toNat = q
 ·
  obtain ⟨c, hc, rfl⟩ := h
  have hlo := hok.lo c hc
  rw [wrA_at cs _ c hc hok.ne (by rw [wrA_len]; omega), wrA_at cs _ c hc hok.ne (by omega)]
 ·
  have hno : ∀ c ∈ cs, c.sector.toNat ≠ q := fun c hc e => h ⟨c, hc, e⟩
  rw [wrA_off _ _ hno, wrA_off _ _ hno, wrA_off _ _ (fun c hc => hno c (List.mem_of_mem_take hc))]
theorem gD_jour {g : Geo} (hG : geoB g = true) {slot : Int} (hh : 0 ≤ headV g slot) {cs : List Cell} (hcs : ∀ c ∈ cs, dataAt g ≤ c.sector) (D : List ByteArray) (s1 : ByteArray) (N1 n : Nat) {lsn : Int} (hl : 0 ≤ lsn) :
  (gD D cs (headV g slot).toNat s1 N1 n)[(jourV g slot lsn).toNat]? = D[(jourV g slot lsn).toNat]? := by
 obtain ⟨h1, h2, h3⟩ := jour_data hG hh hl
 rw [gD]
 split
 · exact wr_low hcs D (by omega) _
 ·
  rw [List.getElem?_set_ne (by omega)]
  exact wr_all hcs D (by omega)
theorem gD_sz {D : List ByteArray} {cs : List Cell} {s1 : ByteArray} (hD : ∀ x ∈ D, x.size ≤ maxLen) (hc : ∀ c ∈ cs, c.b.size ≤ 256) (h1 : s1.size ≤ 256) (hq N1 n : Nat) : ∀ x ∈ gD D cs hq s1 N1 n, x.size ≤ maxLen := by
 have hset : ∀ (l : List ByteArray) (q : Nat) (y : ByteArray), (∀ x ∈ l, x.size ≤ maxLen) → y.size ≤ 256 → ∀ x ∈ l.set q y, x.size ≤ maxLen := fun l q y h hy x hx => by
  rcases List.mem_or_eq_of_mem_set hx with h2 | h2
  · exact h x h2
  · rw [h2]; simp only [maxLen]; omega
 have hwr : ∀ (l : List Cell) (T : List ByteArray), (∀ c ∈ l, c.b.size ≤ 256) → (∀ x ∈ T, x.size ≤ maxLen) → ∀ x ∈ wrA T l, x.size ≤ maxLen := by
  intro l
  induction l with
  | nil => intro T _ h; exact h
  | cons c r ih =>
   intro T hl h
   rw [wrA, List.foldl_cons]
   exact ih _ (fun x hx => hl x (List.mem_cons_of_mem _ hx)) (hset _ _ _ h (hl c List.mem_cons_self))
 rw [gD]
 split
 · exact hwr _ _ (fun c hc' => hc c (List.mem_of_mem_take hc')) hD
 · exact hset _ _ _ (hwr _ _ hc hD) h1
theorem cells_256 (g : Geo) (l : List Block) : ∀ c ∈ allCells g l, c.b.size ≤ 256 := by
 intro c hc
 rw [allCells, cellsN, List.mem_map] at hc
 obtain ⟨j, _, rfl⟩ := hc
 exact piece_size _ _
theorem headS_256 (n : Int) : (headS n).1.size ≤ 256 := by
 unfold headS
 split
 · simp only [strOf_size, sealL_len, leB, leTake_len]; decide
 · simp
theorem headS_back {n : Int} (h : 0 ≤ n ∧ n ≤ 1099511627776) : (headS n).2 = 0 ∧ tailOk (headS n).1 = some n := by
 have := headS_tail n
 exact ⟨this.1.2 h, this.2 (this.1.2 h)⟩
theorem rows_cut {g : Geo} {slot key tail : Int} {D : List ByteArray} {A : List Record} (hJ : RowsOf g slot key tail D A) {cs : List Cell} (hcs : ∀ c ∈ cs, dataAt g ≤ c.sector) (hcz : ∀ c ∈ cs, c.b.size ≤ 256) (s1 : ByteArray) (h1 : s1.size ≤ 256) (N1 n : Nat) :
  RowsOf g slot key tail (gD D cs (headV g slot).toNat s1 N1 n) A := by
 have := rows_next (D' := gD D cs (headV g slot).toNat s1 N1 n) hJ (k := 0) (Nat.zero_le _) (fun _ => .inr trivial) (by have := hJ.tl1; omega) (gD_len _ _ _ _ _ _) (gD_sz hJ.sz hcz h1 _ _ _) (fun lsn hl => gD_jour hJ.geo hJ.hd hcs D s1 N1 n hl)
 rw [List.drop_zero, show tail + ((0 : Nat) : Int) = tail by omega] at this
 exact this
theorem rows_end {g : Geo} {slot key tail : Int} {D : List ByteArray} {A : List Record} (hJ : RowsOf g slot key tail D A) (ht : tail + whole A ≤ 1099511627776) {cs : List Cell} (hcs : ∀ c ∈ cs, dataAt g ≤ c.sector) (hcz : ∀ c ∈ cs, c.b.size ≤ 256) (s1 : ByteArray) (h1 : s1.size ≤ 256) (N1 n : Nat) :
  RowsOf g slot key (tail + whole A) (gD D cs (headV g slot).toNat s1 N1 n) (A.drop (whole A)) :=
 rows_next (D' := gD D cs (headV g slot).toNat s1 N1 n) hJ (whole_le A) (fun _ => .inr trivial) ht (gD_len _ _ _ _ _ _) (gD_sz hJ.sz hcz h1 _ _ _) (fun lsn hl => gD_jour hJ.geo hJ.hd hcs D s1 N1 n hl)
theorem gD_hd0 {g : Geo} (hG : geoB g = true) {slot : Int} (hh : 0 ≤ headV g slot) {cs : List Cell} (hcs : ∀ c ∈ cs, dataAt g ≤ c.sector) (D : List ByteArray) (s1 : ByteArray) (N1 n : Nat) (hn : n ≤ N1 + cs.length) :
  (gD D cs (headV g slot).toNat s1 N1 n)[(headV g slot).toNat]? = D[(headV g slot).toNat]? := by
 have := head_data hG hh
 rw [gD, if_pos hn]
 exact wr_low hcs D (by omega) _
theorem gD_hd1 {g : Geo} (hG : geoB g = true) {slot : Int} (hh : 0 ≤ headV g slot) {cs : List Cell} (D : List ByteArray) (hD : (D.length : Int) = totV g) (s1 : ByteArray) (N1 n : Nat) (hn : N1 + cs.length < n) :
  (gD D cs (headV g slot).toNat s1 N1 n)[(headV g slot).toNat]? = some s1 := by
 have := rh_in hG hh
 rw [gD, if_neg (by omega), List.getElem?_set_self (by rw [wrA_len]; omega)]
theorem gD_stay {D : List ByteArray} {hq : Nat} {s1 : ByteArray} (h : D[hq]? = some s1) (N1 n : Nat) (hn : N1 < n) : gD D [] hq s1 N1 n = D := by
 rw [gD, if_neg (by simpa using hn)]
 show D.set hq s1 = D
 apply List.ext_getElem?
 intro q
 by_cases e : q = hq
 ·
  subst e
  rw [List.getElem?_set_self (List.getElem?_eq_some_iff.1 h).1, h]
 · rw [List.getElem?_set_ne (fun x => e x.symm)]
theorem gD_anew {n0 : Int} {D : List ByteArray} {cs : List Cell} (hok : CellsOk n0 cs) (hD : (D.length : Int) = n0) (hq : Nat) (s1 : ByteArray) (N1 N2 n m : Nat) (hn : n ≤ N1 + cs.length) (hm : N2 + cs.length < m) (hm1 : N1 + cs.length < m) : gD (gD D cs hq s1 N1 n) cs hq s1 N2 m = gD D cs hq s1 N1 m := by
 rw [gD, if_neg (by omega)]
 rw [show gD D cs hq s1 N1 n = wrA D (cs.take (n - N1)) by rw [gD, if_pos hn], wr_again hok D hD, gD, if_neg (by omega)]
end Go.Proofs.YtlafboeohojcbaaGreat
