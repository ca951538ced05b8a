import Derived.Test.YtifgmaeileiebaaMRef12
/- A device's log. -/
set_option linter.unusedVariables false
set_option linter.unusedSimpArgs false
set_option maxRecDepth 100000
namespace Go.Proofs.Ytifgmaeileiebaa
open Go Go.Eng Go.RowKit

theorem find_log (g : Geo) : findR 4 (regL g) = if geoB g = true then ⟨1 + 2 * g.nodes, g.log, 4, 1⟩ else ⟨0, 0, 0, 1⟩ := by
  unfold regL
  split <;> simp [regs, findR]

theorem glog_c (g : Geo) (ok : g.Ok) (hG : geoB g = true) (w : World) : Calls Try.prog 14 #[g.val, I 0] w fun e w' => e = .returned (I (1 + 2 * g.nodes)) ∧ Below w.heap.size w w' := by
  have hr := find_log g
  rw [if_pos hG] at hr
  have hf := geo_facts hG
  refine enter (E := E0) (O := []) (nl := 0) (V := vw w) [.a (.v g.val), .a (.v (I 0))] Try.func14 rfl rfl (mem0 E0 0 w) rfl rfl ?_
  refine c_seq ?_
  refine c_region ?_
  refine o_new tok rfl rfl rfl rfl ?_
  refine o_yield rfl rfl rfl (y_val tok rfl) ?_
  refine o_end [1, 2] rfl ?_
  refine x_then ?_
  refine c_seq ?_
  refine c_region ?_
  refine o_yield rfl rfl rfl (y_val tok rfl) ?_
  refine o_yield rfl rfl rfl (y_val tok rfl) ?_
  refine o_call (.a (.v _)) rfl rfl fnok28 rfl rfl rfl (fun hg E w1 hm => by exact of_c' g ok 4 0 0 _ hr g.log (by omega) (by dsimp only; omega) (by dsimp only; omega) (by dsimp only; omega) (by dsimp only; omega) (by dsimp only; omega) (1 + 2 * g.nodes) (by rw [if_neg (by dsimp only; omega)]; dsimp only; omega) _) ?_
  refine o_yield rfl rfl rfl (y_val tok rfl) ?_
  refine o_end [4] rfl ?_
  refine x_then ?_
  refine c_ret ?_
  refine b_ret tok rfl ?_
  intro E w' hm _
  refine ⟨?_, hm.below (Vw.le.refl _)⟩
  rfl

theorem rlog0_c (g : Geo) (ok : g.Ok) (hG : geoB g = true) (w : World) : Calls Try.prog 18 #[g.val, I 0] w fun e w' => e = .returned (I (1 + 2 * g.nodes)) ∧ Below w.heap.size w w' := by
  have hf := geo_facts hG
  refine enter (E := E0) (O := []) (nl := 0) (V := vw w) [.a (.v g.val), .a (.v (I 0))] Try.func18 rfl rfl (mem0 E0 0 w) rfl rfl ?_
  refine c_seq ?_
  refine c_region ?_
  refine o_new tok rfl rfl rfl rfl ?_
  refine o_yield rfl rfl rfl (y_val tok rfl) ?_
  refine o_end [1, 2] rfl ?_
  refine x_then ?_
  refine c_seq ?_
  refine c_seq ?_
  refine c_region ?_
  refine o_yield rfl rfl rfl (y_val tok rfl) ?_
  refine o_call (.a (.v _)) rfl rfl fnok15 rfl rfl rfl (fun hg E w1 hm => by exact refMay_c g ok _) ?_
  refine o_yield rfl rfl rfl (y_val tok rfl) ?_
  refine o_yield rfl rfl rfl (y_val tok rfl) ?_
  refine o_yield rfl rfl rfl (y_val tok rfl) ?_
  refine o_yield rfl rfl rfl (y_val tok rfl) ?_
  refine o_yield rfl rfl rfl (y_val tok rfl) ?_
  refine o_yield rfl rfl rfl (y_val tok rfl) ?_
  refine o_call (.a (.v _)) rfl rfl fnok29 rfl rfl rfl (fun hg E w1 hm => by exact in_c _ _ _ _) ?_
  refine o_yield rfl rfl rfl (y_val tok rfl) ?_
  refine o_yield rfl rfl rfl (y_val tok rfl) ?_
  refine o_end [1, 2, 15] rfl ?_
  refine x_then ?_
  refine c_cond rfl (fun h => ?_) (fun h => ?_)
  ·
    refine c_seq ?_
    refine c_region ?_
    refine o_yield rfl rfl rfl (y_val tok rfl) ?_
    refine o_end [4] rfl ?_
    refine x_then ?_
    refine c_ret ?_
    refine x_then_ret ?_
    refine b_ret tok rfl ?_
    rw [inB_iff] at h
    simp only [Bool.or_eq_true, Bool.not_eq_true', decide_eq_false_iff_not] at h
    rw [wrapI (by omega) (by omega), hG] at h
    rcases h with h | h
    · cases h
    · omega
  ·
    refine c_skip ?_
    refine x_then ?_
    refine c_seq ?_
    refine c_region ?_
    refine o_yield rfl rfl rfl (y_val tok rfl) ?_
    refine o_yield rfl rfl rfl (y_val tok rfl) ?_
    refine o_yield rfl rfl rfl (y_val tok rfl) ?_
    refine o_yield rfl rfl rfl (y_val tok rfl) ?_
    refine o_yield rfl rfl rfl (y_val tok rfl) ?_
    refine o_yield rfl rfl rfl (y_val tok rfl) ?_
    refine o_yield rfl rfl rfl (y_val tok rfl) ?_
    refine o_end [4] rfl ?_
    refine x_then ?_
    refine c_ret ?_
    refine b_ret tok rfl ?_
    intro E w' hm _
    refine ⟨?_, hm.below (Vw.le.refl _)⟩
    rw [wrapI (n := 2 * g.nodes) (by omega) (by omega), wrapI (n := 1 + 2 * g.nodes) (by omega) (by omega), wrapI (by omega) (by omega)]
    simp; rfl

def logL (g : Geo) (l : List ByteArray) : List ByteArray := (l.drop (1 + 2 * g.nodes).toNat).take g.log.toNat
def logB (g : Geo) (d : Device) : Bool := geoB g && (checkB d && decide ((d.s.l.length : Int) = totV g))
/-- What a device's log is. -/
def logV (g : Geo) (d : Device) : List Cmd × Int := if logB g d = true then rowV (logL g d.s.l) [] else ([], 2)

theorem log_in {g : Geo} (hG : geoB g = true) {n : Nat} (hn : (n : Int) = totV g) : 0 ≤ 1 + 2 * g.nodes ∧ 1 + 2 * g.nodes + g.log ≤ n ∧ n ≤ 1000000 := by
  have hf := geo_facts hG
  have hz := geo_sizes hG
  have ht : totV g = dataAt g + g.blocks * g.per := by rw [totV, if_pos hG]
  have hd : dataAt g = 1 + 2 * g.nodes + g.log + g.slots * (1 + g.journal) := rfl
  omega

theorem rowPost_V {V : Vw} {f : Nat} {r : List Cmd × Int} {args : Array Value} {w : World} (hV : V.le (vw w)) (h : Calls Try.prog f args w (RowPost r w)) :
    Calls Try.prog f args w fun e w' => ∃ x V', e = .returned x ∧ Below w.heap.size w w' ∧ Vext w.heap.size V V' w' ∧ RowVal r x V' := by
  refine h.mono ?_
  rintro e w' ⟨⟨v, rfl, hown⟩, hb⟩
  obtain ⟨V', hx, hsl⟩ := ownsRow_vext hV hb hown
  exact ⟨_, V', rfl, hb, hx, v, rfl, hsl, fun _ => rfl⟩

theorem cut_log {V : Vw} {v : Value} {l : List ByteArray} (g : Geo) (hs : SlOf V encS 1 v l) (hG : geoB g = true) (hn : (l.length : Int) = totV g) :
    SlOf V encS 1 (sliceV v (1 + 2 * g.nodes).toNat (1 + 2 * g.nodes + g.log).toNat 1) (logL g l) := by
  obtain ⟨h1, h2, _⟩ := log_in hG hn
  have hf := geo_facts hG
  have := hs.cut (lo := (1 + 2 * g.nodes).toNat) (hi := (1 + 2 * g.nodes + g.log).toNat) (by omega) (by omega)
  rw [show (1 + 2 * g.nodes + g.log).toNat - (1 + 2 * g.nodes).toNat = g.log.toNat by omega] at this
  exact this

theorem dlog_c (V : Vw) (g : Geo) (ok : g.Ok) (d : Device) (w : World) (hV : V.le (vw w)) (hd0 : DevIn V d) (hsz : ∀ s ∈ d.s.l, s.size ≤ maxLen) :
    Calls Try.prog 5 #[g.val, d.val] w (RowPost (logV g d) w) := by
  obtain ⟨⟨sv, sl⟩, ⟨cv, cl⟩, ⟨kv, kl⟩, nx, ⟨fv, fl⟩⟩ := d
  obtain ⟨a1, n1, c1, rfl⟩ := sl_shape hd0.s.sl
  obtain ⟨a2, n2, c2, rfl⟩ := sl_shape hd0.cache.sl
  obtain ⟨a3, n3, c3, rfl⟩ := sl_shape hd0.keys.sl
  obtain ⟨a4, n4, c4, rfl⟩ := sl_shape hd0.fenced.sl
  have hS := hd0.s.mono hV
  generalize hD : (⟨⟨.slice a1 n1 c1, sl⟩, ⟨.slice a2 n2 c2, cl⟩, ⟨.slice a3 n3 c3, kl⟩, nx, ⟨.slice a4 n4 c4, fl⟩⟩ : Device) = D at *
  have hval : D.val = .agg #[.slice a1 n1 c1, .slice a2 n2 c2, .slice a3 n3 c3, I nx, .slice a4 n4 c4] := by rw [← hD]
  have hDl : D.s.l = sl := by rw [← hD]
  have hDv : D.s.v = .slice a1 n1 c1 := by rw [← hD]
  have hchk := fun (w1 : World) (hle : V.le (vw w1)) => dcheck_c V D w1 hle hd0
  rw [hDv, hDl] at hS
  rw [hDl] at hsz
  have hlb : logB g D = (geoB g && (checkB D && decide ((sl.length : Int) = totV g))) := by rw [logB, hDl]
  have hlv : logV g D = if logB g D = true then rowV (logL g sl) [] else ([], 2) := by rw [logV, hDl]
  rw [hval] at hchk ⊢
  clear hD hd0 hval
  refine enter (E := E0) (O := []) (nl := 0) (V := vw w) [.a (.v g.val), .a (.v (.agg #[.slice a1 n1 c1, .slice a2 n2 c2, .slice a3 n3 c3, I nx, .slice a4 n4 c4]))] Try.func5 rfl rfl (mem0 E0 0 w) rfl rfl ?_
  refine c_seq ?_
  refine c_region ?_
  refine o_new tok rfl rfl rfl rfl ?_
  refine o_new tok rfl rfl rfl rfl ?_
  refine o_yield rfl rfl rfl (y_val tok rfl) ?_
  refine o_yield rfl rfl rfl (y_val tok rfl) ?_
  refine o_end [2, 3] rfl ?_
  refine x_then ?_
  refine c_seq ?_
  refine c_seq ?_
  refine c_draw mixed (by kernel_rfl) ?_
  refine d_yield rfl rfl rfl (y_val tok rfl) rfl ?_
  refine d_call (.a (.v _)) rfl rfl fnok11 rfl rfl rfl (fun hg E w1 hm => by exact geoMay_c g ok _) ?_
  refine d_yield rfl rfl rfl (y_val tok rfl) rfl ?_
  refine d_yield rfl rfl rfl (y_val tok rfl) rfl ?_
  refine d_yield rfl rfl rfl (y_val tok rfl) rfl ?_
  refine d_call (.a (.v _)) rfl rfl fnok12 rfl rfl rfl (fun hg E w1 hm => by exact hchk _ (hV.trans hm.leV)) ?_
  refine d_yield rfl rfl rfl (y_val tok rfl) rfl ?_
  refine d_yield rfl rfl rfl (y_val tok rfl) rfl ?_
  refine d_yield rfl rfl rfl (y_val tok rfl) rfl ?_
  refine d_yield rfl rfl rfl (y_val tok rfl) rfl ?_
  refine d_yield rfl rfl rfl (y_val tok rfl) rfl ?_
  refine d_yield rfl rfl rfl (y_len tok rfl (fun hg => hS.sl)) rfl ?_
  refine d_yield rfl rfl rfl (y_val tok rfl) rfl ?_
  refine d_call (.a (.v _)) rfl rfl fnok13 rfl rfl rfl (fun hg E w1 hm => by exact total_c g ok _) ?_
  refine d_yield rfl rfl rfl (y_val tok rfl) rfl ?_
  refine d_yield rfl rfl rfl (y_val tok rfl) rfl ?_
  refine d_end [2, 3, 21] rfl ?_
  refine x_then ?_
  refine c_cond rfl (fun h => ?_) (fun h => ?_)
  ·
    refine c_seq ?_
    refine c_region ?_
    refine o_yield rfl rfl rfl (y_val tok rfl) ?_
    refine o_yield rfl rfl rfl (y_val tok rfl) ?_
    refine o_end [4, 5] rfl ?_
    refine x_then ?_
    refine c_ret ?_
    refine x_then_ret ?_
    refine b_ret tok rfl ?_
    have hlo : logB g D = false := by
      rw [hlb, Bool.eq_false_iff]
      intro hc
      simp only [Bool.and_eq_true, decide_eq_true_eq] at hc
      obtain ⟨h1, h2, h3⟩ := hc
      simp [h1, h2, h3] at h
    intro E w' hm _
    refine ⟨⟨.slice none 0 0, by rw [hlv, hlo]; rfl, ?_⟩, hm.below (Vw.le.refl _)⟩
    rw [hlv, hlo]
    exact ⟨rfl, .inl ⟨rfl, rfl⟩⟩
  ·
    have hlo : logB g D = true := by
      rw [hlb]
      simp only [Bool.or_eq_false_iff, Bool.not_eq_false', bne_eq_false_iff_eq] at h
      obtain ⟨⟨h1, h2⟩, h3⟩ := h
      have h4 : checkB D = true := by
        cases hq : checkB D with
        | true => rfl
        | false => rw [hq] at h2; simp at h2
      simp [h1, h4, h3]
    clear h
    have hlo2 := hlo
    rw [hlb] at hlo2
    simp only [Bool.and_eq_true, decide_eq_true_eq] at hlo2
    obtain ⟨hG, _, hln⟩ := hlo2
    obtain ⟨hi1, hi2, hi3⟩ := log_in hG hln
    have hf := geo_facts hG
    rw [if_pos hlo] at hlv
    refine c_skip ?_
    refine x_then ?_
    refine c_seq ?_
    refine c_heldR mixed rfl (by repeat (first | exact SubO.nil | refine SubO.cons rfl ?_)) (by first | rfl | simp [okCels, allOk_plain]) ?_
    refine t_take 0 rfl (by kernel_rfl) rfl rfl rfl (y_val tok rfl) rfl ?_
    refine t_take 1 rfl (by kernel_rfl) rfl rfl rfl (y_val tok rfl) rfl ?_
    refine t_take 2 rfl (by kernel_rfl) rfl rfl rfl (y_val tok rfl) rfl ?_
    refine t_take 4 rfl (by kernel_rfl) rfl rfl rfl (y_val tok rfl) rfl ?_
    refine t_take 6 rfl (by kernel_rfl) rfl rfl rfl (y_val tok rfl) rfl ?_
    refine t_take 7 rfl (by kernel_rfl) rfl rfl rfl (y_val tok rfl) rfl ?_
    refine t_go ?_
    refine h_one 3 (by kernel_rfl) ?_
    refine h_call 3 (.a (.v _)) rfl rfl rfl fnok14 rfl rfl rfl (fun hg E w1 hm => by exact glog_c g ok hG _) ?_
    refine h_one 5 (by kernel_rfl) ?_
    refine h_call 5 (.a (.v _)) rfl rfl rfl fnok14 rfl rfl rfl (fun hg E w1 hm => by exact glog_c g ok hG _) ?_
    refine h_one 8 (by kernel_rfl) ?_
    refine h_yield 8 rfl rfl rfl rfl (y_val tok rfl) ?_
    refine h_one 9 (by kernel_rfl) ?_
    rw [wrapI (n := 1 + 2 * g.nodes + g.log) (by omega) (by omega)]
    refine h_yield 9 rfl rfl rfl rfl (y_sl tok rfl (fun hg => hS.sl) (fun hg => by dsimp only [Option.getD]; omega)) ?_
    refine h_one 10 (by kernel_rfl) ?_
    rw [show ((some (1 + 2 * g.nodes)).getD 0).toNat = (1 + 2 * g.nodes).toNat from rfl, show ((some (1 + 2 * g.nodes + g.log)).getD (sl.length : Int)).toNat = (1 + 2 * g.nodes + g.log).toNat from rfl]
    have hcut := cut_log g hS hG hln
    have hLs : ∀ s ∈ logL g sl, s.size ≤ maxLen := fun s hs => hsz s (List.mem_of_mem_drop (List.mem_of_mem_take hs))
    have hLn : (logL g sl).length ≤ 1000000 := by rw [logL, List.length_take, List.length_drop]; omega
    generalize hR : rowV (logL g sl) [] = R at *
    have hrc := fun (w1 : World) (hle : (vw w).le (vw w1)) => row_c (vw w) _ (logL g sl) w1 hle hcut hLs hLn
    rw [hR] at hrc
    refine h_to 10 rfl rfl rfl rfl rfl rfl (s_callR (fun _ : Unit => True) (fun _ => .tup [.row 2, .v (I R.2)]) 42 8 (fun _ => R.1.length) (fun _ => R.1.flatMap Cmd.cells) rfl fnok8 (fun _ => rfl) (fun E w1 hm => (hrc w1 hm.leV).mono (fun e w' hq => ⟨(), hq.1.choose, hq.1.choose_spec.1, hq.1.choose_spec.2, hq.2, trivial⟩))) (.inr fun _ _ => ⟨(by repeat (first | exact SubO.nil | refine SubO.cons rfl ?_)), rfl, (by first | exact Vw.le.refl _ | assumption)⟩) (fun _ _ => ?_)
    refine h_take 11 rfl (by kernel_rfl) rfl rfl rfl rfl (y_val tok rfl) rfl ?_
    refine h_one 12 (by kernel_rfl) ?_
    refine h_yield 12 rfl rfl rfl rfl (y_val tok rfl) ?_
    refine h_one 13 (by kernel_rfl) ?_
    refine h_yield 13 rfl rfl rfl rfl (y_val tok rfl) ?_
    refine h_one 14 (by kernel_rfl) ?_
    refine h_yield 14 rfl rfl rfl rfl (y_val tok rfl) ?_
    refine h_done [4, 5] (by kernel_rfl) rfl ?_
    refine x_then ?_
    refine c_ret ?_
    refine b_ret tok rfl ?_
    intro E w' hm _
    refine ⟨⟨E.κ 2, by rw [hlv]; rfl, ?_⟩, hm.below (Vw.le.refl _)⟩
    rw [hlv]
    exact hm.rowFresh (Vw.le.refl _) (l := 2) rfl
theorem rdlog_c (V : Vw) (g : Geo) (ok : g.Ok) (d : Device) (w : World) (hV : V.le (vw w)) (hd0 : DevIn V d) (hsz : ∀ s ∈ d.s.l, s.size ≤ maxLen) :
    Calls Try.prog 6 #[g.val, d.val] w (RowPost (logV g d) w) := by
  obtain ⟨⟨sv, sl⟩, ⟨cv, cl⟩, ⟨kv, kl⟩, nx, ⟨fv, fl⟩⟩ := d
  obtain ⟨a1, n1, c1, rfl⟩ := sl_shape hd0.s.sl
  obtain ⟨a2, n2, c2, rfl⟩ := sl_shape hd0.cache.sl
  obtain ⟨a3, n3, c3, rfl⟩ := sl_shape hd0.keys.sl
  obtain ⟨a4, n4, c4, rfl⟩ := sl_shape hd0.fenced.sl
  have hS := hd0.s.mono hV
  generalize hD : (⟨⟨.slice a1 n1 c1, sl⟩, ⟨.slice a2 n2 c2, cl⟩, ⟨.slice a3 n3 c3, kl⟩, nx, ⟨.slice a4 n4 c4, fl⟩⟩ : Device) = D at *
  have hval : D.val = .agg #[.slice a1 n1 c1, .slice a2 n2 c2, .slice a3 n3 c3, I nx, .slice a4 n4 c4] := by rw [← hD]
  have hDl : D.s.l = sl := by rw [← hD]
  have hDv : D.s.v = .slice a1 n1 c1 := by rw [← hD]
  have hchk := fun (w1 : World) (hle : V.le (vw w1)) => refCheck_c V D w1 hle hd0
  rw [hDv, hDl] at hS
  rw [hDl] at hsz
  have hlb : logB g D = (geoB g && (checkB D && decide ((sl.length : Int) = totV g))) := by rw [logB, hDl]
  have hlv : logV g D = if logB g D = true then rowV (logL g sl) [] else ([], 2) := by rw [logV, hDl]
  rw [hval] at hchk ⊢
  clear hD hd0 hval
  refine enter (E := E0) (O := []) (nl := 0) (V := vw w) [.a (.v g.val), .a (.v (.agg #[.slice a1 n1 c1, .slice a2 n2 c2, .slice a3 n3 c3, I nx, .slice a4 n4 c4]))] Try.func6 rfl rfl (mem0 E0 0 w) rfl rfl ?_
  refine c_seq ?_
  refine c_region ?_
  refine o_new tok rfl rfl rfl rfl ?_
  refine o_new tok rfl rfl rfl rfl ?_
  refine o_yield rfl rfl rfl (y_val tok rfl) ?_
  refine o_yield rfl rfl rfl (y_val tok rfl) ?_
  refine o_end [2, 3] rfl ?_
  refine x_then ?_
  refine c_seq ?_
  refine c_seq ?_
  refine c_draw mixed (by kernel_rfl) ?_
  refine d_yield rfl rfl rfl (y_val tok rfl) rfl ?_
  refine d_call (.a (.v _)) rfl rfl fnok15 rfl rfl rfl (fun hg E w1 hm => by exact refMay_c g ok _) ?_
  refine d_yield rfl rfl rfl (y_val tok rfl) rfl ?_
  refine d_yield rfl rfl rfl (y_val tok rfl) rfl ?_
  refine d_yield rfl rfl rfl (y_val tok rfl) rfl ?_
  refine d_call (.a (.v _)) rfl rfl fnok16 rfl rfl rfl (fun hg E w1 hm => by exact hchk _ (hV.trans hm.leV)) ?_
  refine d_yield rfl rfl rfl (y_val tok rfl) rfl ?_
  refine d_yield rfl rfl rfl (y_val tok rfl) rfl ?_
  refine d_yield rfl rfl rfl (y_val tok rfl) rfl ?_
  refine d_yield rfl rfl rfl (y_val tok rfl) rfl ?_
  refine d_yield rfl rfl rfl (y_val tok rfl) rfl ?_
  refine d_yield rfl rfl rfl (y_len tok rfl (fun hg => hS.sl)) rfl ?_
  refine d_yield rfl rfl rfl (y_val tok rfl) rfl ?_
  refine d_call (.a (.v _)) rfl rfl fnok17 rfl rfl rfl (fun hg E w1 hm => by exact refTotal_c g ok _) ?_
  refine d_yield rfl rfl rfl (y_val tok rfl) rfl ?_
  refine d_yield rfl rfl rfl (y_val tok rfl) rfl ?_
  refine d_end [2, 3, 22] rfl ?_
  refine x_then ?_
  refine c_cond rfl (fun h => ?_) (fun h => ?_)
  ·
    refine c_seq ?_
    refine c_region ?_
    refine o_yield rfl rfl rfl (y_val tok rfl) ?_
    refine o_yield rfl rfl rfl (y_val tok rfl) ?_
    refine o_end [4, 5] rfl ?_
    refine x_then ?_
    refine c_ret ?_
    refine x_then_ret ?_
    refine b_ret tok rfl ?_
    have hlo : logB g D = false := by
      rw [hlb, Bool.eq_false_iff]
      intro hc
      simp only [Bool.and_eq_true, decide_eq_true_eq] at hc
      obtain ⟨h1, h2, h3⟩ := hc
      simp [h1, h2, h3] at h
    intro E w' hm _
    refine ⟨⟨.slice none 0 0, by rw [hlv, hlo]; rfl, ?_⟩, hm.below (Vw.le.refl _)⟩
    rw [hlv, hlo]
    exact ⟨rfl, .inl ⟨rfl, rfl⟩⟩
  ·
    have hlo : logB g D = true := by
      rw [hlb]
      simp only [Bool.or_eq_false_iff, Bool.not_eq_false', bne_eq_false_iff_eq] at h
      obtain ⟨⟨h1, h2⟩, h3⟩ := h
      have h4 : checkB D = true := by
        cases hq : checkB D with
        | true => rfl
        | false => rw [hq] at h2; simp at h2
      simp [h1, h4, h3]
    clear h
    have hlo2 := hlo
    rw [hlb] at hlo2
    simp only [Bool.and_eq_true, decide_eq_true_eq] at hlo2
    obtain ⟨hG, _, hln⟩ := hlo2
    obtain ⟨hi1, hi2, hi3⟩ := log_in hG hln
    have hf := geo_facts hG
    rw [if_pos hlo] at hlv
    refine c_skip ?_
    refine x_then ?_
    refine c_seq ?_
    refine c_region ?_
    refine o_yield rfl rfl rfl (y_val tok rfl) ?_
    refine o_call (.a (.v _)) rfl rfl fnok18 rfl rfl rfl (fun hg E w1 hm => by exact rlog0_c g ok hG _) ?_
    refine o_yield rfl rfl rfl (y_val tok rfl) ?_
    refine o_end [2, 3, 6] rfl ?_
    refine x_then ?_
    refine c_seq ?_
    refine c_region ?_
    refine o_yield rfl rfl rfl (y_val tok rfl) ?_
    refine o_yield rfl rfl rfl (y_val tok rfl) ?_
    refine o_yield rfl rfl rfl (y_val tok rfl) ?_
    refine o_yield rfl rfl rfl (y_val tok rfl) ?_
    refine o_yield rfl rfl rfl (y_val tok rfl) ?_
    refine o_yield rfl rfl rfl (y_val tok rfl) ?_
    refine o_yield rfl rfl rfl (y_val tok rfl) ?_
    rw [wrapI (n := 1 + 2 * g.nodes + g.log) (by omega) (by omega)]
    refine o_yield rfl rfl rfl (y_sl tok rfl (fun hg => hS.sl) (fun hg => by dsimp only [Option.getD]; omega)) ?_
    rw [show ((some (1 + 2 * g.nodes)).getD 0).toNat = (1 + 2 * g.nodes).toNat from rfl, show ((some (1 + 2 * g.nodes + g.log)).getD (sl.length : Int)).toNat = (1 + 2 * g.nodes + g.log).toNat from rfl]
    have hcut := cut_log g hS hG hln
    have hLs : ∀ s ∈ logL g sl, s.size ≤ maxLen := fun s hs => hsz s (List.mem_of_mem_drop (List.mem_of_mem_take hs))
    have hLn : (logL g sl).length ≤ 1000000 := by rw [logL, List.length_take, List.length_drop]; omega
    generalize hR : rowV (logL g sl) [] = R at *
    have hrc := fun (w1 : World) (hle : (vw w).le (vw w1)) => refRowD_c (vw w) _ (logL g sl) w1 hle hcut hLs hLn
    rw [hR] at hrc
    refine o_step rfl rfl rfl rfl rfl (s_callR (fun _ : Unit => True) (fun _ => .tup [.row 2, .v (I R.2)]) 42 8 (fun _ => R.1.length) (fun _ => R.1.flatMap Cmd.cells) rfl fnok19 (fun _ => rfl) (fun E w1 hm => (hrc w1 hm.leV).mono (fun e w' hq => ⟨(), hq.1.choose, hq.1.choose_spec.1, hq.1.choose_spec.2, hq.2, trivial⟩))) (fun _ _ => ?_)
    refine o_yield rfl rfl rfl (y_val tok rfl) ?_
    refine o_yield rfl rfl rfl (y_val tok rfl) ?_
    refine o_yield rfl rfl rfl (y_val tok rfl) ?_
    refine o_yield rfl rfl rfl (y_val tok rfl) ?_
    refine o_end [4, 5] rfl ?_
    refine x_then ?_
    refine c_ret ?_
    refine b_ret tok rfl ?_
    intro E w' hm _
    refine ⟨⟨E.κ 2, by rw [hlv]; rfl, ?_⟩, hm.below (Vw.le.refl _)⟩
    rw [hlv]
    exact hm.rowFresh (Vw.le.refl _) (l := 2) rfl

theorem rowV_len : ∀ (L : List ByteArray) (acc : List Cmd), (rowV L acc).1.length ≤ L.length + acc.length
  | [], acc => by simp [rowV]
  | s :: r, acc => by
    rw [rowV]
    split
    · simp
    · split
      · simp
      · have := rowV_len r (acc ++ [drC s])
        simp only [List.length_append, List.length_cons, List.length_nil] at this ⊢
        omega

theorem same_c' (V : Vw) (av bv : Value) (A : List Cmd) (w : World) (hV : V.le (vw w)) (ha : SlOf V Cmd.cells 8 av A) (hb : SlOf V Cmd.cells 8 bv A) (hA : A.length ≤ 1000000) :
    Calls Try.prog 7 #[av, bv] w fun e w' => e = .returned (.bool true) ∧ Below w.heap.size w w' := by
  refine (same_c V av bv A A w hV ha hb hA hA).mono ?_
  rintro e w' ⟨⟨r, rfl, hr⟩, hbl⟩
  exact ⟨by rw [hr.2 rfl], hbl⟩

theorem decidedLog_law (w : World) {v0 v1 : Value} (R0 : ∃ g : Geo, v0 = g.val ∧ g.Ok) (R1 : ∃ a : Device, v1 = a.val ∧ Device.Ok (vw w) a) :
    Calls Try.prog 3 #[v0, v1] w fun e w' => e = .returned (.bool true) ∧ Below w.heap.size w w' := by
  obtain ⟨g, rfl, ok⟩ := R0
  obtain ⟨d, rfl, okd⟩ := R1
  have hd0 := DevIn.of okd
  have hsz : ∀ s ∈ d.s.l, s.size ≤ maxLen := okd.s.all
  have h1 := fun (V : Vw) (w1 : World) (h0 : (vw w).le V) (hV : V.le (vw w1)) => rowPost_V hV (dlog_c V g ok d w1 hV (hd0.mono h0) hsz)
  have h2 := fun (V : Vw) (w1 : World) (h0 : (vw w).le V) (hV : V.le (vw w1)) => rowPost_V hV (rdlog_c V g ok d w1 hV (hd0.mono h0) hsz)
  have hlen : (logV g d).1.length ≤ 1000000 := by
    unfold logV
    split
    · rename_i hl
      simp only [logB, Bool.and_eq_true, decide_eq_true_eq] at hl
      have := rowV_len (logL g d.s.l) []
      have h3 := (log_in hl.1 hl.2.2).2.2
      have h4 : (logL g d.s.l).length ≤ d.s.l.length := by rw [logL, List.length_take, List.length_drop]; omega
      simp only [List.length_nil] at this
      omega
    · simp
  generalize logV g d = R at *
  obtain ⟨⟨sv, sl⟩, ⟨cv, cl⟩, ⟨kv, kl⟩, nx, ⟨fv, fl⟩⟩ := d
  obtain ⟨a1, n1, c1, rfl⟩ := sl_shape hd0.s.sl
  obtain ⟨a2, n2, c2, rfl⟩ := sl_shape hd0.cache.sl
  obtain ⟨a3, n3, c3, rfl⟩ := sl_shape hd0.keys.sl
  obtain ⟨a4, n4, c4, rfl⟩ := sl_shape hd0.fenced.sl
  have e1 := hd0.s
  have e2 := hd0.cache
  have e3 := hd0.keys
  have e4 := hd0.fenced
  simp only at e1 e2 e3 e4
  refine enter (E := E0) (O := []) (nl := 0) (V := vw w) [.a (.v g.val), .a (.v (.agg #[.slice a1 n1 c1, .slice a2 n2 c2, .slice a3 n3 c3, I nx, .slice a4 n4 c4]))] Try.func3 rfl rfl (mem0 E0 0 w) rfl rfl ?_
  refine c_seq ?_
  refine c_region ?_
  refine o_new tok rfl rfl rfl rfl ?_
  refine o_new tok rfl rfl rfl rfl ?_
  refine o_yield rfl rfl rfl (y_val tok rfl) ?_
  refine o_end [2, 3] rfl ?_
  refine x_then ?_
  refine c_seq ?_
  refine c_seq ?_
  refine c_region ?_
  refine o_yield rfl rfl rfl (y_val tok rfl) ?_
  refine o_yield rfl rfl rfl (y_val tok rfl) ?_
  refine o_yield rfl rfl rfl (y_len tok rfl (fun hg => e1.sl)) ?_
  refine o_yield rfl rfl rfl (y_val tok rfl) ?_
  refine o_yield rfl rfl rfl (y_val tok rfl) ?_
  refine o_yield rfl rfl rfl (y_val tok rfl) ?_
  refine o_yield rfl rfl rfl (y_val tok rfl) ?_
  refine o_yield rfl rfl rfl (y_len tok rfl (fun hg => e2.sl)) ?_
  refine o_yield rfl rfl rfl (y_val tok rfl) ?_
  refine o_yield rfl rfl rfl (y_val tok rfl) ?_
  refine o_yield rfl rfl rfl (y_val tok rfl) ?_
  refine o_yield rfl rfl rfl (y_val tok rfl) ?_
  refine o_yield rfl rfl rfl (y_val tok rfl) ?_
  refine o_yield rfl rfl rfl (y_len tok rfl (fun hg => e3.sl)) ?_
  refine o_yield rfl rfl rfl (y_val tok rfl) ?_
  refine o_yield rfl rfl rfl (y_val tok rfl) ?_
  refine o_yield rfl rfl rfl (y_val tok rfl) ?_
  refine o_yield rfl rfl rfl (y_val tok rfl) ?_
  refine o_yield rfl rfl rfl (y_val tok rfl) ?_
  refine o_yield rfl rfl rfl (y_len tok rfl (fun hg => e4.sl)) ?_
  refine o_yield rfl rfl rfl (y_val tok rfl) ?_
  refine o_yield rfl rfl rfl (y_val tok rfl) ?_
  refine o_end [2, 3, 30] rfl ?_
  refine x_then ?_
  refine c_cond rfl (fun h => ?_) (fun h => ?_)
  ·
    refine c_seq ?_
    refine c_region ?_
    refine o_call (.a (.v _)) rfl rfl fnok4 rfl rfl rfl (fun hg E w1 hm => by exact wakes12_c _) ?_
    refine o_yield rfl rfl rfl (y_val tok rfl) ?_
    refine o_end [4] rfl ?_
    refine x_then ?_
    refine c_ret ?_
    refine x_then_ret ?_
    refine b_ret tok rfl ?_
    intro E w' hm _
    refine ⟨?_, hm.below (Vw.le.refl _)⟩
    rfl
  ·
    clear h
    refine c_skip ?_
    refine x_then ?_
    refine c_seq ?_
    refine c_region ?_
    refine o_yield rfl rfl rfl (y_val tok rfl) ?_
    refine o_yield rfl rfl rfl (y_val tok rfl) ?_
    refine o_callV (RowVal R) rfl rfl fnok5 rfl rfl (fun hg E w1 hm => by exact h1 (vw w) _ (Vw.le.refl _) hm.leV) ?_
    rintro x V2 hle2 hx
    obtain ⟨v2, rfl, hx2⟩ := hx rfl
    clear hx
    refine o_yield rfl rfl rfl (y_val tok rfl) ?_
    refine o_yield rfl rfl rfl (y_val tok rfl) ?_
    refine o_yield rfl rfl rfl (y_val tok rfl) ?_
    refine o_yield rfl rfl rfl (y_val tok rfl) ?_
    refine o_yield rfl rfl rfl (y_val tok rfl) ?_
    refine o_end [2, 3, 5, 6] rfl ?_
    refine x_then ?_
    refine c_seq ?_
    refine c_region ?_
    refine o_yield rfl rfl rfl (y_val tok rfl) ?_
    refine o_yield rfl rfl rfl (y_val tok rfl) ?_
    refine o_callV (RowVal R) rfl rfl fnok6 rfl rfl (fun hg E w1 hm => by exact h2 V2 _ hle2 hm.leV) ?_
    rintro x V3 hle3 hx
    obtain ⟨v3, rfl, hx3⟩ := hx rfl
    clear hx
    refine o_yield rfl rfl rfl (y_val tok rfl) ?_
    refine o_yield rfl rfl rfl (y_val tok rfl) ?_
    refine o_yield rfl rfl rfl (y_val tok rfl) ?_
    refine o_yield rfl rfl rfl (y_val tok rfl) ?_
    refine o_yield rfl rfl rfl (y_val tok rfl) ?_
    refine o_end [5, 6, 7, 8] rfl ?_
    refine x_then ?_
    refine c_seq ?_
    refine c_region ?_
    refine o_yield rfl rfl rfl (y_val tok rfl) ?_
    refine o_yield rfl rfl rfl (y_val tok rfl) ?_
    refine o_call (.a (.v _)) rfl rfl fnok7 rfl rfl rfl (fun hg E w1 hm => by exact same_c' V3 v2 v3 R.1 _ hm.leV (hx2.mono hle3) hx3 hlen) ?_
    refine o_yield rfl rfl rfl (y_val tok rfl) ?_
    refine o_yield rfl rfl rfl (y_val tok rfl) ?_
    refine o_yield rfl rfl rfl (y_val tok rfl) ?_
    refine o_yield rfl rfl rfl (y_val tok rfl) ?_
    refine o_yield rfl rfl rfl (y_val tok rfl) ?_
    refine o_yield rfl rfl rfl (y_val tok rfl) ?_
    refine o_call (.a (.v _)) rfl rfl fnok4 rfl rfl rfl (fun hg E w1 hm => by exact wakes12_c _) ?_
    refine o_yield rfl rfl rfl (y_val tok rfl) ?_
    refine o_yield rfl rfl rfl (y_val tok rfl) ?_
    refine o_end [4] rfl ?_
    refine x_then ?_
    refine c_ret ?_
    refine b_ret tok rfl ?_
    intro E w' hm _
    refine ⟨?_, hm.below ((hle2.trans hle3))⟩
    simp
    rfl
end Go.Proofs.Ytifgmaeileiebaa
