import Derived.Test.YtlafboeohojcbaaGreatMSc4
import Derived.Test.YtlafboeohojcbaaGreatEng44
/- Behind the last record, whatever is whole. -/
set_option linter.unusedVariables false
set_option linter.unusedSimpArgs false
set_option maxRecDepth 100000
namespace Go.Proofs.YtlafboeohojcbaaGreat
open Go Go.Eng Go.RowKit
theorem vdel_le (Z : Vw) (b : Nat) : (Z.del b).le Z := by
 refine ⟨fun k o hk => ?_, rfl, rfl, rfl⟩
 change (if _ then _ else _) = _ at hk
 split at hk
 · cases hk
 · exact hk
theorem vdel_none (Z : Vw) (b : Nat) : (Z.del b).get b = none := by
 show (if _ then _ else _) = _
 rw [if_pos rfl]
theorem vdel_put (Z : Vw) (b : Nat) (ob : Obj) : (Z.del b).le (Z.put b ob) := by
 refine ⟨fun k o hk => ?_, rfl, rfl, rfl⟩
 change (if _ then _ else _) = _ at hk
 split at hk
 · cases hk
 ·
  rename_i hkb
  show (if _ then _ else _) = _
  rw [if_neg hkb]
  exact hk
theorem vdel_mono {Z Z' : Vw} (b : Nat) (h : Z.le Z') : (Z.del b).le (Z'.del b) := by
 refine ⟨fun k o hk => ?_, h.os, h.tape, h.output⟩
 change (if _ then _ else _) = _ at hk
 split at hk
 · cases hk
 ·
  rename_i hkb
  show (if _ then _ else _) = _
  rw [if_neg hkb]
  exact h.get k o hk
theorem sl_delD {α : Type} {enc : α → List Value} {sz : Nat} {v : Value} {l : List α} {V : Vw} {D : Nat} (h : SlOf V enc sz v l) (hD : ∃ y, V.get D = some (.deferred y)) : SlOf (V.del D) enc sz v l := by
 refine ⟨⟨h.sl.1, ?_⟩, h.len⟩
 rcases h.sl.2 with h1 | ⟨b, off, cap, cs, e, fz, h1, h2, h3⟩
 · exact .inl h1
 ·
  refine .inr ⟨b, off, cap, cs, e, fz, h1, ?_, h3⟩
  show (if _ then _ else _) = _
  rw [if_neg]
  · exact h2
  ·
   rintro rfl
   obtain ⟨y, hy⟩ := hD
   rw [h2] at hy
   cases hy
def celL (g : Geo) (L : List Record) : List Cell := allCells g (scanB (L.take (whole L)))
theorem bcells_cN (base : Nat) (V : Vw) (g : Geo) (ok : g.Ok) (sv : Value) (l : List Block) (w : World) (hV : V.le (vw w)) (hs0 : SlOf V Block.cells 2 sv l) (hn : l.length ≤ maxLen) (hml : mayL g l = true) (hb0 : base ≤ w.heap.size) :
  Calls Tryz.prog 84 #[g.val, sv] w fun e w' => ∃ x V', e = .returned x ∧ Below w.heap.size w w' ∧ Vext w.heap.size V V' w' ∧ ∃ a n c, x = .tuple #[.slice a n c, I 0] ∧ SlOf V' Cell.cells 2 (.slice a n c) (allCells g l) ∧ NewSl base (.slice a n c) := by
 refine (bcells_c V g ok sv l w hV hs0 hn).mono ?_
 rintro e w' ⟨⟨_, v, rfl, hrow⟩ | ⟨h1, _⟩, hb⟩
 ·
  obtain ⟨V', hx, hsl⟩ := ownsRow_vext hV hb hrow
  obtain ⟨a, n, c, rfl⟩ := sl_shape hsl
  exact ⟨_, V', rfl, hb, hx, a, n, c, rfl, ⟨hsl, fun _ => rfl⟩, fun k hk => Nat.le_trans hb0 (hrow.lt k hk).1⟩
 · rw [hml] at h1; cases h1
theorem scannedG_c (V : Vw) (g : Geo) (ok : g.Ok) (hG : geoB g = true) (slot key at_ tail : Int) (lv cv : Value) (i en : Int) (L : List Record) (b : Nat) (w : World) (hb : w.heap[b]? = some (.cells (wkC slot key at_ tail lv cv i en g).toArray 88 (0, 0)))
  (hV : V.le ((vw w).del b)) (hs0 : SlOf V Record.cells 6 lv L) (hn : L.length ≤ 1000000) (hz : ∀ r ∈ L, r.text.size ≤ 256) (hml : mayL g (scanB (L.take (whole L))) = true) :
  Calls Tryz.prog 74 #[Ptr b] w fun e w' => e = .returned (I 0) ∧ Go.Eng.Touch (· = b) w w' ∧ ∃ a n c V', Vext w.heap.size V V' w' ∧ SlOf V' Cell.cells 2 (.slice a n c) (celL g L) ∧ NewSl w.heap.size (.slice a n c) ∧
   w'.heap[b]? = some (.cells (wkC slot key (if (celL g L).length = 0 then 3 else 2) tail lv (.slice a n c) 0 (IntKind.i64.wrap (tail + whole L)) g).toArray 88 (0, 0)) := by
 obtain ⟨la, ln, lc, rfl⟩ := sl_shape hs0.sl
 have hs := hs0.mono hV
 have hec := fun w1 hV => sEnd_c ((vw w).del b) _ L tail w1 hV hs hn
 have hB64 := mkF_len (fun n => lastG n (L.take (whole L)) [] none) 64 0
 refine enter1 [.a (.ptr 0 0)] hb Tryz.func74 rfl rfl rfl rfl ?_
 refine c_seq (c_region ?_)
 refine yO rfl rfl rfl rfl ?_
 refine o_end [0] rfl ?_
 refine x_then (c_seq ?_)
 refine c_heldR mixed rfl (by repeat (first | exact oN | refine oC rfl ?_)) (by first | rfl | simp [okCels, allOk_plain]) ?_
 refine t_take 0 rfl (by kernel_rfl) rfl rfl rfl (yV rfl) rfl ?_
 refine t_take 1 rfl (by kernel_rfl) rfl rfl rfl (yV rfl) rfl ?_
 refine t_take 2 rfl (by kernel_rfl) rfl rfl rfl (yV rfl) rfl ?_
 refine t_take 3 rfl (by kernel_rfl) rfl rfl rfl (yV rfl) rfl ?_
 refine t_take 4 rfl (by kernel_rfl) rfl rfl rfl (yV rfl) rfl ?_
 refine t_take 5 rfl (by kernel_rfl) rfl rfl rfl (yV rfl) rfl ?_
 refine t_take 6 rfl (by kernel_rfl) rfl rfl rfl (yV rfl) rfl ?_
 refine t_take 7 rfl (by kernel_rfl) rfl rfl rfl (yV rfl) rfl ?_
 refine t_take 8 rfl (by kernel_rfl) rfl rfl rfl (yV rfl) rfl ?_
 refine t_go ?_
 refine h_one 9 (by kernel_rfl) ?_
 refine h_callV 9 (RowBV (scanB (L.take (whole L)))) rfl rfl rfl fnok85 rfl rfl (fun hg E w1 hm => by exact rowB_V hm.leV (sblocks_c ((vw w).del b) la ln lc L _ hm.leV hs hn hz)) ?_
 rintro v1 W1 hle1 hv1
 obtain ⟨ba, bm, bc, rfl, hB⟩ := hv1 rfl
 refine h_one 10 (by kernel_rfl) ?_
 refine h_callV 10 (fun y V' => ∃ a n c, y = .tuple #[.slice a n c, I 0] ∧ SlOf V' Cell.cells 2 (.slice a n c) (celL g L) ∧ NewSl w.heap.size (.slice a n c)) rfl rfl rfl fnok84 rfl rfl (fun hg E w1 hm => by exact bcells_cN w.heap.size W1 g ok _ (scanB (L.take (whole L))) w1 hm.leV hB (by simp only [maxLen]; exact Nat.le_trans hB64 (by decide)) hml (hm.big 2 _ rfl)) ?_
 rintro v2 W2 hle2 hv2
 obtain ⟨ca, cn, cc, rfl, hC, hnew⟩ := hv2 rfl
 refine h_one 11 (by kernel_rfl) ?_
 refine yH 11 rfl rfl rfl rfl rfl ?_
 refine h_take 12 rfl (by kernel_rfl) rfl rfl rfl rfl (yV rfl) rfl ?_
 refine h_take 13 rfl (by kernel_rfl) rfl rfl rfl rfl (yV rfl) rfl ?_
 refine h_one 14 (by kernel_rfl) ?_
 refine yH 14 rfl rfl rfl rfl rfl ?_
 refine h_one 15 (by kernel_rfl) ?_
 refine yH 15 rfl rfl rfl rfl rfl ?_
 refine h_done [0, 3, 4] (by kernel_rfl) rfl ?_
 refine x_then (c_seq (c_seq (c_region ?_)))
 iterate 2 refine yO rfl rfl rfl rfl ?_
 refine o_end [0, 3, 20] rfl ?_
 refine x_then ?_
 refine c_cond rfl (fun h => ?_) (fun h => ?_)
 ·
  exact absurd h (by decide)
 ·
  refine c_skip (x_then (c_seq ?_))
  refine c_heldS [19, 23, 27, 31] mixed rfl (by repeat (first | exact oN | refine oC rfl ?_)) (by first | rfl | simp [okCels, allOk_plain]) ?_
  refine t_takeD 0 rfl (by kernel_rfl) rfl rfl rfl (yV rfl) rfl ?_
  refine t_takeR 1 rfl (by kernel_rfl) rfl rfl rfl (fun _ => y_val tok rfl) rfl ?_
  refine t_takeR 2 rfl (by kernel_rfl) rfl rfl rfl (fun _ => y_val tok rfl) rfl ?_
  refine t_takeR 3 rfl (by kernel_rfl) rfl rfl rfl (fun _ => y_val tok rfl) rfl ?_
  refine t_takeD 4 rfl (by kernel_rfl) rfl rfl rfl (yV rfl) rfl ?_
  refine t_takeD 5 rfl (by kernel_rfl) rfl rfl rfl (yV rfl) rfl ?_
  refine t_takeD 6 rfl (by kernel_rfl) rfl rfl rfl (yV rfl) rfl ?_
  refine t_takeD 7 rfl (by kernel_rfl) rfl rfl rfl (yV rfl) rfl ?_
  refine t_takeD 8 rfl (by kernel_rfl) rfl rfl rfl (yV rfl) rfl ?_
  refine t_takeD 9 rfl (by kernel_rfl) rfl rfl rfl (yV rfl) rfl ?_
  refine t_takeD 10 rfl (by kernel_rfl) rfl rfl rfl (yV rfl) rfl ?_
  refine t_takeD 11 rfl (by kernel_rfl) rfl rfl rfl (yV rfl) rfl ?_
  refine t_takeD 12 rfl (by kernel_rfl) rfl rfl rfl (yV rfl) rfl ?_
  refine t_takeD 13 rfl (by kernel_rfl) rfl rfl rfl (yV rfl) rfl ?_
  refine t_takeD 14 rfl (by kernel_rfl) rfl rfl rfl (yV rfl) rfl ?_
  refine t_go ?_
  refine h_one 15 (by kernel_rfl) ?_
  refine h_call 15 (.a (.v _)) rfl rfl rfl fnok86 rfl rfl rfl (fun hg E w1 hm => by exact hec _ ((hle1.trans hle2).trans hm.leV)) ?_
  refine h_one 16 (by kernel_rfl) ?_
  refine yH 16 rfl rfl rfl rfl rfl ?_
  refine h_one 17 (by kernel_rfl) ?_
  refine yH 17 rfl rfl rfl rfl rfl ?_
  refine h_one 18 (by kernel_rfl) ?_
  refine yH 18 rfl rfl rfl rfl rfl ?_
  refine h_one 19 (by kernel_rfl) ?_
  refine h_store 19 tok rfl rfl rfl rfl (by repeat' first | exact trivial | exact rfl | apply And.intro) (.inl rfl) ?_
  refine h_one 20 (by kernel_rfl) ?_
  refine yH 20 rfl rfl rfl rfl rfl ?_
  refine h_one 21 (by kernel_rfl) ?_
  refine yH 21 rfl rfl rfl rfl rfl ?_
  refine h_one 22 (by kernel_rfl) ?_
  refine yH 22 rfl rfl rfl rfl rfl ?_
  refine h_one 23 (by kernel_rfl) ?_
  refine h_store 23 tok rfl rfl rfl rfl (by repeat' first | exact trivial | exact rfl | apply And.intro) (.inl rfl) ?_
  refine h_one 24 (by kernel_rfl) ?_
  refine yH 24 rfl rfl rfl rfl rfl ?_
  refine h_one 25 (by kernel_rfl) ?_
  refine yH 25 rfl rfl rfl rfl rfl ?_
  refine h_one 26 (by kernel_rfl) ?_
  refine yH 26 rfl rfl rfl rfl rfl ?_
  refine h_one 27 (by kernel_rfl) ?_
  refine h_store 27 tok rfl rfl rfl rfl (by repeat' first | exact trivial | exact rfl | apply And.intro) (.inl rfl) ?_
  refine h_one 28 (by kernel_rfl) ?_
  refine yH 28 rfl rfl rfl rfl rfl ?_
  refine h_one 29 (by kernel_rfl) ?_
  refine yH 29 rfl rfl rfl rfl rfl ?_
  refine h_one 30 (by kernel_rfl) ?_
  refine yH 30 rfl rfl rfl rfl rfl ?_
  refine h_one 31 (by kernel_rfl) ?_
  refine h_store 31 tok rfl rfl rfl rfl (by repeat' first | exact trivial | exact rfl | apply And.intro) (.inl rfl) ?_
  refine h_done [0, 3] (by kernel_rfl) rfl ?_
  refine x_then (c_seq (c_seq (c_region ?_)))
  refine yO rfl rfl rfl rfl ?_
  refine o_yield rfl rfl rfl (y_len tok rfl (fun hg => hC.sl)) ?_
  refine yO rfl rfl rfl rfl ?_
  refine o_end [0, 51] rfl ?_
  refine x_then ?_
  refine c_cond rfl (fun h => ?_) (fun h => ?_)
  ·
   have h0 : (celL g L).length = 0 := by simpa using h
   clear h
   refine c_region ?_
   iterate 4 refine yO rfl rfl rfl rfl ?_
   refine o_store tok rfl rfl rfl (by first | (repeat' first | exact trivial | exact rfl | apply And.intro); done | simp [onesP, oneP, lk, Value.oneCell']) ?_
   refine o_end [] rfl ?_
   refine x_then (c_seq (c_region ?_))
   refine yO rfl rfl rfl rfl ?_
   refine o_end [2] rfl ?_
   refine x_then (c_ret ?_)
   refine b_ret tok rfl ?_
   intro E w' hm _
   obtain ⟨h1, h2⟩ := back1 hm (hle1.trans hle2) rfl rfl rfl
   refine ⟨rfl, h1, ca, cn, cc, V.grown w w', Vext.grownT hV h1, hC.newIn hnew (NewIn.grown hm), hnew, ?_⟩
   rw [h2, if_pos h0]
   simp [A.den]
  ·
   have h0 : ¬ (celL g L).length = 0 := by simpa using h
   clear h
   refine c_skip (x_then (c_seq (c_region ?_)))
   refine yO rfl rfl rfl rfl ?_
   refine o_end [2] rfl ?_
   refine x_then (c_ret ?_)
   refine b_ret tok rfl ?_
   intro E w' hm _
   obtain ⟨h1, h2⟩ := back1 hm (hle1.trans hle2) rfl rfl rfl
   refine ⟨rfl, h1, ca, cn, cc, V.grown w w', Vext.grownT hV h1, hC.newIn hnew (NewIn.grown hm), hnew, ?_⟩
   rw [h2, if_neg h0]
   simp [A.den]
theorem rebase {α : Type} {enc : α → List Value} {sz : Nat} {l : List α} {V V' V2 : Vw} {w w' : World} {b : Nat} {v : Value} (hV2 : V2.le ((vw w).del b)) (ht : Go.Eng.Touch (· = b) w w') (hx : Vext w.heap.size V V' w') (hs : SlOf V' enc sz v l) (hn : NewSl w.heap.size v) :
  Vext w.heap.size V2 (V2.grown w w') w' ∧ SlOf (V2.grown w w') enc sz v l := by
 refine ⟨Vext.grownT hV2 ht, hs.newIn hn (fun k o hk h => ?_)⟩
 simp only [Vw.grown]
 rw [if_neg (by omega)]
 exact (hx.get k o h).1
def atG (d : Bool) (cs : List Cell) : Int := if d = true then (if cs.length = 0 then 3 else 2) else 1
abbrev wkG (d : Bool) (cs : List Cell) (L : List Record) (slot key tail : Int) (a : Option Addr) (n c : Nat) (xa : Option Addr) (xn xc : Nat) (i en : Int) (g : Geo) : List Value :=
 wkC slot key (atG d cs) tail (.slice a n c) (.slice xa xn xc) (if d = true then 0 else i) (if d = true then IntKind.i64.wrap (tail + whole L) else en) g
def CelG (V : Vw) (g : Geo) (d : Bool) (L : List Record) (ca : Option Addr) (cn cc : Nat) (xa : Option Addr) (xn xc : Nat) : Prop :=
 (d = true → SlOf V Cell.cells 2 (.slice xa xn xc) (celL g L)) ∧ (d = false → xa = ca ∧ xn = cn ∧ xc = cc)
def RowG (V : Vw) (b : Nat) (g : Geo) (slot key tail : Int) (ca : Option Addr) (cn cc : Nat) (i en : Int) (L : List Record) (s : ByteArray) (lsn : Int) (w : World) (e : Ending) (w' : World) : Prop :=
 e = .returned (I 0) ∧ Go.Eng.Touch (· = b) w w' ∧ ∃ a n c xa xn xc V', Vext w.heap.size V V' w' ∧ SlOf V' Record.cells 6 (.slice a n c) (rowL L s key lsn) ∧ CelG V' g (rowD g L s key lsn) (rowL L s key lsn) ca cn cc xa xn xc ∧
  w'.heap[b]? = some (.cells (wkG (rowD g L s key lsn) (celL g (rowL L s key lsn)) (rowL L s key lsn) slot key tail a n c xa xn xc i en g).toArray 88 (0, 0))
set_option maxHeartbeats 2000000 in
theorem rowG_c (V : Vw) (g : Geo) (ok : g.Ok) (hG : geoB g = true) (slot key tail : Int) (la : Option Addr) (ln lc : Nat) (ca : Option Addr) (cn cc : Nat) (i en : Int) (L : List Record) (s : ByteArray) (hz : s.size ≤ maxLen) (b : Nat) (w : World) (hb : w.heap[b]? = some (.cells (wkC slot key 1 tail (.slice la ln lc) (.slice ca cn cc) i en g).toArray 88 (0, 0)))
  (hV : V.le ((vw w).del b)) (hs0 : SlOf V Record.cells 6 (.slice la ln lc) L) (hn : L.length ≤ 1000) (lsn : Int) (hlsn : lsn = IntKind.i64.wrap (tail + L.length)) (hz6 : ∀ r ∈ rowL L s key lsn, r.text.size ≤ 256) (h0 : rowD g L s key lsn = true → mayL g (scanB ((rowL L s key lsn).take (whole (rowL L s key lsn)))) = true) :
  Calls Tryz.prog 60 #[Ptr b, S s] w (RowG V b g slot key tail ca cn cc i en L s lsn w) := by
 have hs := hs0.mono hV
 obtain ⟨a', c', he, _⟩ := sl_cap hs.sl
 cases he
 have hisc := fun w => recIs_c s key lsn hz w
 obtain ⟨R, hR⟩ : ∃ R, isV s key lsn = R := ⟨_, rfl⟩
 obtain ⟨q, hq⟩ : ∃ q, isB s key lsn = q := ⟨_, rfl⟩
 rw [hR, hq, hlsn] at hisc
 have hrD : rowD g L s key lsn = !(q && decide ((L.length : Int) + 1 < g.journal)) := by rw [rowD, hq]
 rw [rowL, hR, hq] at h0 hz6
 refine enterR1 9 [.a (.ptr 0 0), .a (.v (S s))] hb Tryz.func60 rfl rfl rfl rfl ?_
 refine r_seq ?_
 refine r_region (by intro _ _ w1 h1; first | exact h1 | (obtain ⟨h2, _⟩ := h1; cases h2; done) | (obtain ⟨⟨_, h2⟩, _⟩ := h1; cases h2; done) | (obtain ⟨⟨_, h2, _⟩, _⟩ := h1; cases h2; done) | (obtain ⟨_, h2, _⟩ := h1; cases h2; done) | (obtain ⟨_, _, h2, _⟩ := h1; cases h2; done) | (obtain ⟨_, _, _, h2, _⟩ := h1; cases h2; done) | (rcases h1 with ⟨⟨_, _, h2, _⟩ | ⟨_, h2⟩, _⟩ <;> cases h2; done) | (exact nor _ h1)) rfl ?_
 refine yO rfl rfl rfl rfl ?_
 refine o_end [0, 1] rfl ?_
 refine rq ?_
 refine x_then ?_
 refine r_seq ?_
 refine r_heldM rfl (σ := Unit) (fun _ => [(0, .a (.ptr 0 0)), (5, .a (.ptr 3 0)), (6, .a (.v (.bool q)))]) (fun _ => [(0, .lit ((wkC slot key 1 tail (.slice la L.length lc) (.slice ca cn cc) i en g).map .v) 88), (1, .pin 0 b), (2, .size w.heap.size), (3, .lit (R.cells.map .v) 74)]) (4) (fun _ => (vw w).del b) (fun _ => True) mixed ?_ ?_
 ·
  refine t_take 0 rfl (by kernel_rfl) rfl rfl rfl (yV rfl) rfl ?_
  refine t_take 1 rfl (by kernel_rfl) rfl rfl rfl (yV rfl) rfl ?_
  refine t_take 2 rfl (by kernel_rfl) rfl rfl rfl (yV rfl) rfl ?_
  refine t_take 3 rfl (by kernel_rfl) rfl rfl rfl (yV rfl) rfl ?_
  refine t_take 4 rfl (by kernel_rfl) rfl rfl rfl (yV rfl) rfl ?_
  refine t_take 5 rfl (by kernel_rfl) rfl rfl rfl (yV rfl) rfl ?_
  refine t_take 6 rfl (by kernel_rfl) rfl rfl rfl (yV rfl) rfl ?_
  refine t_take 7 rfl (by kernel_rfl) rfl rfl rfl (yV rfl) rfl ?_
  refine t_take 8 rfl (by kernel_rfl) rfl rfl rfl (yV rfl) rfl ?_
  refine t_take 9 rfl (by kernel_rfl) rfl rfl rfl (yV rfl) rfl ?_
  refine t_take 10 rfl (by kernel_rfl) rfl rfl rfl (yV rfl) rfl ?_
  refine t_take 11 rfl (by kernel_rfl) rfl rfl rfl (yV rfl) rfl ?_
  refine t_take 12 rfl (by kernel_rfl) rfl rfl rfl (yV rfl) rfl ?_
  refine t_take 13 rfl (by kernel_rfl) rfl rfl rfl (yV rfl) rfl ?_
  refine t_take 14 rfl (by kernel_rfl) rfl rfl rfl (yV rfl) rfl ?_
  refine t_take 15 rfl (by kernel_rfl) rfl rfl rfl (yV rfl) rfl ?_
  refine t_take 16 rfl (by kernel_rfl) rfl rfl rfl (y_lenP tok rfl) rfl ?_
  refine t_take 17 rfl (by kernel_rfl) rfl rfl rfl (yV rfl) rfl ?_
  refine t_go ?_
  refine h_two 18 22 (by kernel_rfl) ?_ ?_
  ·
   refine h_call 18 (.a (.v (.tuple #[R.val, .bool q]))) rfl rfl rfl fnok73 rfl rfl rfl (fun hg E w1 hm => by exact hisc _) ?_
   refine h_two 19 22 (by kernel_rfl) ?_ ?_
   ·
    refine yH 19 rfl rfl rfl rfl rfl ?_
    refine h_three 20 21 22 (by kernel_rfl) ?_ ?_ ?_
    ·
     refine yH 20 rfl rfl rfl rfl rfl ?_
     refine h_two 21 22 (by kernel_rfl) ?_ ?_
     ·
      refine yH 21 rfl rfl rfl rfl rfl ?_
      refine h_one 22 (by kernel_rfl) ?_
      refine h_new 22 tok rfl rfl rfl rfl rfl rfl ?_
      refine h_one 23 (by kernel_rfl) ?_
      refine h_store 23 tok rfl rfl rfl rfl (by repeat' first | exact trivial | exact rfl | apply And.intro) (.inr ⟨(by repeat (first | exact oN | refine oC rfl ?_)), rfl, (by first | exact Vw.le.refl _ | assumption)⟩) ?_
      refine h_one 24 (by kernel_rfl) ?_
      refine yH 24 rfl rfl rfl rfl rfl ?_
      refine h_done [0, 5, 6] (by kernel_rfl) rfl ?_
      exact x_meet () trivial (by repeat (first | exact fN | refine fC rfl ?_)) (by repeat (first | exact oN | refine oC rfl ?_)) rfl (Vw.le.refl _)
     ·
      refine h_new 22 tok rfl rfl rfl rfl rfl rfl ?_
      refine h_two 21 23 (by kernel_rfl) ?_ ?_
      ·
       refine yH 21 rfl rfl rfl rfl rfl ?_
       refine h_one 23 (by kernel_rfl) ?_
       refine h_store 23 tok rfl rfl rfl rfl (by repeat' first | exact trivial | exact rfl | apply And.intro) (.inr ⟨(by repeat (first | exact oN | refine oC rfl ?_)), rfl, (by first | exact Vw.le.refl _ | assumption)⟩) ?_
       refine h_one 24 (by kernel_rfl) ?_
       refine yH 24 rfl rfl rfl rfl rfl ?_
       refine h_done [0, 5, 6] (by kernel_rfl) rfl ?_
       exact x_meet () trivial (by repeat (first | exact fN | refine fC rfl ?_)) (by repeat (first | exact oN | refine oC rfl ?_)) rfl (Vw.le.refl _)
      ·
       refine h_store 23 tok rfl rfl rfl rfl (by repeat' first | exact trivial | exact rfl | apply And.intro) (.inr ⟨(by repeat (first | exact oN | refine oC rfl ?_)), rfl, (by first | exact Vw.le.refl _ | assumption)⟩) ?_
       refine h_one 21 (by kernel_rfl) ?_
       refine yH 21 rfl rfl rfl rfl rfl ?_
       refine h_one 24 (by kernel_rfl) ?_
       refine yH 24 rfl rfl rfl rfl rfl ?_
       refine h_done [0, 5, 6] (by kernel_rfl) rfl ?_
       exact x_meet () trivial (by repeat (first | exact fN | refine fC rfl ?_)) (by repeat (first | exact oN | refine oC rfl ?_)) rfl (Vw.le.refl _)
    ·
     refine yH 21 rfl rfl rfl rfl rfl ?_
     refine h_two 20 22 (by kernel_rfl) ?_ ?_
     ·
      refine yH 20 rfl rfl rfl rfl rfl ?_
      refine h_one 22 (by kernel_rfl) ?_
      refine h_new 22 tok rfl rfl rfl rfl rfl rfl ?_
      refine h_one 23 (by kernel_rfl) ?_
      refine h_store 23 tok rfl rfl rfl rfl (by repeat' first | exact trivial | exact rfl | apply And.intro) (.inr ⟨(by repeat (first | exact oN | refine oC rfl ?_)), rfl, (by first | exact Vw.le.refl _ | assumption)⟩) ?_
      refine h_one 24 (by kernel_rfl) ?_
      refine yH 24 rfl rfl rfl rfl rfl ?_
      refine h_done [0, 5, 6] (by kernel_rfl) rfl ?_
      exact x_meet () trivial (by repeat (first | exact fN | refine fC rfl ?_)) (by repeat (first | exact oN | refine oC rfl ?_)) rfl (Vw.le.refl _)
     ·
      refine h_new 22 tok rfl rfl rfl rfl rfl rfl ?_
      refine h_one 20 (by kernel_rfl) ?_
      refine yH 20 rfl rfl rfl rfl rfl ?_
      refine h_one 23 (by kernel_rfl) ?_
      refine h_store 23 tok rfl rfl rfl rfl (by repeat' first | exact trivial | exact rfl | apply And.intro) (.inr ⟨(by repeat (first | exact oN | refine oC rfl ?_)), rfl, (by first | exact Vw.le.refl _ | assumption)⟩) ?_
      refine h_one 24 (by kernel_rfl) ?_
      refine yH 24 rfl rfl rfl rfl rfl ?_
      refine h_done [0, 5, 6] (by kernel_rfl) rfl ?_
      exact x_meet () trivial (by repeat (first | exact fN | refine fC rfl ?_)) (by repeat (first | exact oN | refine oC rfl ?_)) rfl (Vw.le.refl _)
    ·
     refine h_new 22 tok rfl rfl rfl rfl rfl rfl ?_
     refine h_two 20 21 (by kernel_rfl) ?_ ?_
     ·
      refine yH 20 rfl rfl rfl rfl rfl ?_
      refine h_two 21 23 (by kernel_rfl) ?_ ?_
      ·
       refine yH 21 rfl rfl rfl rfl rfl ?_
       refine h_one 23 (by kernel_rfl) ?_
       refine h_store 23 tok rfl rfl rfl rfl (by repeat' first | exact trivial | exact rfl | apply And.intro) (.inr ⟨(by repeat (first | exact oN | refine oC rfl ?_)), rfl, (by first | exact Vw.le.refl _ | assumption)⟩) ?_
       refine h_one 24 (by kernel_rfl) ?_
       refine yH 24 rfl rfl rfl rfl rfl ?_
       refine h_done [0, 5, 6] (by kernel_rfl) rfl ?_
       exact x_meet () trivial (by repeat (first | exact fN | refine fC rfl ?_)) (by repeat (first | exact oN | refine oC rfl ?_)) rfl (Vw.le.refl _)
      ·
       refine h_store 23 tok rfl rfl rfl rfl (by repeat' first | exact trivial | exact rfl | apply And.intro) (.inr ⟨(by repeat (first | exact oN | refine oC rfl ?_)), rfl, (by first | exact Vw.le.refl _ | assumption)⟩) ?_
       refine h_one 21 (by kernel_rfl) ?_
       refine yH 21 rfl rfl rfl rfl rfl ?_
       refine h_one 24 (by kernel_rfl) ?_
       refine yH 24 rfl rfl rfl rfl rfl ?_
       refine h_done [0, 5, 6] (by kernel_rfl) rfl ?_
       exact x_meet () trivial (by repeat (first | exact fN | refine fC rfl ?_)) (by repeat (first | exact oN | refine oC rfl ?_)) rfl (Vw.le.refl _)
     ·
      refine yH 21 rfl rfl rfl rfl rfl ?_
      refine h_one 20 (by kernel_rfl) ?_
      refine yH 20 rfl rfl rfl rfl rfl ?_
      refine h_one 23 (by kernel_rfl) ?_
      refine h_store 23 tok rfl rfl rfl rfl (by repeat' first | exact trivial | exact rfl | apply And.intro) (.inr ⟨(by repeat (first | exact oN | refine oC rfl ?_)), rfl, (by first | exact Vw.le.refl _ | assumption)⟩) ?_
      refine h_one 24 (by kernel_rfl) ?_
      refine yH 24 rfl rfl rfl rfl rfl ?_
      refine h_done [0, 5, 6] (by kernel_rfl) rfl ?_
      exact x_meet () trivial (by repeat (first | exact fN | refine fC rfl ?_)) (by repeat (first | exact oN | refine oC rfl ?_)) rfl (Vw.le.refl _)
   ·
    refine h_new 22 tok rfl rfl rfl rfl rfl rfl ?_
    refine h_one 19 (by kernel_rfl) ?_
    refine yH 19 rfl rfl rfl rfl rfl ?_
    refine h_two 20 21 (by kernel_rfl) ?_ ?_
    ·
     refine yH 20 rfl rfl rfl rfl rfl ?_
     refine h_two 21 23 (by kernel_rfl) ?_ ?_
     ·
      refine yH 21 rfl rfl rfl rfl rfl ?_
      refine h_one 23 (by kernel_rfl) ?_
      refine h_store 23 tok rfl rfl rfl rfl (by repeat' first | exact trivial | exact rfl | apply And.intro) (.inr ⟨(by repeat (first | exact oN | refine oC rfl ?_)), rfl, (by first | exact Vw.le.refl _ | assumption)⟩) ?_
      refine h_one 24 (by kernel_rfl) ?_
      refine yH 24 rfl rfl rfl rfl rfl ?_
      refine h_done [0, 5, 6] (by kernel_rfl) rfl ?_
      exact x_meet () trivial (by repeat (first | exact fN | refine fC rfl ?_)) (by repeat (first | exact oN | refine oC rfl ?_)) rfl (Vw.le.refl _)
     ·
      refine h_store 23 tok rfl rfl rfl rfl (by repeat' first | exact trivial | exact rfl | apply And.intro) (.inr ⟨(by repeat (first | exact oN | refine oC rfl ?_)), rfl, (by first | exact Vw.le.refl _ | assumption)⟩) ?_
      refine h_one 21 (by kernel_rfl) ?_
      refine yH 21 rfl rfl rfl rfl rfl ?_
      refine h_one 24 (by kernel_rfl) ?_
      refine yH 24 rfl rfl rfl rfl rfl ?_
      refine h_done [0, 5, 6] (by kernel_rfl) rfl ?_
      exact x_meet () trivial (by repeat (first | exact fN | refine fC rfl ?_)) (by repeat (first | exact oN | refine oC rfl ?_)) rfl (Vw.le.refl _)
    ·
     refine yH 21 rfl rfl rfl rfl rfl ?_
     refine h_one 20 (by kernel_rfl) ?_
     refine yH 20 rfl rfl rfl rfl rfl ?_
     refine h_one 23 (by kernel_rfl) ?_
     refine h_store 23 tok rfl rfl rfl rfl (by repeat' first | exact trivial | exact rfl | apply And.intro) (.inr ⟨(by repeat (first | exact oN | refine oC rfl ?_)), rfl, (by first | exact Vw.le.refl _ | assumption)⟩) ?_
     refine h_one 24 (by kernel_rfl) ?_
     refine yH 24 rfl rfl rfl rfl rfl ?_
     refine h_done [0, 5, 6] (by kernel_rfl) rfl ?_
     exact x_meet () trivial (by repeat (first | exact fN | refine fC rfl ?_)) (by repeat (first | exact oN | refine oC rfl ?_)) rfl (Vw.le.refl _)
  ·
   refine h_new 22 tok rfl rfl rfl rfl rfl rfl ?_
   refine h_one 18 (by kernel_rfl) ?_
   refine h_call 18 (.a (.v (.tuple #[R.val, .bool q]))) rfl rfl rfl fnok73 rfl rfl rfl (fun hg E w1 hm => by exact hisc _) ?_
   refine h_one 19 (by kernel_rfl) ?_
   refine yH 19 rfl rfl rfl rfl rfl ?_
   refine h_two 20 21 (by kernel_rfl) ?_ ?_
   ·
    refine yH 20 rfl rfl rfl rfl rfl ?_
    refine h_two 21 23 (by kernel_rfl) ?_ ?_
    ·
     refine yH 21 rfl rfl rfl rfl rfl ?_
     refine h_one 23 (by kernel_rfl) ?_
     refine h_store 23 tok rfl rfl rfl rfl (by repeat' first | exact trivial | exact rfl | apply And.intro) (.inr ⟨(by repeat (first | exact oN | refine oC rfl ?_)), rfl, (by first | exact Vw.le.refl _ | assumption)⟩) ?_
     refine h_one 24 (by kernel_rfl) ?_
     refine yH 24 rfl rfl rfl rfl rfl ?_
     refine h_done [0, 5, 6] (by kernel_rfl) rfl ?_
     exact x_meet () trivial (by repeat (first | exact fN | refine fC rfl ?_)) (by repeat (first | exact oN | refine oC rfl ?_)) rfl (Vw.le.refl _)
    ·
     refine h_store 23 tok rfl rfl rfl rfl (by repeat' first | exact trivial | exact rfl | apply And.intro) (.inr ⟨(by repeat (first | exact oN | refine oC rfl ?_)), rfl, (by first | exact Vw.le.refl _ | assumption)⟩) ?_
     refine h_one 21 (by kernel_rfl) ?_
     refine yH 21 rfl rfl rfl rfl rfl ?_
     refine h_one 24 (by kernel_rfl) ?_
     refine yH 24 rfl rfl rfl rfl rfl ?_
     refine h_done [0, 5, 6] (by kernel_rfl) rfl ?_
     exact x_meet () trivial (by repeat (first | exact fN | refine fC rfl ?_)) (by repeat (first | exact oN | refine oC rfl ?_)) rfl (Vw.le.refl _)
   ·
    refine yH 21 rfl rfl rfl rfl rfl ?_
    refine h_one 20 (by kernel_rfl) ?_
    refine yH 20 rfl rfl rfl rfl rfl ?_
    refine h_one 23 (by kernel_rfl) ?_
    refine h_store 23 tok rfl rfl rfl rfl (by repeat' first | exact trivial | exact rfl | apply And.intro) (.inr ⟨(by repeat (first | exact oN | refine oC rfl ?_)), rfl, (by first | exact Vw.le.refl _ | assumption)⟩) ?_
    refine h_one 24 (by kernel_rfl) ?_
    refine yH 24 rfl rfl rfl rfl rfl ?_
    refine h_done [0, 5, 6] (by kernel_rfl) rfl ?_
    exact x_meet () trivial (by repeat (first | exact fN | refine fC rfl ?_)) (by repeat (first | exact oN | refine oC rfl ?_)) rfl (Vw.le.refl _)
 rintro ⟨⟩ -
 refine x_then ?_
 iterate 2 refine r_seq ?_
 refine r_region (by intro _ _ w1 h1; first | exact h1 | (obtain ⟨h2, _⟩ := h1; cases h2; done) | (obtain ⟨⟨_, h2⟩, _⟩ := h1; cases h2; done) | (obtain ⟨⟨_, h2, _⟩, _⟩ := h1; cases h2; done) | (obtain ⟨_, h2, _⟩ := h1; cases h2; done) | (obtain ⟨_, _, h2, _⟩ := h1; cases h2; done) | (obtain ⟨_, _, _, h2, _⟩ := h1; cases h2; done) | (rcases h1 with ⟨⟨_, _, h2, _⟩ | ⟨_, h2⟩, _⟩ <;> cases h2; done) | (exact nor _ h1)) rfl ?_
 iterate 2 refine yO rfl rfl rfl rfl ?_
 refine o_end [0, 5, 32] rfl ?_
 refine rq ?_
 refine x_then ?_
 refine r_cond rfl (fun h => ?_) (fun h => ?_)
 ·
  refine r_seq ?_
  refine r_region (by intro _ _ w1 h1; first | exact h1 | (obtain ⟨h2, _⟩ := h1; cases h2; done) | (obtain ⟨⟨_, h2⟩, _⟩ := h1; cases h2; done) | (obtain ⟨⟨_, h2, _⟩, _⟩ := h1; cases h2; done) | (obtain ⟨_, h2, _⟩ := h1; cases h2; done) | (obtain ⟨_, _, h2, _⟩ := h1; cases h2; done) | (obtain ⟨_, _, _, h2, _⟩ := h1; cases h2; done) | (rcases h1 with ⟨⟨_, _, h2, _⟩ | ⟨_, h2⟩, _⟩ <;> cases h2; done) | (exact nor _ h1)) rfl ?_
  refine yO rfl rfl rfl rfl ?_
  have hqf : q = false := by simpa using h
  rw [hqf, if_neg (by simp)] at h0 hz6
  have hrd : rowD g L s key lsn = true := by rw [hrD, hqf]; rfl
  have hrl : rowL L s key lsn = L := by rw [rowL, hq, hqf, if_neg (by simp)]
  refine o_step rfl rfl rfl rfl rfl (s_callWV (σ := Option Addr × Nat × Nat) (fun x V' => SlOf V' Cell.cells 2 (.slice x.1 x.2.1 x.2.2) (celL g L) ∧ NewSl w.heap.size (.slice x.1 x.2.1 x.2.2)) (fun _ => .a (.v (I 0))) 0 88 (fun x => (wkC slot key (if (celL g L).length = 0 then 3 else 2) tail (.slice la L.length lc) (.slice x.1 x.2.1 x.2.2) 0 (IntKind.i64.wrap (tail + whole L)) g).map .v) rfl fnok74 rfl (fun _ => rfl) (fun _ => rfl) (fun E w1 hm hb1 => (scannedG_c ((vw w).del b) g ok hG slot key 1 tail _ _ i en L (E.ρ 0) w1 hb1 (hm.leDel (l := 0) rfl) hs (by omega) hz6 (h0 hrd)).mono (fun e w' ⟨h1, h2, a, n, c, V', h3, h4, h5, h6⟩ => ⟨(a, n, c), V', h1, h2, h6, h3, h4, fun k hk => Nat.le_trans (hm.big 2 _ rfl) (h5 k hk)⟩))) (fun xs hxs => ?_)
  obtain ⟨⟨xa, xn, xc⟩, W2⟩ := xs
  obtain ⟨hle2, hC, hnew⟩ := hxs
  dsimp only at hle2 hC hnew
  refine yO rfl rfl rfl rfl ?_
  refine o_end [4] rfl ?_
  refine rq ?_
  refine x_then ?_
  refine r_ret ?_
  refine x_then_ret ?_
  refine rb_ret tok rfl ?_
  intro E w' hm _
  obtain ⟨h1, h2⟩ := back1 hm hle2 rfl rfl rfl
  have hx := Vext.grownT hV h1
  refine ⟨rfl, h1, la, L.length, lc, xa, xn, xc, V.grown w w', hx, ?_, ⟨fun _ => ?_, fun h => ?_⟩, ?_⟩
  · rw [hrl]; exact hs0.mono hx.le
  · rw [hrl]; exact hC.newIn hnew (NewIn.grown hm)
  · rw [hrd] at h; cases h
  ·
   rw [h2, hrd, hrl]
   simp only [wkG, atG, if_true]
   simp [A.den]
 ·
  have hqt : q = true := by simpa using h
  rw [hqt, if_pos rfl] at h0 hz6
  clear h
  refine r_skip ?_
  refine x_then ?_
  refine r_seq ?_
  refine r_region (by intro _ _ w1 h1; first | exact h1 | (obtain ⟨h2, _⟩ := h1; cases h2; done) | (obtain ⟨⟨_, h2⟩, _⟩ := h1; cases h2; done) | (obtain ⟨⟨_, h2, _⟩, _⟩ := h1; cases h2; done) | (obtain ⟨_, h2, _⟩ := h1; cases h2; done) | (obtain ⟨_, _, h2, _⟩ := h1; cases h2; done) | (obtain ⟨_, _, _, h2, _⟩ := h1; cases h2; done) | (rcases h1 with ⟨⟨_, _, h2, _⟩ | ⟨_, h2⟩, _⟩ <;> cases h2; done) | (exact nor _ h1)) rfl ?_
  refine o_new tok rfl rfl rfl rfl ?_
  refine o_end [0, 5, 7] rfl ?_
  refine rq ?_
  refine x_then ?_
  iterate 2 refine r_seq ?_
  refine r_region (by intro _ _ w1 h1; first | exact h1 | (obtain ⟨h2, _⟩ := h1; cases h2; done) | (obtain ⟨⟨_, h2⟩, _⟩ := h1; cases h2; done) | (obtain ⟨⟨_, h2, _⟩, _⟩ := h1; cases h2; done) | (obtain ⟨_, h2, _⟩ := h1; cases h2; done) | (obtain ⟨_, _, h2, _⟩ := h1; cases h2; done) | (obtain ⟨_, _, _, h2, _⟩ := h1; cases h2; done) | (rcases h1 with ⟨⟨_, _, h2, _⟩ | ⟨_, h2⟩, _⟩ <;> cases h2; done) | (exact nor _ h1)) rfl ?_
  iterate 2 refine yO rfl rfl rfl rfl ?_
  refine o_bs tok rfl rfl rfl rfl (fun b1 W1 hlw1 hb1 => ?_)
  refine k_nilO 4 0 74 6 rfl rfl ?_
  refine k_plainP [0, 7, 35, 37] [1, 2, 4, 5] rfl (by repeat (first | exact fN | refine fC rfl ?_)) rfl rfl (fun Ea V1 hle1 hlit hpin => ?_)
  have hw0 := hlit 0 _ _ rfl rfl
  have hbe : Ea.ρ 0 = b := hpin 1 0 b rfl
  clear hlit hpin
  refine o_callV (fun v V2 => ∃ bw bm, v = .func (.func 87) #[] #[Ptr bw, Ptr bm] ∧ V2.get bw = some (.cells [Ptr (Ea.ρ 0)].toArray 86 (0, 0)) ∧ V2.get bm = some (.cells [.slice (some ⟨b1, 0, none⟩) 1 1].toArray 36 (0, 0))) rfl rfl fnok75 rfl rfl (fun hg E w1 hm => by exact records_c V1 (Ea.ρ 0) _ 1 1 _ hm.leV) ?_
  rintro v V2 hle2 hx
  obtain ⟨bw, bm, rfl, hbw, hbm⟩ := hx rfl
  clear hx
  have hle12 := hle1.trans hle2
  have hM : SlOf V2 Record.cells 6 (.slice (some ⟨b1, 0, none⟩) 1 1) [R] := (SlOf.ofBlock (enc := Record.cells) (sz := 6) (l := [R]) (hb1 rfl) rfl (fun _ => rfl) (Nat.le_refl _)).mono hle12
  have hL2 : SlOf V2 Record.cells 6 (.slice la L.length lc) L := hs.mono (hlw1.trans hle12)
  refine o_end [0, 7, 38] rfl ?_
  refine rq ?_
  refine x_then ?_
  refine r_block ?_
  refine r_rangeB (α := Record) (σ := List Record) (τ := Unit) (by omega) rfl fnok87 (fun r => r.val) (fun xs => xs = L ++ [R]) (fun _ => True) (L.length + [R].length) [(0, .a (.v (Ptr (Ea.ρ 0)))), (7, .a (.v (Ptr (Ea.ρ 4))))] (fun s => [(4, .lit [.row 5] 36), (5, .row 74 6 s.length (s.flatMap Record.cells)), (2, .size w.heap.size), (7, .keep 4 (Ea.ρ 4) (Ea.κ 4))]) (fun xs s => s = xs) (fun _ => []) (fun _ _ => False) .ret [] (by repeat (first | exact fN | refine fC rfl ?_)) rfl rfl (by repeat (first | exact oN | refine oC rfl ?_)) (fun _ => rfl) (fun _ => rfl) rfl (fun w0 hw => records_seq V2 bw bm (Ea.ρ 0) slot key 1 tail la L.length lc _ i en g _ 1 1 L [R] (by simp; omega) hbw hbm (hle2.get _ _ hw0) hL2 hM _ w0 hw) ?_ ?_ ?_
  ·
   intro l pre x s1 Vf sz hI hlen hVf
   have hpl : s1.length ≤ 1001 := by rw [hI]; simp at hlen; omega
   refine r_region (by intro _ _ w1 h1; first | exact h1 | (obtain ⟨h2, _⟩ := h1; cases h2; done) | (obtain ⟨⟨_, h2⟩, _⟩ := h1; cases h2; done) | (obtain ⟨⟨_, h2, _⟩, _⟩ := h1; cases h2; done) | (obtain ⟨_, h2, _⟩ := h1; cases h2; done) | (obtain ⟨_, _, h2, _⟩ := h1; cases h2; done) | (obtain ⟨_, _, _, h2, _⟩ := h1; cases h2; done) | (rcases h1 with ⟨⟨_, _, h2, _⟩ | ⟨_, h2⟩, _⟩ <;> cases h2; done) | (exact nor _ h1)) rfl ?_
   refine o_new tok rfl rfl rfl rfl ?_
   refine o_store tok rfl rfl rfl (by first | (repeat' first | exact trivial | exact rfl | apply And.intro); done | simp [onesP, oneP, lk, Value.oneCell']) ?_
   refine o_end [7, 8] rfl ?_
   refine rq ?_
   refine ra_end rfl (by repeat (first | exact Vw.le.refl _ | assumption | (refine Vw.le.trans ?_ (by assumption)))) (fun Vg kz hVg => ?_)
   refine r_block ?_
   refine k_unptrK 7 7 4 (Ea.ρ 4) 0 rfl rfl rfl ?_
   refine r_region (by intro _ _ w1 h1; first | exact h1 | (obtain ⟨h2, _⟩ := h1; cases h2; done) | (obtain ⟨⟨_, h2⟩, _⟩ := h1; cases h2; done) | (obtain ⟨⟨_, h2, _⟩, _⟩ := h1; cases h2; done) | (obtain ⟨_, h2, _⟩ := h1; cases h2; done) | (obtain ⟨_, _, h2, _⟩ := h1; cases h2; done) | (obtain ⟨_, _, _, h2, _⟩ := h1; cases h2; done) | (rcases h1 with ⟨⟨_, _, h2, _⟩ | ⟨_, h2⟩, _⟩ <;> cases h2; done) | (exact nor _ h1)) rfl ?_
   iterate 2 refine yO rfl rfl rfl rfl ?_
   refine o_step rfl rfl rfl rfl rfl (s_bs tok 6 rfl rfl rfl) (fun _ _ => ?_)
   refine o_step rfl rfl rfl rfl rfl (s_app tok x.cells rfl (fun E w hm => ownsRow_src (hm.row _ _ _ _ _ rfl)) (fun _ _ _ => by simpa using rec_ones [x]) (by dsimp only; omega)) (fun _ _ => ?_)
   refine o_store tok rfl rfl rfl (by first | (repeat' first | exact trivial | exact rfl | apply And.intro); done | simp [onesP, oneP, lk, Value.oneCell']) ?_
   refine o_end [] rfl ?_
   refine rq ?_
   refine x_block ?_
   have hx : s1.length + 1 = (s1 ++ [x]).length ∧ s1.flatMap Record.cells ++ x.cells = (s1 ++ [x]).flatMap Record.cells := by simp
   rw [hx.1, hx.2]
   refine k_swap 5 13 rfl ?_
   refine rc_next (s1 ++ [x]) (by rw [hI]) (by repeat (first | exact oN | refine oC rfl ?_)) rfl (by repeat (first | exact Vw.le.refl _ | assumption | (refine Vw.le.trans ?_ (by assumption))))
  ·
   intro D V3 s1 xs hS hI hle3 hD hle4
   have hsL : s1 = L ++ [R] := hI.trans hS
   subst hsL
   have hw3 := hle3.get _ _ (hle2.get _ _ hw0)
   have hDne : D ≠ Ea.ρ 0 := fun e => by rw [e, hw3] at hD; cases hD
   have hD2 : (V3.del (Ea.ρ 0)).get D = some (.deferred (some [])) := by
    simp only [Vw.del]
    rw [if_neg hDne]
    exact hD
   have hln : (L ++ [R]).length ≤ 1000000 := by simp; omega
   have hrl : rowL L s key lsn = L ++ [R] := by rw [rowL, hq, hR, hqt, if_pos rfl]
   have hVend : ((vw w).del (Ea.ρ 0)).le ((V3.del (Ea.ρ 0)).del D) := by
    rw [hbe]
    have h1 := hlw1.trans (hle12.trans hle4)
    refine ⟨fun k o hk => ?_, h1.os, h1.tape, h1.output⟩
    have h2 := h1.get k o hk
    simp only [Vw.del] at hk h2 ⊢
    split at hk
    · cases hk
    ·
     rename_i hkb
     split at h2
     · cases h2
     ·
      rename_i hkD
      rw [if_neg hkD, if_neg hkb]
      exact h2
   refine x_block (x_then ?_)
   iterate 2 refine r_seq ?_
   refine k_unptrK 7 7 4 (Ea.ρ 4) 0 rfl rfl rfl ?_
   refine k_thaw (Ea.ρ 0) 88 hw3 (fun kv => ?_)
   refine k_unptrK 0 11 10 (Ea.ρ 0) 0 rfl rfl rfl ?_
   refine r_region (by intro _ _ w1 h1; first | exact h1 | (obtain ⟨h2, _⟩ := h1; cases h2; done) | (obtain ⟨⟨_, h2⟩, _⟩ := h1; cases h2; done) | (obtain ⟨⟨_, h2, _⟩, _⟩ := h1; cases h2; done) | (obtain ⟨_, h2, _⟩ := h1; cases h2; done) | (obtain ⟨_, _, h2, _⟩ := h1; cases h2; done) | (obtain ⟨_, _, _, h2, _⟩ := h1; cases h2; done) | (rcases h1 with ⟨⟨_, _, h2, _⟩ | ⟨_, h2⟩, _⟩ <;> cases h2; done) | (exact nor _ h1)) rfl ?_
   iterate 5 refine yO rfl rfl rfl rfl ?_
   refine o_store tok rfl rfl rfl (by first | (repeat' first | exact trivial | exact rfl | apply And.intro); done | simp [onesP, oneP, lk, Value.oneCell']) ?_
   refine o_end [0, 7] rfl ?_
   refine rq ?_
   refine x_then ?_
   refine r_seq ?_
   refine r_heldS (by intro _ _ w1 h1; first | exact h1 | (obtain ⟨h2, _⟩ := h1; cases h2; done) | (obtain ⟨⟨_, h2⟩, _⟩ := h1; cases h2; done) | (obtain ⟨⟨_, h2, _⟩, _⟩ := h1; cases h2; done) | (obtain ⟨_, h2, _⟩ := h1; cases h2; done) | (obtain ⟨_, _, h2, _⟩ := h1; cases h2; done) | (obtain ⟨_, _, _, h2, _⟩ := h1; cases h2; done) | (rcases h1 with ⟨⟨_, _, h2, _⟩ | ⟨_, h2⟩, _⟩ <;> cases h2; done) | (exact nor _ h1)) rfl [] mixed rfl (by repeat (first | exact oN | refine oC rfl ?_)) (by first | rfl | simp [okCels, allOk_plain]) ?_
   refine t_take 0 rfl (by kernel_rfl) rfl rfl rfl (yV rfl) rfl ?_
   refine t_take 1 rfl (by kernel_rfl) rfl rfl rfl (y_own (s := .a (.v (I (L ++ [R]).length))) 5 rfl rfl (fun v V' hv => y_len tok rfl (fun hg => hv))) rfl ?_
   refine t_take 2 rfl (by kernel_rfl) rfl rfl rfl (yV rfl) rfl ?_
   refine t_take 3 rfl (by kernel_rfl) rfl rfl rfl (yV rfl) rfl ?_
   refine t_take 4 rfl (by kernel_rfl) rfl rfl rfl (yV rfl) rfl ?_
   refine t_take 5 rfl (by kernel_rfl) rfl rfl rfl (yV rfl) rfl ?_
   refine t_take 6 rfl (by kernel_rfl) rfl rfl rfl (yV rfl) rfl ?_
   refine t_take 7 rfl (by kernel_rfl) rfl rfl rfl (yV rfl) rfl ?_
   refine t_go ?_
   refine h_done [0, 56] (by kernel_rfl) rfl ?_
   refine rq ?_
   refine x_then ?_
   refine r_cond rfl (fun h => ?_) (fun h => ?_)
   ·
    refine r_seq ?_
    refine r_region (by intro _ _ w1 h1; first | exact h1 | (obtain ⟨h2, _⟩ := h1; cases h2; done) | (obtain ⟨⟨_, h2⟩, _⟩ := h1; cases h2; done) | (obtain ⟨⟨_, h2, _⟩, _⟩ := h1; cases h2; done) | (obtain ⟨_, h2, _⟩ := h1; cases h2; done) | (obtain ⟨_, _, h2, _⟩ := h1; cases h2; done) | (obtain ⟨_, _, _, h2, _⟩ := h1; cases h2; done) | (rcases h1 with ⟨⟨_, _, h2, _⟩ | ⟨_, h2⟩, _⟩ <;> cases h2; done) | (exact nor _ h1)) rfl ?_
    refine yO rfl rfl rfl rfl ?_
    refine o_end [4] rfl ?_
    refine rq ?_
    refine x_then ?_
    refine r_ret ?_
    refine x_then_ret ?_
    refine rb_retD tok rfl hD2 ?_
    have hlt : ((L ++ [R]).length : Int) < g.journal := by simpa using h
    intro E w' hm _
    obtain ⟨h1, h2⟩ := backK hm hVend rfl (l := 10) (q := 11) rfl rfl
    rw [hbe] at h1 h2
    have hr := hm.rowFreshD hVend (l0 := 10) rfl (hm.kp 11 10 _ _ rfl).1 (l := 5) rfl
    obtain ⟨V', hx, hsl⟩ := vext_touchRow hV h1 hr
    obtain ⟨ra, rn, rc, he⟩ := sl_shape hsl
    rw [he] at hsl
    have hd : rowD g L s key lsn = false := by
     rw [rowD, hq, hqt, decide_eq_true (by rw [List.length_append] at hlt; simpa using hlt)]; rfl
    refine ⟨rfl, h1, ra, rn, rc, ca, cn, cc, V', hx, by rw [hrl]; exact ⟨hsl, fun _ => rfl⟩, ⟨fun h => ?_, fun _ => ⟨rfl, rfl, rfl⟩⟩, ?_⟩
    · rw [hd] at h; cases h
    ·
     rw [h2, hd]
     simp only [wkG, atG, Bool.false_eq_true, if_false]
     simp [A.den, he]
   ·
    refine r_skip ?_
    refine x_then ?_
    refine r_seq ?_
    refine r_region (by intro _ _ w1 h1; first | exact h1 | (obtain ⟨h2, _⟩ := h1; cases h2; done) | (obtain ⟨⟨_, h2⟩, _⟩ := h1; cases h2; done) | (obtain ⟨⟨_, h2, _⟩, _⟩ := h1; cases h2; done) | (obtain ⟨_, h2, _⟩ := h1; cases h2; done) | (obtain ⟨_, _, h2, _⟩ := h1; cases h2; done) | (obtain ⟨_, _, _, h2, _⟩ := h1; cases h2; done) | (rcases h1 with ⟨⟨_, _, h2, _⟩ | ⟨_, h2⟩, _⟩ <;> cases h2; done) | (exact nor _ h1)) rfl ?_
    refine yO rfl rfl rfl rfl ?_
    have hge : ¬ ((L ++ [R]).length : Int) < g.journal := by simpa using h
    have hd : rowD g L s key lsn = true := by
     rw [rowD, decide_eq_false (by rw [List.length_append] at hge; simpa using hge), Bool.and_false]; rfl
    refine o_step rfl rfl rfl rfl rfl (s_callWV (σ := Option Addr × Nat × Nat) (fun x V' => SlOf V' Cell.cells 2 (.slice x.1 x.2.1 x.2.2) (celL g (L ++ [R])) ∧ NewSl w.heap.size (.slice x.1 x.2.1 x.2.2)) (fun _ => .a (.v (I 0))) 10 88 (fun x => [.v (I slot), .v (I key), .v (I8 (if (celL g (L ++ [R])).length = 0 then 3 else 2)), .v (I tail), .row 5, .v (.slice x.1 x.2.1 x.2.2), .v (I 0), .v (I (IntKind.i64.wrap (tail + whole (L ++ [R])))), .v (I g.nodes), .v (I g.slots), .v (I g.blocks), .v (I g.per), .v (I g.journal), .v (I g.log), .v (I g.lease), .v (I g.wait)]) rfl fnok74 rfl (fun _ => rfl) (fun _ => rfl) (fun E w1 hm hb1 => (scannedG_c ((vw w1).del (E.ρ 10)) g ok hG slot key 1 tail (E.κ 5) (.slice ca cn cc) i en (L ++ [R]) (E.ρ 10) w1 hb1 (Vw.le.refl _) (hm.rowOfDel 5 rfl rfl (fun _ => rfl)) hln hz6 (h0 hd)).mono (fun e w' ⟨h1, h2, a, n, c, V', h3, h4, h5, h6⟩ => by obtain ⟨k1, k2⟩ := rebase (hm.leDel (l := 10) rfl) h2 h3 h4 h5; exact ⟨(a, n, c), _, h1, h2, h6, k1, k2, fun k hk => Nat.le_trans (hm.big 2 _ rfl) (h5 k hk)⟩))) (fun xs hxs => ?_)
    obtain ⟨⟨xa, xn, xc⟩, W9⟩ := xs
    obtain ⟨hle9, hC, hnew⟩ := hxs
    dsimp only at hle9 hC hnew
    have hD2 := hle9.get _ _ hD2
    have hC := sl_delD hC ⟨_, hD2⟩
    refine yO rfl rfl rfl rfl ?_
    refine o_end [4] rfl ?_
    refine rq ?_
    refine x_then ?_
    refine r_ret ?_
    refine rb_retD tok rfl hD2 ?_
    intro E w' hm _
    have hVend9 := hVend.trans (vdel_mono D hle9)
    obtain ⟨h1, h2⟩ := backK hm hVend9 rfl (l := 10) (q := 11) rfl rfl
    rw [hbe] at h1 h2
    have hr := hm.rowFreshD hVend9 (l0 := 10) rfl (hm.kp 11 10 _ _ rfl).1 (l := 5) rfl
    have hsl := SlOf.grown (enc := Record.cells) V hr (fun _ => rfl)
    obtain ⟨ra, rn, rc, he⟩ := sl_shape hsl.sl
    rw [he] at hsl
    refine ⟨rfl, h1, ra, rn, rc, xa, xn, xc, V.grown w w', Vext.grownT hV h1, by rw [hrl]; exact hsl, ⟨fun _ => ?_, fun h => ?_⟩, ?_⟩
    · rw [hrl]; exact hC.newIn hnew (NewIn.grown hm)
    · rw [hd] at h; cases h
    ·
     rw [h2, hd, hrl]
     simp only [wkG, atG, if_true]
     simp [A.den, he]
  ·
   intro D V3 y pre _ hf
   exact hf.elim
abbrev rpG (d : Bool) (cs : List Cell) (L : List Record) (slot key tail : Int) (a : Option Addr) (n c : Nat) (xa : Option Addr) (xn xc : Nat) (i en : Int) : Value :=
 rpV slot key (atG d cs) tail (.slice a n c) (.slice xa xn xc) (if d = true then 0 else i) (if d = true then IntKind.i64.wrap (tail + whole L) else en)
theorem CelG.mono {V V' : Vw} {g : Geo} {d : Bool} {L : List Record} {ca : Option Addr} {cn cc : Nat} {xa : Option Addr} {xn xc : Nat} (h : CelG V g d L ca cn cc xa xn xc) (hle : V.le V') : CelG V' g d L ca cn cc xa xn xc :=
 ⟨fun hd => (h.1 hd).mono hle, h.2⟩
set_option maxHeartbeats 1000000 in
theorem rpTake1G_c (V : Vw) (g : Geo) (ok : g.Ok) (hG : geoB g = true) (slot key tail : Int) (la : Option Addr) (ln lc : Nat) (ca : Option Addr) (cn cc : Nat) (i en : Int) (L : List Record) (s : ByteArray) (hz : s.size ≤ maxLen) (w : World)
  (hV : V.le (vw w)) (hs0 : SlOf V Record.cells 6 (.slice la ln lc) L) (hn : L.length ≤ 1000) (lsn : Int) (hlsn : lsn = IntKind.i64.wrap (tail + L.length)) (hz6 : ∀ r ∈ rowL L s key lsn, r.text.size ≤ 256) (h0 : rowD g L s key lsn = true → mayL g (scanB ((rowL L s key lsn).take (whole (rowL L s key lsn)))) = true) :
  Calls Tryz.prog 24 #[g.val, rpV slot key 1 tail (.slice la ln lc) (.slice ca cn cc) i en, S s] w fun e w' => ∃ v V', e = .returned v ∧ Below w.heap.size w w' ∧ Vext w.heap.size V V' w' ∧
   ∃ a n c xa xn xc, v = .tuple #[rpG (rowD g L s key lsn) (celL g (rowL L s key lsn)) (rowL L s key lsn) slot key tail a n c xa xn xc i en, .bool false, I 0] ∧ SlOf V' Record.cells 6 (.slice a n c) (rowL L s key lsn) ∧ CelG V' g (rowD g L s key lsn) (rowL L s key lsn) ca cn cc xa xn xc := by
 obtain ⟨d, hd⟩ : ∃ d, rowD g L s key lsn = d := ⟨_, rfl⟩
 have hrc := rowG_c V g ok hG slot key tail la ln lc ca cn cc i en L s hz
 unfold RowG at hrc
 obtain ⟨cs, hcs⟩ : ∃ cs, celL g (rowL L s key lsn) = cs := ⟨_, rfl⟩
 rw [hd, hcs]
 have hcall : ∀ (b1 : Nat) (w1 : World), w.heap.size ≤ w1.heap.size → (vw w).le ((vw w1).del b1) → w1.heap[b1]? = some (.cells (wkC slot key 1 tail (.slice la ln lc) (.slice ca cn cc) i en g).toArray 88 (0, 0)) →
   Calls Tryz.prog 60 #[Ptr b1, S s] w1 fun e w' => ∃ (x : Option Addr × Nat × Nat × Option Addr × Nat × Nat) (V' : Vw), e = .returned (I 0) ∧ Go.Eng.Touch (· = b1) w1 w' ∧ w'.heap[b1]? = some (.cells (wkG d cs (rowL L s key lsn) slot key tail x.1 x.2.1 x.2.2.1 x.2.2.2.1 x.2.2.2.2.1 x.2.2.2.2.2 i en g).toArray 88 (0, 0)) ∧ Vext w1.heap.size (vw w) V' w' ∧
    ∃ V2 : Vw, V2.le V' ∧ V.le V2 ∧ (∀ k o, V2.get k = some o → V.get k = some o ∨ w.heap.size ≤ k) ∧ SlOf V2 Record.cells 6 (.slice x.1 x.2.1 x.2.2.1) (rowL L s key lsn) ∧ CelG V2 g d (rowL L s key lsn) ca cn cc x.2.2.2.1 x.2.2.2.2.1 x.2.2.2.2.2 := by
  intro b1 w1 hsz hdel hb1
  refine (hrc b1 w1 hb1 (hV.trans hdel) hs0 hn lsn hlsn hz6 h0).mono ?_
  rintro e w' ⟨h1, h2, a, n, c, xa, xn, xc, V', hx, hsl, hcel, hc⟩
  obtain ⟨V3, g1, g2, g3⟩ := small_touch hsz hV hdel h2 hx
  rw [hd, hcs] at hc
  rw [hd] at hcel
  exact ⟨(a, n, c, xa, xn, xc), V3, h1, h2, hc, g1, V', g2, hx.le, g3, hsl, hcel⟩
 refine enter (E := E0) (O := []) (nl := 0) (V := vw w) [.a (.v g.val), .a (.v (rpV slot key 1 tail (.slice la ln lc) (.slice ca cn cc) i en)), .a (.v (S s))] Tryz.func24 rfl rfl (mem0 E0 0 w) rfl rfl ?_
 refine c_seq (c_region ?_)
 iterate 3 refine o_new tok rfl rfl rfl rfl ?_
 iterate 2 refine yO rfl rfl rfl rfl ?_
 refine o_end [2, 3, 4, 6, 8] rfl ?_
 refine x_then (c_seq (c_region ?_))
 iterate 2 refine yO rfl rfl rfl rfl ?_
 refine o_call (.a (.v _)) rfl rfl fnok41 rfl rfl rfl (fun hg E w1 hm => by exact deed1_c _) ?_
 iterate 3 refine yO rfl rfl rfl rfl ?_
 refine o_new tok rfl rfl rfl rfl ?_
 refine o_store tok rfl rfl rfl (by first | (repeat' first | exact trivial | exact rfl | apply And.intro); done | simp [onesP, oneP, lk, Value.oneCell']) ?_
 refine yO rfl rfl rfl rfl ?_
 refine o_end [2, 3, 4, 6, 8, 9, 10] rfl ?_
 refine x_then (c_seq (c_region ?_))
 iterate 3 refine yO rfl rfl rfl rfl ?_
 refine o_new tok rfl rfl rfl rfl ?_
 refine yO rfl rfl rfl rfl ?_
 refine o_end [2, 4, 6, 8, 9, 10, 11] rfl ?_
 refine x_then (c_seq (c_seq (c_region ?_)))
 refine yO rfl rfl rfl rfl ?_
 refine o_end [2, 4, 6, 8, 9, 11, 22] rfl ?_
 refine x_then ?_
 refine c_cond rfl (fun h => ?_) (fun h => ?_)
 ·
  refine c_region ?_
  iterate 4 refine yO rfl rfl rfl rfl ?_
  refine o_step rfl rfl rfl rfl rfl (s_callWVF (σ := Option Addr × Nat × Nat × Option Addr × Nat × Nat) (fun x V' => ∃ V2 : Vw, V2.le V' ∧ V.le V2 ∧ (∀ k o, V2.get k = some o → V.get k = some o ∨ w.heap.size ≤ k) ∧ SlOf V2 Record.cells 6 (.slice x.1 x.2.1 x.2.2.1) (rowL L s key lsn) ∧ CelG V2 g d (rowL L s key lsn) ca cn cc x.2.2.2.1 x.2.2.2.2.1 x.2.2.2.2.2) (fun _ => .a (.v (I 0))) 4 88 (fun x => (wkG d cs (rowL L s key lsn) slot key tail x.1 x.2.1 x.2.2.1 x.2.2.2.1 x.2.2.2.2.1 x.2.2.2.2.2 i en g).map .v) rfl rfl (fun _ => rfl) (fun _ => rfl) (fun E w1 hm hb1 => by exact callsF fnok60 (hcall (E.ρ 4) w1 (hm.below (Vw.le.refl _)).size (hm.leDel (l := 4) rfl) hb1))) (fun x hx => ?_)
  obtain ⟨⟨a, n, c, xa, xn, xc⟩, V1⟩ := x
  obtain ⟨hle1, V2, h2, h3, h4, hsl, hcel⟩ := hx
  dsimp only at hle1 h2 h3 h4 hsl hcel
  have hat3 : decide (3 < atG d cs) = false := by
   rw [atG]
   split
   · split <;> decide
   · decide
  refine yO rfl rfl rfl rfl ?_
  refine o_end [4, 6, 8, 11] rfl ?_
  refine x_then (c_seq (c_seq (c_region ?_)))
  iterate 2 refine yO rfl rfl rfl rfl ?_
  refine o_end [4, 6, 8, 11, 29] rfl ?_
  refine x_then ?_
  refine c_cond rfl (fun h => ?_) (fun h => ?_)
  ·
   refine c_seq ?_
   refine c_heldS [4] mixed rfl (by repeat (first | exact oN | refine oC rfl ?_)) (by first | rfl | simp [okCels, allOk_plain]) ?_
   refine t_takeD 0 rfl (by kernel_rfl) rfl rfl rfl (yV rfl) rfl ?_
   refine t_takeD 1 rfl (by kernel_rfl) rfl rfl rfl (yV rfl) rfl ?_
   refine t_takeR 3 rfl (by kernel_rfl) rfl rfl rfl (fun _ => y_val tok rfl) rfl ?_
   refine t_go ?_
   refine h_one 2 (by kernel_rfl) ?_
   exact absurd h (by decide)
  ·
   refine c_skip (x_then (c_seq ?_))
   refine c_heldS [9] mixed rfl (by repeat (first | exact oN | refine oC rfl ?_)) (by first | rfl | simp [okCels, allOk_plain]) ?_
   refine t_takeD 0 rfl (by kernel_rfl) rfl rfl rfl (yV rfl) rfl ?_
   refine t_takeD 1 rfl (by kernel_rfl) rfl rfl rfl (yV rfl) rfl ?_
   refine t_takeD 2 rfl (by kernel_rfl) rfl rfl rfl (yV rfl) rfl ?_
   refine t_takeD 3 rfl (by kernel_rfl) rfl rfl rfl (yV rfl) rfl ?_
   refine t_takeD 4 rfl (by kernel_rfl) rfl rfl rfl (yV rfl) rfl ?_
   refine t_takeD 5 rfl (by kernel_rfl) rfl rfl rfl (yV rfl) rfl ?_
   refine t_takeD 6 rfl (by kernel_rfl) rfl rfl rfl (yV rfl) rfl ?_
   refine t_takeD 7 rfl (by kernel_rfl) rfl rfl rfl (yV rfl) rfl ?_
   refine t_go ?_
   refine h_one 8 (by kernel_rfl) ?_
   refine h_call 8 (.a (.v _)) rfl rfl rfl fnok25 rfl rfl rfl (fun hg E w1 hm => by exact rover_c _ _ _ _ _ _ _ _ _) ?_
   refine h_one 9 (by kernel_rfl) ?_
   refine h_store 9 tok rfl rfl rfl rfl (by repeat' first | exact trivial | exact rfl | apply And.intro) (.inl rfl) ?_
   refine h_one 10 (by kernel_rfl) ?_
   refine yH 10 rfl rfl rfl rfl rfl ?_
   refine h_one 11 (by kernel_rfl) ?_
   refine yH 11 rfl rfl rfl rfl rfl ?_
   refine h_done [6, 7, 8] (by kernel_rfl) rfl ?_
   refine x_then (c_ret ?_)
   refine b_ret tok rfl ?_
   intro E w' hm _
   refine ⟨_, V2, rfl, hm.below hle1, ⟨h3, fun k o hk => ⟨(h2.trans hm.leV).get k o hk, h4 k o hk⟩⟩, a, n, c, xa, xn, xc, ?_, hsl, hcel⟩
   rw [hat3]
   rfl
 ·
  exact absurd h (by decide)
theorem wantCell_c (V : Vw) (g : Geo) (slot key at_ tail : Int) (lv : Value) (ca : Option Addr) (cn cc : Nat) (i : Nat) (en : Int) (L : List Cell) (x : Cell) (b : Nat) (w : World) (hb : w.heap[b]? = some (.cells (wkC slot key at_ tail lv (.slice ca cn cc) i en g).toArray 88 (0, 0)))
  (hV : V.le ((vw w).del b)) (hs0 : SlOf V Cell.cells 2 (.slice ca cn cc) L) (hx : L[i]? = some x) (hL : L.length ≤ 1000000) :
  Calls Tryz.prog 61 #[Ptr b] w fun e w' => e = .returned (actV 2 x.sector x.b) ∧ Below w.heap.size w w' := by
 have hs := hs0.mono hV
 have hi := (List.getElem?_eq_some_iff.1 hx).1
 refine enter1 [.a (.ptr 0 0)] hb Tryz.func61 rfl rfl rfl rfl ?_
 refine c_seq (c_region ?_)
 refine o_new tok rfl rfl rfl rfl ?_
 refine o_end [0, 2] rfl ?_
 refine x_then (c_seq (c_seq ?_))
 refine c_draw mixed (by kernel_rfl) ?_
 iterate 17 refine d_yield rfl rfl rfl (yV rfl) rfl ?_
 refine d_yield rfl rfl rfl (y_len tok rfl (fun hg => hs.sl)) rfl ?_
 iterate 2 refine d_yield rfl rfl rfl (yV rfl) rfl ?_
 refine d_end [0, 2, 22] rfl ?_
 refine x_then ?_
 refine c_cond rfl (fun h => ?_) (fun h => ?_)
 ·
  exfalso
  simp at h
  omega
 ·
  refine c_skip (x_then (c_seq ?_))
  refine c_held [] ([(0, .lit ((wkC slot key at_ tail lv (.slice ca cn cc) i en g).map .v) 88), (1, .pin 0 b), (2, .size w.heap.size)]) mixed (by repeat (first | exact oN | refine oC rfl ?_)) (by first | rfl | simp [okCels, allOk_plain]) ?_
  refine t_take 0 rfl (by kernel_rfl) rfl rfl rfl (yV rfl) rfl ?_
  refine t_take 1 rfl (by kernel_rfl) rfl rfl rfl (yV rfl) rfl ?_
  refine t_take 2 rfl (by kernel_rfl) rfl rfl rfl (yV rfl) rfl ?_
  refine t_take 3 rfl (by kernel_rfl) rfl rfl rfl (yV rfl) rfl ?_
  refine t_take 4 rfl (by kernel_rfl) rfl rfl rfl (yV rfl) rfl ?_
  refine t_take 5 rfl (by kernel_rfl) rfl rfl rfl (yV rfl) rfl ?_
  refine t_take 6 rfl (by kernel_rfl) rfl rfl rfl (yV rfl) rfl ?_
  refine t_take 7 rfl (by kernel_rfl) rfl rfl rfl (yV rfl) rfl ?_
  refine t_take 8 rfl (by kernel_rfl) rfl rfl rfl (yV rfl) rfl ?_
  refine t_take 9 rfl (by kernel_rfl) rfl rfl rfl (yV rfl) rfl ?_
  have hlt_x := lt_of_at hx
  refine t_take 10 rfl (by kernel_rfl) rfl rfl rfl (y_idx tok rfl (fun hg => hs.sl) (fun hg => ⟨by omega, by omega⟩)) rfl ?_
  refine t_take 11 rfl (by kernel_rfl) rfl rfl rfl (y_fel tok rfl (fun hg => hs.sl) (fun hg => by omega)) rfl ?_
  refine t_take 12 rfl (by kernel_rfl) rfl rfl rfl (y_lel tok (i) 0 (x) rfl (fun hg => hs) (fun hg => hx) rfl rfl) rfl ?_
  refine t_take 13 rfl (by kernel_rfl) rfl rfl rfl (yV rfl) rfl ?_
  refine t_take 14 rfl (by kernel_rfl) rfl rfl rfl (yV rfl) rfl ?_
  refine t_take 15 rfl (by kernel_rfl) rfl rfl rfl (yV rfl) rfl ?_
  refine t_take 16 rfl (by kernel_rfl) rfl rfl rfl (yV rfl) rfl ?_
  refine t_take 17 rfl (by kernel_rfl) rfl rfl rfl (yV rfl) rfl ?_
  refine t_take 18 rfl (by kernel_rfl) rfl rfl rfl (yV rfl) rfl ?_
  refine t_take 19 rfl (by kernel_rfl) rfl rfl rfl (yV rfl) rfl ?_
  refine t_take 20 rfl (by kernel_rfl) rfl rfl rfl (yV rfl) rfl ?_
  refine t_take 21 rfl (by kernel_rfl) rfl rfl rfl (yV rfl) rfl ?_
  refine t_take 22 rfl (by kernel_rfl) rfl rfl rfl (yV rfl) rfl ?_
  have hlt_x := lt_of_at hx
  refine t_take 23 rfl (by kernel_rfl) rfl rfl rfl (y_idx tok rfl (fun hg => hs.sl) (fun hg => ⟨by omega, by omega⟩)) rfl ?_
  refine t_take 24 rfl (by kernel_rfl) rfl rfl rfl (y_fel tok rfl (fun hg => hs.sl) (fun hg => by omega)) rfl ?_
  refine t_take 25 rfl (by kernel_rfl) rfl rfl rfl (y_lel tok (i) 1 (x) rfl (fun hg => hs) (fun hg => hx) rfl rfl) rfl ?_
  refine t_take 26 rfl (by kernel_rfl) rfl rfl rfl (yV rfl) rfl ?_
  refine t_go ?_
  refine h_one 27 (by kernel_rfl) ?_
  refine h_store 27 tok rfl rfl rfl rfl (by repeat' first | exact trivial | exact rfl | apply And.intro) (.inr ⟨(by repeat (first | exact oN | refine oC rfl ?_)), rfl, (by first | exact Vw.le.refl _ | assumption)⟩) ?_
  refine h_done [2] (by kernel_rfl) rfl ?_
  refine x_then (c_ret ?_)
  refine b_ret tok rfl ?_
  intro E w' hm _
  exact ⟨rfl, below1 hb hm (Vw.le.refl _) rfl rfl rfl⟩
theorem rpWant2_c (V : Vw) (g : Geo) (ok : g.Ok) (slot key tail : Int) (lv : Value) (ca : Option Addr) (cn cc : Nat) (i : Nat) (en : Int) (L : List Cell) (x : Cell) (w : World) (hV : V.le (vw w)) (hs : SlOf V Cell.cells 2 (.slice ca cn cc) L) (hx : L[i]? = some x) (hL : L.length ≤ 1000000) :
  Calls Tryz.prog 23 #[g.val, rpV slot key 2 tail lv (.slice ca cn cc) i en] w fun e w' => e = .returned (actV 2 x.sector x.b) ∧ Below w.heap.size w w' := by
 refine enter (E := E0) (O := []) (nl := 0) (V := vw w) [.a (.v g.val), .a (.v (rpV slot key 2 tail lv (.slice ca cn cc) i en))] Tryz.func23 rfl rfl (mem0 E0 0 w) rfl rfl ?_
 refine c_seq (c_region ?_)
 iterate 3 refine o_new tok rfl rfl rfl rfl ?_
 refine o_end [2, 3, 4] rfl ?_
 refine x_then (c_seq (c_region ?_))
 iterate 2 refine yO rfl rfl rfl rfl ?_
 refine o_call (.a (.v _)) rfl rfl fnok41 rfl rfl rfl (fun hg E w1 hm => by exact deed2_c _) ?_
 iterate 3 refine yO rfl rfl rfl rfl ?_
 refine o_new tok rfl rfl rfl rfl ?_
 refine o_store tok rfl rfl rfl (by first | (repeat' first | exact trivial | exact rfl | apply And.intro); done | simp [onesP, oneP, lk, Value.oneCell']) ?_
 refine yO rfl rfl rfl rfl ?_
 refine o_end [2, 3, 4, 5, 6] rfl ?_
 refine x_then (c_seq (c_seq (c_region ?_)))
 iterate 2 refine yO rfl rfl rfl rfl ?_
 refine o_end [2, 3, 4, 5, 14] rfl ?_
 refine x_then ?_
 refine c_cond rfl (fun h => ?_) (fun h => ?_)
 ·
  refine c_seq (c_region ?_)
  refine yO rfl rfl rfl rfl ?_
  refine o_store tok rfl rfl rfl (by first | (repeat' first | exact trivial | exact rfl | apply And.intro); done | simp [onesP, oneP, lk, Value.oneCell']) ?_
  refine o_end [4] rfl ?_
  refine x_then (c_ret (x_then_ret ?_))
  refine b_ret tok rfl ?_
  exact absurd h (by decide)
 ·
  refine c_skip (x_then (c_seq (c_region ?_)))
  iterate 5 refine yO rfl rfl rfl rfl ?_
  refine o_new tok rfl rfl rfl rfl ?_
  refine o_callF (.a (.v _)) rfl rfl rfl rfl rfl (fun hg E w1 hm => by exact callsF fnok61 (wantCell_c V g slot key 2 tail lv ca cn cc i en L x _ _ (hm.lit 4 _ _ rfl) (hV.trans (hm.leDel (l := 4) rfl)) hs hx hL)) ?_
  refine o_store tok rfl rfl rfl (by first | (repeat' first | exact trivial | exact rfl | apply And.intro); done | simp [onesP, oneP, lk, Value.oneCell']) ?_
  refine o_end [4] rfl ?_
  refine x_then (c_ret ?_)
  refine b_ret tok rfl ?_
  intro E w' hm _
  refine ⟨?_, hm.below (Vw.le.refl _)⟩
  rfl
theorem rpTake2_c (V : Vw) (g : Geo) (ok : g.Ok) (slot key tail : Int) (la ca : Option Addr) (ln lc cn cc : Nat) (i : Nat) (en : Int) (L : List Cell) (s : ByteArray) (w : World) (hV : V.le (vw w)) (hs0 : SlOf V Cell.cells 2 (.slice ca cn cc) L) (hi : i ≤ 1000000) :
  Calls Tryz.prog 24 #[g.val, rpV slot key 2 tail (.slice la ln lc) (.slice ca cn cc) i en, S s] w fun e w' => e = .returned (.tuple #[rpV slot key (if i + 1 < L.length then 2 else 3) tail (.slice la ln lc) (.slice ca cn cc) ((i + 1 : Nat) : Int) en, .bool false, I 0]) ∧ Below w.heap.size w w' := by
 have hs := hs0.mono hV
 have hwi : IntKind.i64.wrap ((i : Int) + 1) = ((i + 1 : Nat) : Int) := wrapI (by omega) (by omega)
 refine enter (E := E0) (O := []) (nl := 0) (V := vw w) [.a (.v g.val), .a (.v (rpV slot key 2 tail (.slice la ln lc) (.slice ca cn cc) i en)), .a (.v (S s))] Tryz.func24 rfl rfl (mem0 E0 0 w) rfl rfl ?_
 refine c_seq (c_region ?_)
 iterate 3 refine o_new tok rfl rfl rfl rfl ?_
 iterate 2 refine yO rfl rfl rfl rfl ?_
 refine o_end [2, 3, 4, 6, 8] rfl ?_
 refine x_then (c_seq (c_region ?_))
 iterate 2 refine yO rfl rfl rfl rfl ?_
 refine o_call (.a (.v _)) rfl rfl fnok41 rfl rfl rfl (fun hg E w1 hm => by exact deed2_c _) ?_
 iterate 3 refine yO rfl rfl rfl rfl ?_
 refine o_new tok rfl rfl rfl rfl ?_
 refine o_store tok rfl rfl rfl (by first | (repeat' first | exact trivial | exact rfl | apply And.intro); done | simp [onesP, oneP, lk, Value.oneCell']) ?_
 refine yO rfl rfl rfl rfl ?_
 refine o_end [2, 3, 4, 6, 8, 9, 10] rfl ?_
 refine x_then (c_seq (c_region ?_))
 iterate 3 refine yO rfl rfl rfl rfl ?_
 refine o_new tok rfl rfl rfl rfl ?_
 refine yO rfl rfl rfl rfl ?_
 refine o_end [2, 4, 6, 8, 9, 10, 11] rfl ?_
 refine x_then (c_seq (c_seq (c_region ?_)))
 refine yO rfl rfl rfl rfl ?_
 refine o_end [2, 4, 6, 8, 9, 11, 22] rfl ?_
 refine x_then ?_
 refine c_cond rfl (fun h => ?_) (fun h => ?_)
 ·
  refine c_region ?_
  iterate 4 refine yO rfl rfl rfl rfl ?_
  refine o_inlF rfl rfl rfl rfl rfl fnok62 rfl Tryz.func62 rfl rfl rfl (fun E => ?_)
  refine c_seq (c_region ?_)
  refine yO rfl rfl rfl rfl ?_
  refine o_end [0] rfl ?_
  refine x_then (c_seq (c_seq (c_region ?_)))
  iterate 9 refine yO rfl rfl rfl rfl ?_
  refine o_store tok rfl rfl rfl (by first | (repeat' first | exact trivial | exact rfl | apply And.intro); done | simp [onesP, oneP, lk, Value.oneCell']) ?_
  refine o_end [0] rfl ?_
  refine x_then (c_seq ?_)
  refine c_draw mixed (by kernel_rfl) ?_
  iterate 10 refine d_yield rfl rfl rfl (yV rfl) rfl ?_
  refine d_yield rfl rfl rfl (y_len tok rfl (fun hg => hs.sl)) rfl ?_
  refine d_yield rfl rfl rfl (yV rfl) rfl ?_
  refine d_end [0, 25] rfl ?_
  refine x_then ?_
  refine c_cond rfl (fun h => ?_) (fun h => ?_)
  ·
   simp only [Xa, Xb, Xc, Xd, Xe, Xf, Xg, Xh, Xi, Xj, Xk, Xl, Xm, Xn, Xo, Xp] at h
   rw [hwi] at h
   have h0 : ¬ i + 1 < L.length := by omega
   clear h
   refine c_region ?_
   iterate 4 refine yO rfl rfl rfl rfl ?_
   refine o_store tok rfl rfl rfl (by first | (repeat' first | exact trivial | exact rfl | apply And.intro); done | simp [onesP, oneP, lk, Value.oneCell']) ?_
   refine o_end [] rfl ?_
   refine x_then (c_seq (c_region ?_))
   refine yO rfl rfl rfl rfl ?_
   refine o_end [4] rfl ?_
   refine x_then (c_ret ?_)
   refine b_ret tok rfl ?_
   intro E1 w1 hm1 hok1
   refine inl_end (E := E) hm1 hok1 rfl rfl (by repeat (first | exact KeepsIn.zero | refine KeepsIn.succ rfl ?_)) rfl (by repeat (first | exact oN | refine oC rfl ?_)) rfl ?_
   clear hm1 hok1 w1 E1 E
   refine yO rfl rfl rfl rfl ?_
   refine o_end [4, 6, 8, 11] rfl ?_
   refine x_then (c_seq (c_seq (c_region ?_)))
   iterate 2 refine yO rfl rfl rfl rfl ?_
   refine o_end [4, 6, 8, 11, 29] rfl ?_
   refine x_then ?_
   refine c_cond rfl (fun h => ?_) (fun h => ?_)
   ·
    simp only [Xa, Xb, Xc, Xd, Xe, Xf, Xg, Xh, Xi, Xj, Xk, Xl, Xm, Xn, Xo, Xp] at h
    exact absurd trivial h
   ·
    simp only [Xa, Xb, Xc, Xd, Xe, Xf, Xg, Xh, Xi, Xj, Xk, Xl, Xm, Xn, Xo, Xp] at h
    refine c_skip (x_then (c_seq ?_))
    refine c_heldS [9] mixed rfl (by repeat (first | exact oN | refine oC rfl ?_)) (by first | rfl | simp [okCels, allOk_plain]) ?_
    refine t_takeD 0 rfl (by kernel_rfl) rfl rfl rfl (yV rfl) rfl ?_
    refine t_takeD 1 rfl (by kernel_rfl) rfl rfl rfl (yV rfl) rfl ?_
    refine t_takeD 2 rfl (by kernel_rfl) rfl rfl rfl (yV rfl) rfl ?_
    refine t_takeD 3 rfl (by kernel_rfl) rfl rfl rfl (yV rfl) rfl ?_
    refine t_takeD 4 rfl (by kernel_rfl) rfl rfl rfl (yV rfl) rfl ?_
    refine t_takeD 5 rfl (by kernel_rfl) rfl rfl rfl (yV rfl) rfl ?_
    refine t_takeD 6 rfl (by kernel_rfl) rfl rfl rfl (yV rfl) rfl ?_
    refine t_takeD 7 rfl (by kernel_rfl) rfl rfl rfl (yV rfl) rfl ?_
    refine t_go ?_
    refine h_one 8 (by kernel_rfl) ?_
    refine h_call 8 (.a (.v _)) rfl rfl rfl fnok25 rfl rfl rfl (fun hg E w1 hm => by exact rover_c _ _ _ _ _ _ _ _ _) ?_
    refine h_one 9 (by kernel_rfl) ?_
    refine h_store 9 tok rfl rfl rfl rfl (by repeat' first | exact trivial | exact rfl | apply And.intro) (.inl rfl) ?_
    refine h_one 10 (by kernel_rfl) ?_
    refine yH 10 rfl rfl rfl rfl rfl ?_
    refine h_one 11 (by kernel_rfl) ?_
    refine yH 11 rfl rfl rfl rfl rfl ?_
    refine h_done [6, 7, 8] (by kernel_rfl) rfl ?_
    refine x_then (c_ret ?_)
    refine b_ret tok rfl ?_
    intro E w' hm _
    refine ⟨?_, hm.below (Vw.le.refl _)⟩
    rw [hwi, if_neg h0]
    rfl
  ·
   simp only [Xa, Xb, Xc, Xd, Xe, Xf, Xg, Xh, Xi, Xj, Xk, Xl, Xm, Xn, Xo, Xp] at h
   rw [hwi] at h
   have h0 : i + 1 < L.length := by omega
   clear h
   refine c_skip (x_then (c_seq (c_region ?_)))
   refine yO rfl rfl rfl rfl ?_
   refine o_end [4] rfl ?_
   refine x_then (c_ret ?_)
   refine b_ret tok rfl ?_
   intro E1 w1 hm1 hok1
   refine inl_end (E := E) hm1 hok1 rfl rfl (by repeat (first | exact KeepsIn.zero | refine KeepsIn.succ rfl ?_)) rfl (by repeat (first | exact oN | refine oC rfl ?_)) rfl ?_
   clear hm1 hok1 w1 E1 E
   refine yO rfl rfl rfl rfl ?_
   refine o_end [4, 6, 8, 11] rfl ?_
   refine x_then (c_seq (c_seq (c_region ?_)))
   iterate 2 refine yO rfl rfl rfl rfl ?_
   refine o_end [4, 6, 8, 11, 29] rfl ?_
   refine x_then ?_
   refine c_cond rfl (fun h => ?_) (fun h => ?_)
   ·
    simp only [Xa, Xb, Xc, Xd, Xe, Xf, Xg, Xh, Xi, Xj, Xk, Xl, Xm, Xn, Xo, Xp] at h
    exact absurd trivial h
   ·
    simp only [Xa, Xb, Xc, Xd, Xe, Xf, Xg, Xh, Xi, Xj, Xk, Xl, Xm, Xn, Xo, Xp] at h
    refine c_skip (x_then (c_seq ?_))
    refine c_heldS [9] mixed rfl (by repeat (first | exact oN | refine oC rfl ?_)) (by first | rfl | simp [okCels, allOk_plain]) ?_
    refine t_takeD 0 rfl (by kernel_rfl) rfl rfl rfl (yV rfl) rfl ?_
    refine t_takeD 1 rfl (by kernel_rfl) rfl rfl rfl (yV rfl) rfl ?_
    refine t_takeD 2 rfl (by kernel_rfl) rfl rfl rfl (yV rfl) rfl ?_
    refine t_takeD 3 rfl (by kernel_rfl) rfl rfl rfl (yV rfl) rfl ?_
    refine t_takeD 4 rfl (by kernel_rfl) rfl rfl rfl (yV rfl) rfl ?_
    refine t_takeD 5 rfl (by kernel_rfl) rfl rfl rfl (yV rfl) rfl ?_
    refine t_takeD 6 rfl (by kernel_rfl) rfl rfl rfl (yV rfl) rfl ?_
    refine t_takeD 7 rfl (by kernel_rfl) rfl rfl rfl (yV rfl) rfl ?_
    refine t_go ?_
    refine h_one 8 (by kernel_rfl) ?_
    refine h_call 8 (.a (.v _)) rfl rfl rfl fnok25 rfl rfl rfl (fun hg E w1 hm => by exact rover_c _ _ _ _ _ _ _ _ _) ?_
    refine h_one 9 (by kernel_rfl) ?_
    refine h_store 9 tok rfl rfl rfl rfl (by repeat' first | exact trivial | exact rfl | apply And.intro) (.inl rfl) ?_
    refine h_one 10 (by kernel_rfl) ?_
    refine yH 10 rfl rfl rfl rfl rfl ?_
    refine h_one 11 (by kernel_rfl) ?_
    refine yH 11 rfl rfl rfl rfl rfl ?_
    refine h_done [6, 7, 8] (by kernel_rfl) rfl ?_
    refine x_then (c_ret ?_)
    refine b_ret tok rfl ?_
    intro E w' hm _
    refine ⟨?_, hm.below (Vw.le.refl _)⟩
    rw [hwi, if_pos h0]
    rfl
 ·
  exact absurd h (by decide)
def gAt (N1 m n : Nat) : Int := if n = 0 then 0 else if n < N1 then 1 else if n < N1 + m then 2 else if n = N1 + m then 3 else 4
def gI (N1 m n : Nat) : Int := if n < N1 then 0 else ((min (n - N1) m : Nat) : Int)
def gEn (N1 : Nat) (en : Int) (n : Nat) : Int := if n < N1 then 0 else en
def gK (N1 m n : Nat) : Int := if n < N1 then 1 else if n ≤ N1 + m then 2 else 0
def cellD (cs : List Cell) (j : Nat) : Cell := cs.getD j ⟨0, ByteArray.empty⟩
def gS (g : Geo) (slot tail : Int) (cs : List Cell) (N1 n : Nat) : Int := if n = 0 then headV g slot else if n < N1 then jourV g slot (tail + ((n - 1 : Nat) : Int)) else if n < N1 + cs.length then (cellD cs (n - N1)).sector else if n = N1 + cs.length then headV g slot else 0
def gT (s1 : ByteArray) (cs : List Cell) (N1 n : Nat) : ByteArray := if n < N1 then ByteArray.empty else if n < N1 + cs.length then (cellD cs (n - N1)).b else if n = N1 + cs.length then s1 else ByteArray.empty
def gG (g : Geo) (slot tail : Int) (D : List ByteArray) (N1 n : Nat) : ByteArray := if n = 0 then D.getD (headV g slot).toNat ByteArray.empty else if n < N1 then D.getD (jourV g slot (tail + ((n - 1 : Nat) : Int))).toNat ByteArray.empty else ByteArray.empty
abbrev stG (slot key tail en : Int) (N1 m n : Nat) (a : Option Addr) (k c : Nat) (xa : Option Addr) (xn xc : Nat) : Value :=
 rpV slot key (gAt N1 m n) (stTl tail n) (.slice a k c) (.slice xa xn xc) (gI N1 m n) (gEn N1 en n)
def CelS (V : Vw) (cs : List Cell) (N1 n : Nat) (xa : Option Addr) (xn xc : Nat) : Prop :=
 (n < N1 → xa = none ∧ xn = 0 ∧ xc = 0) ∧ (N1 ≤ n → SlOf V Cell.cells 2 (.slice xa xn xc) cs)
theorem CelS.mono {V V' : Vw} {cs : List Cell} {N1 n : Nat} {xa : Option Addr} {xn xc : Nat} (h : CelS V cs N1 n xa xn xc) (hle : V.le V') : CelS V' cs N1 n xa xn xc := ⟨h.1, fun hn => (h.2 hn).mono hle⟩
theorem cellD_at {cs : List Cell} {j : Nat} (h : j < cs.length) : cs[j]? = some (cellD cs j) := by
 rw [cellD, List.getD, List.getElem?_eq_getElem h]; rfl
theorem stWantG_c (V : Vw) (g : Geo) (ok : g.Ok) (slot key tail en : Int) (D : List ByteArray) (A : List Record) (hJ : RowsOf g slot key tail D A) (cs : List Cell) (hcl : cs.length ≤ 1000) (s1 : ByteArray) (hs1 : headS en = (s1, 0)) (n : Nat) (hn : n ≤ actsN g A + cs.length + 1) (a : Option Addr) (k c : Nat) (xa : Option Addr) (xn xc : Nat) (w : World) (hV : V.le (vw w)) (hs : SlOf V Record.cells 6 (.slice a k c) (A.take (n - 1))) (hc : CelS V cs (actsN g A) n xa xn xc) :
  Calls Tryz.prog 23 #[g.val, stG slot key tail en (actsN g A) cs.length n a k c xa xn xc] w fun e w' => e = .returned (actV (gK (actsN g A) cs.length n) (gS g slot tail cs (actsN g A) n) (gT s1 cs (actsN g A) n)) ∧ Below w.heap.size w w' := by
 have h1 := actsN_pos g A
 have hh := hJ.hd
 have hf := geo_facts hJ.geo
 have ht0 := hJ.tl0
 have ht1 := hJ.tl1
 have hfew := hJ.few
 by_cases e0 : n = 0
 ·
  subst e0
  have := rpWant0_c g ok slot key 0 (.slice a k c) (.slice xa xn xc) 0 0 w
  rw [readK, readN, if_neg (by omega), if_neg (by omega)] at this
  simpa only [stG, gAt, stTl, gI, gEn, gK, gS, gT, if_true, if_pos (show 0 < actsN g A by omega)] using this
 ·
  by_cases e1 : n < actsN g A
  ·
   have := rpWant1_c V g ok slot key tail a k c (.slice xa xn xc) 0 0 _ w hs
   have hl : (A.take (n - 1)).length = n - 1 := by
    rw [List.length_take]
    unfold actsN at e1
    split at e1 <;> omega
   have hlb : (n : Int) ≤ 1000 := by
    unfold actsN at e1
    split at e1 <;> omega
   rw [hl, wrapI (by omega) (by omega)] at this
   have hj := rj_in hJ.geo hh (lsn := tail + ((n - 1 : Nat) : Int)) (by omega)
   rw [readK, readN, if_neg (by omega), if_neg (by omega)] at this
   simpa only [stG, gAt, stTl, gI, gEn, gK, gS, gT, if_neg e0, if_pos e1] using this
  ·
   by_cases e2 : n < actsN g A + cs.length
   ·
    have hx := cellD_at (cs := cs) (j := n - actsN g A) (by omega)
    have hmin : min (n - actsN g A) cs.length = n - actsN g A := by omega
    have := rpWant2_c V g ok slot key tail (.slice a k c) xa xn xc (n - actsN g A) en cs _ w hV (hc.2 (by omega)) hx (by omega)
    simpa only [stG, gAt, stTl, gI, gEn, gK, gS, gT, if_neg e0, if_neg e1, if_pos e2, hmin, if_pos (show n ≤ actsN g A + cs.length by omega)] using this
   ·
    by_cases e3 : n = actsN g A + cs.length
    ·
     have := rpWant3_c g ok slot key tail (.slice a k c) (.slice xa xn xc) ((min (n - actsN g A) cs.length : Nat) : Int) en w
     have hp : (headS en).2 = 0 ∧ 0 ≤ headV g slot := ⟨by rw [hs1], hh⟩
     rw [tailK, tailN, tailT, if_pos hp, if_pos hp, if_pos hp, hs1] at this
     simpa only [stG, gAt, stTl, gI, gEn, gK, gS, gT, if_neg e0, if_neg e1, if_neg e2, if_pos e3, if_pos (show n ≤ actsN g A + cs.length by omega)] using this
    ·
     have := rpWant4_c g slot key tail (.slice a k c) (.slice xa xn xc) ((min (n - actsN g A) cs.length : Nat) : Int) en w
     simpa only [stG, gAt, stTl, gI, gEn, gK, gS, gT, if_neg e0, if_neg e1, if_neg e2, if_neg e3, if_neg (show ¬ n ≤ actsN g A + cs.length by omega)] using this
theorem stTakeG_c (V : Vw) (g : Geo) (ok : g.Ok) (slot key tail : Int) (D : List ByteArray) (A : List Record) (hJ : RowsOf g slot key tail D A) (hA6 : ∀ r ∈ A, r.text.size ≤ 256) (hml : mayL g (scanB (A.take (whole A))) = true) (hcl : (celL g A).length ≤ 1000) (s0 : ByteArray) (hd0 : D[(headV g slot).toNat]? = some s0) (htl : tailOk s0 = some tail)
  (n : Nat) (hn : n ≤ actsN g A + (celL g A).length) (a : Option Addr) (k c : Nat) (xa : Option Addr) (xn xc : Nat) (w : World) (hV : V.le (vw w)) (hs : SlOf V Record.cells 6 (.slice a k c) (A.take (n - 1))) (hc : CelS V (celL g A) (actsN g A) n xa xn xc) :
  Calls Tryz.prog 24 #[g.val, stG slot key tail (tail + whole A) (actsN g A) (celL g A).length n a k c xa xn xc, S (gG g slot tail D (actsN g A) n)] w fun e w' => ∃ v V', e = .returned v ∧ Below w.heap.size w w' ∧ Vext w.heap.size V V' w' ∧
   ∃ a k c xa xn xc, v = .tuple #[stG slot key tail (tail + whole A) (actsN g A) (celL g A).length (n + 1) a k c xa xn xc, .bool (decide (n = actsN g A + (celL g A).length)), I 0] ∧ SlOf V' Record.cells 6 (.slice a k c) (A.take n) ∧ CelS V' (celL g A) (actsN g A) (n + 1) xa xn xc := by
 have h1 := actsN_pos g A
 have hh := hJ.hd
 have hf := geo_facts hJ.geo
 have ht0 := hJ.tl0
 have ht1 := hJ.tl1
 have hfew := hJ.few
 have htv : tailV s0 = tail ∧ tailE s0 = 0 := by rw [tailV, tailE, htl]; exact ⟨rfl, rfl⟩
 have hN1 : 1 < actsN g A := by
  unfold actsN
  split <;> omega
 obtain ⟨cs, hcs⟩ : ∃ cs, celL g A = cs := ⟨_, rfl⟩
 rw [hcs] at hn hc hcl ⊢
 by_cases e0 : n = 0
 ·
  subst e0
  have hg : gG g slot tail D (actsN g A) 0 = s0 := by
   rw [gG, if_pos rfl, List.getD_eq_getElem?_getD, hd0]; rfl
  rw [hg]
  obtain ⟨rfl, rfl, rfl⟩ := hc.1 (by omega)
  have hst : stG slot key tail (tail + whole A) (actsN g A) cs.length 0 a k c none 0 0 = rpV slot key 0 0 (.slice a k c) (.slice none 0 0) 0 0 := by
   simp only [stG, gAt, stTl, gI, gEn, if_true, if_pos (show 0 < actsN g A by omega)]
  rw [hst]
  refine (rpTake0_c g ok slot key 0 a none k c 0 0 0 0 s0 (hJ.sz s0 (List.mem_of_getElem? hd0)) w).mono ?_
  rintro e w' ⟨hb, ⟨_, he⟩ | ⟨hne, _⟩⟩
  ·
   refine ⟨_, V, he, hb, Vext.same hV hb, a, k, c, none, 0, 0, ?_, by simpa using hs, ⟨fun _ => ⟨rfl, rfl, rfl⟩, fun h => by omega⟩⟩
   rw [htv.1]
   simp only [stG, gAt, stTl, gI, gEn, if_pos hN1, if_neg (show ¬ (0 + 1 = 0) by omega), Nat.zero_add, if_neg (show ¬ (1 = 0) by omega), decide_eq_false (show ¬ 0 = actsN g A + cs.length by omega)]
  · exact absurd htv.2 hne
 ·
  by_cases e1 : n < actsN g A
  ·
   have hl : (A.take (n - 1)).length = n - 1 := by
    rw [List.length_take]
    unfold actsN at e1
    split at e1 <;> omega
   have hlb : (n : Int) ≤ 1000 := by
    unfold actsN at e1
    split at e1 <;> omega
   have hj := rj_in hJ.geo hh (lsn := tail + ((n - 1 : Nat) : Int)) (by omega)
   have hln := hJ.len
   obtain ⟨s, hsD⟩ : ∃ s, D[(jourV g slot (tail + ((n - 1 : Nat) : Int))).toNat]? = some s := ⟨_, List.getElem?_eq_getElem (by omega)⟩
   have hg : gG g slot tail D (actsN g A) n = s := by
    rw [gG, if_neg e0, if_pos e1, List.getD_eq_getElem?_getD, hsD]; rfl
   obtain ⟨rfl, rfl, rfl⟩ := hc.1 e1
   have hst : stG slot key tail (tail + whole A) (actsN g A) cs.length n a k c none 0 0 = rpV slot key 1 tail (.slice a k c) (.slice none 0 0) 0 0 := by
    simp only [stG, gAt, stTl, gI, gEn, if_neg e0, if_pos e1]
   rw [hg, hst]
   have hrow : rowL (A.take (n - 1)) s key (tail + ((n - 1 : Nat) : Int)) = A.take n ∧ rowD g (A.take (n - 1)) s key (tail + ((n - 1 : Nat) : Int)) = decide (n + 1 = actsN g A) := by
    by_cases hlt : n - 1 < A.length
    ·
     obtain ⟨r, hr⟩ : ∃ r, A[n - 1]? = some r := ⟨_, List.getElem?_eq_getElem hlt⟩
     obtain ⟨s2, hs2, hib, hiv⟩ := hJ.at_ _ r hr
     rw [hsD] at hs2
     cases hs2
     refine ⟨?_, ?_⟩
     ·
      rw [rowL, if_pos hib, hiv]
      have := rp_take hr
      rw [show n - 1 + 1 = n by omega] at this
      exact this.symm
     ·
      rw [rowD, hib, hl, Bool.true_and]
      unfold actsN
      by_cases hc : (((n - 1 : Nat) : Int) + 1 < g.journal)
      ·
       rw [decide_eq_true hc]
       symm
       rw [Bool.not_true, decide_eq_false_iff_not]
       split <;> omega
      ·
       rw [decide_eq_false hc]
       symm
       rw [Bool.not_false, decide_eq_true_iff]
       rw [if_neg (by omega)]
       omega
    ·
     have hnA : n - 1 = A.length := by
      unfold actsN at e1
      split at e1 <;> omega
     have hlj : (A.length : Int) < g.journal := by
      unfold actsN at e1
      split at e1
      · assumption
      · omega
     obtain ⟨s2, hs2, hib⟩ := hJ.rest hlj
     rw [← hnA, hsD] at hs2
     cases hs2
     rw [← hnA] at hib
     refine ⟨?_, ?_⟩
     · rw [rowL, hib, if_neg (by simp), List.take_of_length_le (by omega), List.take_of_length_le (by omega)]
     ·
      rw [rowD, hib]
      symm
      rw [Bool.false_and, Bool.not_false, decide_eq_true_iff]
      unfold actsN
      rw [if_pos hlj]
      omega
   have hend : n + 1 = actsN g A → A.take n = A := fun h => List.take_of_length_le (by
    unfold actsN at h
    split at h <;> omega)
   have hml2 : rowD g (A.take (n - 1)) s key (tail + ((n - 1 : Nat) : Int)) = true → mayL g (scanB ((rowL (A.take (n - 1)) s key (tail + ((n - 1 : Nat) : Int))).take (whole (rowL (A.take (n - 1)) s key (tail + ((n - 1 : Nat) : Int)))))) = true := by
    intro h
    rw [hrow.2, decide_eq_true_eq] at h
    rw [hrow.1, hend h]
    exact hml
   refine (rpTake1G_c V g ok hJ.geo slot key tail a k c none 0 0 0 0 _ s (hJ.sz s (List.mem_of_getElem? hsD)) w hV hs (by omega) (tail + ((n - 1 : Nat) : Int)) (by rw [hl]; exact (wrapI (by omega) (by omega)).symm) (by rw [hrow.1]; exact fun r hr => hA6 r (List.mem_of_mem_take hr)) hml2).mono ?_
   rintro e w' ⟨v, V', he, hb, hx, a', k', c', xa, xn, xc, hv, hsl, hcel⟩
   rw [hrow.1, hrow.2] at hcel
   rw [hrow.1] at hsl
   rw [hrow.1, hrow.2] at hv
   have hwl := whole_le A
   by_cases e2 : n + 1 = actsN g A
   ·
    rw [hend e2] at hv hcel
    rw [decide_eq_true e2, hcs] at hv
    rw [decide_eq_true e2] at hcel
    have hcc := hcel.1 rfl
    rw [hcs] at hcc
    refine ⟨v, V', he, hb, hx, a', k', c', xa, xn, xc, ?_, hsl, ⟨fun h => by omega, fun _ => hcc⟩⟩
    have hwt : IntKind.i64.wrap (tail + whole A) = tail + whole A := wrapI (by omega) (by omega)
    rw [hv, decide_eq_false (show ¬ n = actsN g A + cs.length by omega)]
    have hsub : n + 1 - actsN g A = 0 := by omega
    by_cases e3 : cs.length = 0
    ·
     simp only [stG, rpG, atG, gAt, stTl, gI, gEn, if_neg (show ¬ n + 1 = 0 by omega), if_neg (show ¬ n + 1 < actsN g A by omega), if_neg (show ¬ n + 1 < actsN g A + cs.length by omega), if_pos (show n + 1 = actsN g A + cs.length by omega), if_pos e3, if_true, hwt, hsub, Nat.zero_min]
     rfl
    ·
     simp only [stG, rpG, atG, gAt, stTl, gI, gEn, if_neg (show ¬ n + 1 = 0 by omega), if_neg (show ¬ n + 1 < actsN g A by omega), if_pos (show n + 1 < actsN g A + cs.length by omega), if_neg e3, if_true, hwt, hsub, Nat.zero_min]
     rfl
   ·
    rw [decide_eq_false e2] at hv hcel
    obtain ⟨rfl, rfl, rfl⟩ := hcel.2 rfl
    refine ⟨v, V', he, hb, hx, a', k', c', none, 0, 0, ?_, hsl, ⟨fun _ => ⟨rfl, rfl, rfl⟩, fun h => by omega⟩⟩
    rw [hv, decide_eq_false (show ¬ n = actsN g A + cs.length by omega)]
    simp only [stG, rpG, atG, gAt, stTl, gI, gEn, if_neg (show ¬ n + 1 = 0 by omega), if_pos (show n + 1 < actsN g A by omega), Bool.false_eq_true, if_false]
  ·
   have hA : A.length ≤ n - 1 := by
    have : actsN g A ≥ 1 + A.length := by unfold actsN; omega
    omega
   have hgG : gG g slot tail D (actsN g A) n = ByteArray.empty := by rw [gG, if_neg e0, if_neg e1]
   rw [hgG]
   have hcc := hc.2 (by omega)
   have hst1 : SlOf V Record.cells 6 (.slice a k c) (A.take n) := by
    rw [List.take_of_length_le (by omega)] at hs ⊢
    exact hs
   by_cases e2 : n < actsN g A + cs.length
   ·
    have hmin : min (n - actsN g A) cs.length = n - actsN g A := by omega
    have hst : stG slot key tail (tail + whole A) (actsN g A) cs.length n a k c xa xn xc = rpV slot key 2 tail (.slice a k c) (.slice xa xn xc) ((n - actsN g A : Nat) : Int) (tail + whole A) := by
     simp only [stG, gAt, stTl, gI, gEn, if_neg e0, if_neg e1, if_pos e2, hmin]
    rw [hst]
    refine (rpTake2_c V g ok slot key tail a xa k c xn xc (n - actsN g A) (tail + whole A) cs _ w hV hcc (by omega)).mono ?_
    rintro e w' ⟨he, hb⟩
    refine ⟨_, V, he, hb, Vext.same hV hb, a, k, c, xa, xn, xc, ?_, hst1, ⟨fun h => by omega, fun _ => hcc⟩⟩
    rw [decide_eq_false (show ¬ n = actsN g A + cs.length by omega)]
    have hmin2 : min (n + 1 - actsN g A) cs.length = n - actsN g A + 1 := by omega
    by_cases e3 : n - actsN g A + 1 < cs.length
    · simp only [stG, gAt, stTl, gI, gEn, if_neg (show ¬ n + 1 = 0 by omega), if_neg (show ¬ n + 1 < actsN g A by omega), if_pos (show n + 1 < actsN g A + cs.length by omega), if_pos e3, hmin2]
    · simp only [stG, gAt, stTl, gI, gEn, if_neg (show ¬ n + 1 = 0 by omega), if_neg (show ¬ n + 1 < actsN g A by omega), if_neg (show ¬ n + 1 < actsN g A + cs.length by omega), if_pos (show n + 1 = actsN g A + cs.length by omega), if_neg e3, hmin2]
   ·
    have e3 : n = actsN g A + cs.length := by omega
    have hst : stG slot key tail (tail + whole A) (actsN g A) cs.length n a k c xa xn xc = rpV slot key 3 tail (.slice a k c) (.slice xa xn xc) ((min (n - actsN g A) cs.length : Nat) : Int) (tail + whole A) := by
     simp only [stG, gAt, stTl, gI, gEn, if_neg e0, if_neg e1, if_neg e2, if_pos e3]
    rw [hst]
    refine (rpTake3_c g ok slot key tail a xa k c xn xc _ (tail + whole A) _ w).mono ?_
    rintro e w' ⟨he, hb⟩
    refine ⟨_, V, he, hb, Vext.same hV hb, a, k, c, xa, xn, xc, ?_, hst1, ⟨fun h => by omega, fun _ => hcc⟩⟩
    rw [decide_eq_true e3]
    have hmin3 : min (n + 1 - actsN g A) cs.length = min (n - actsN g A) cs.length := by omega
    simp only [stG, gAt, stTl, gI, gEn, if_neg (show ¬ n + 1 = 0 by omega), if_neg (show ¬ n + 1 < actsN g A by omega), if_neg (show ¬ n + 1 < actsN g A + cs.length by omega), if_neg (show ¬ n + 1 = actsN g A + cs.length by omega), hmin3]
def csOf (X : List ByteArray) (rest : List Value) : Array Value := (X.map Value.string ++ rest).toArray
theorem csOf_size (X : List ByteArray) (rest : List Value) : (csOf X rest).size = X.length + rest.length := by simp [csOf]
theorem csOf_set (X : List ByteArray) (rest : List Value) (q : Nat) (t : ByteArray) (h : q < X.length) : (csOf X rest).setIfInBounds (0 + q) (.string t) = csOf (X.set q t) rest := by
 rw [Nat.zero_add, csOf, csOf, List.setIfInBounds_toArray, List.set_append, if_pos (by simpa using h), List.map_set]
theorem csOf_sl {Z : Vw} {b e cap : Nat} {X : List ByteArray} {rest : List Value} (hb : Z.get b = some (.cells (csOf X rest) e (0, 0))) (hcap : X.length ≤ cap) : SlOf Z encS 1 (.slice (some ⟨b, 0, none⟩) X.length cap) X := by
 refine ⟨⟨?_, .inr ⟨b, 0, cap, _, e, (0, 0), rfl, hb, ?_, ?_, hcap⟩⟩, fun _ => rfl⟩
 · rw [flatS, List.length_map, Nat.mul_one]
 · rw [csOf_size]; omega
 · rw [List.drop_zero, Nat.mul_one, flatS, csOf, List.take_left' (by simp)]
def gD (D : List ByteArray) (cs : List Cell) (hq : Nat) (s1 : ByteArray) (N1 n : Nat) : List ByteArray := if n ≤ N1 + cs.length then wrA D (cs.take (n - N1)) else (wrA D cs).set hq s1
theorem gD_len (D : List ByteArray) (cs : List Cell) (hq : Nat) (s1 : ByteArray) (N1 n : Nat) : (gD D cs hq s1 N1 n).length = D.length := by
 rw [gD]
 split
 · exact wrA_len _ _
 · rw [List.length_set, wrA_len]
theorem gD_read {D : List ByteArray} {cs : List Cell} {hq : Nat} {s1 : ByteArray} {N1 n : Nat} (h : n < N1) : gD D cs hq s1 N1 n = D ∧ gD D cs hq s1 N1 (n + 1) = D := by
 rw [gD, gD, if_pos (by omega), if_pos (by omega), show n - N1 = 0 by omega, show n + 1 - N1 = 0 by omega]
 exact ⟨rfl, rfl⟩
theorem gD_cell {D : List ByteArray} {cs : List Cell} {hq : Nat} {s1 : ByteArray} {N1 n : Nat} (h0 : N1 ≤ n) (h : n < N1 + cs.length) : gD D cs hq s1 N1 (n + 1) = (gD D cs hq s1 N1 n).set (cellD cs (n - N1)).sector.toNat (cellD cs (n - N1)).b := by
 have hx := cellD_at (cs := cs) (j := n - N1) (by omega)
 have ht : cs.take (n + 1 - N1) = cs.take (n - N1) ++ [cellD cs (n - N1)] := by
  rw [show n + 1 - N1 = n - N1 + 1 by omega]
  exact rp_take hx
 rw [gD, gD, if_pos (by omega), if_pos (by omega), ht, wrA_snoc]
 rfl
theorem gD_head {D : List ByteArray} {cs : List Cell} {hq : Nat} {s1 : ByteArray} {N1 n : Nat} (h : n = N1 + cs.length) : gD D cs hq s1 N1 (n + 1) = (gD D cs hq s1 N1 n).set hq s1 := by
 rw [gD, gD, if_neg (by omega), if_pos (by omega), List.take_of_length_le (by omega)]
theorem small_view2 {V0 Z : Vw} {b : Nat} {w1 : World} {e : Ending} {w' : World} {Φ : Value → Vw → Prop} (h0 : V0.le Z) (hZ : Z.le (vw w1)) (hb0 : V0.get b = none) (hb : b < w1.heap.size)
  (h : ∃ x V2, e = .returned x ∧ Below w1.heap.size w1 w' ∧ Vext w1.heap.size V0 V2 w' ∧ Φ x V2) :
  ∃ x V', e = .returned x ∧ Below w1.heap.size w1 w' ∧ Vext w1.heap.size Z V' w' ∧ ∃ V2 : Vw, V2.le (V'.del b) ∧ V0.le V2 ∧ Φ x V2 := by
 obtain ⟨x, V2, he, hbl, hx, hΦ⟩ := h
 refine ⟨x, Z.grown w1 w', he, hbl, Vext.grown hZ hbl, V2, ⟨fun k o hk => ?_, h0.os.trans hx.le.os.symm, h0.tape.trans hx.le.tape.symm, h0.output.trans hx.le.output.symm⟩, hx.le, hΦ⟩
 obtain ⟨g1, g2⟩ := hx.get k o hk
 have hkb : k ≠ b := by
  rintro rfl
  rcases g2 with g2 | g2
  · rw [hb0] at g2; cases g2
  · omega
 show (if _ then _ else _) = _
 rw [if_neg hkb]
 simp only [Vw.grown]
 rcases g2 with g2 | g2
 ·
  have h1 := h0.get k o g2
  rw [if_pos (hZ.lt h1)]
  exact h1
 ·
  rw [if_neg (by omega)]
  exact g1
theorem touch_view {E : Env} {O : Go.Eng.Own} {nl : Nat} {Z : Vw} {w w' : World} {b : Nat} (hm : Mem E O nl Z w') (hle : ((vw w).del b).le Z) {ob : Obj} (hb : Z.get b = some ob) : Go.Eng.Touch (· = b) w w' := by
 have hk : ∀ k, k < w.heap.size → k ≠ b → w'.heap[k]? = w.heap[k]? := fun k hk hkb => by
  have h1 : w.heap[k]? = some w.heap[k] := by simp [hk]
  have h2 : ((vw w).del b).get k = some w.heap[k] := by
   show (if _ then _ else _) = _
   rw [if_neg hkb]; exact h1
  rw [h1]
  exact hm.get _ _ (hle.get _ _ h2)
 refine ⟨hm.os.trans hle.os, hm.tape.trans hle.tape, hm.output.trans hle.output, ?_, fun k hk1 hkb => hk k hk1 hkb⟩
 rcases Nat.eq_zero_or_pos w.heap.size with h0 | h0
 · omega
 ·
  by_cases hlast : w.heap.size - 1 = b
  ·
   have := (Array.getElem?_eq_some_iff.1 (hm.get _ _ hb)).1
   omega
  ·
   have h1 := hk (w.heap.size - 1) (by omega) hlast
   have h2 : w.heap[w.heap.size - 1]? = some w.heap[w.heap.size - 1] := by simp [show w.heap.size - 1 < w.heap.size by omega]
   rw [h2] at h1
   have := (Array.getElem?_eq_some_iff.1 h1).1
   omega
end Go.Proofs.YtlafboeohojcbaaGreat
