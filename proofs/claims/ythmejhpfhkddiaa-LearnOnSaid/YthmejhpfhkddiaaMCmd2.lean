import Derived.Test.YthmejhpfhkddiaaMGeo
/- The bytes of commands: the program's. -/
set_option linter.unusedVariables false
set_option linter.unusedSimpArgs false
set_option maxRecDepth 100000
namespace Go.Proofs.Ythmejhpfhkddiaa
open Go Go.Eng Go.RowKit

theorem cmdMay_c (c : Cmd) (w : World) : Calls Try.prog 29 #[c.val] w fun e w' => e = .returned (.bool (cmdB c)) ∧ Below w.heap.size w w' := by
  refine enter (E := E0) (O := []) (nl := 0) (V := vw w) [.a (.v c.val)] Try.func29 rfl rfl (mem0 E0 0 w) rfl rfl ?_
  refine c_seq ?_
  refine c_region ?_
  refine o_new tok rfl rfl rfl rfl ?_
  refine o_yield rfl rfl rfl (y_val tok rfl) ?_
  refine o_end [1] rfl ?_
  refine x_then ?_
  refine c_seq ?_
  refine c_region ?_
  refine o_yield rfl rfl rfl (y_val tok rfl) ?_
  refine o_yield rfl rfl rfl (y_val tok rfl) ?_
  refine o_new tok rfl rfl rfl rfl ?_
  refine o_call (.a (.v _)) rfl rfl fnok15 rfl rfl rfl (fun hg E w1 hm => by exact omay_c c _ _ _ (hm.lit 1 _ _ rfl)) ?_
  refine o_yield rfl rfl rfl (y_val tok rfl) ?_
  refine o_end [2] rfl ?_
  refine x_then ?_
  refine c_ret ?_
  refine b_ret tok rfl ?_
  intro E w' hm _
  refine ⟨?_, hm.below (Vw.le.refl _)⟩
  rfl

theorem oput_c (k : Int) (bl : List UInt8) (bv : Value) (ls : List Int) (lv : Value) (b : Nat) (c : Cmd) (w : World) (hb : w.heap[b]? = some (.cells (orderCells c bv).toArray 58 (0, 0)))
    (hs : SlOf ((vw w).del b) encByte 1 bv bl) (hl : SlOf ((vw w).del b) encI64 1 lv ls) (hok : putOk k ls = true) (hbn : bl.length ≤ 1099511627776) (hln : ls.length ≤ 1099511627776) :
    Calls Try.prog 16 #[.pointer (some ⟨b, 0, none⟩), I k, lv] w fun e w' => e = .returned (.tuple #[]) ∧ ∃ v, Go.Eng.Touch (· = b) w w' ∧ w'.ownsRow w.heap.size 5 1 v (putL bl k ls).length ((putL bl k ls).flatMap encByte) ∧
      w'.heap[b]? = some (.cells (orderCells c v).toArray 58 (0, 0)) := by
  refine enter1 [.a (.ptr 0 0), .a (.v (I k)), .a (.v lv)] hb Try.func16 rfl rfl rfl rfl ?_
  refine c_region ?_
  refine o_yield rfl rfl rfl (y_val tok rfl) ?_
  refine o_yield rfl rfl rfl (y_val tok rfl) ?_
  refine o_yield rfl rfl rfl (y_val tok rfl) ?_
  refine o_yield rfl rfl rfl (y_val tok rfl) ?_
  refine o_yield rfl rfl rfl (y_val tok rfl) ?_
  refine o_yield rfl rfl rfl (y_val tok rfl) ?_
  refine o_yield rfl rfl rfl (y_val tok rfl) ?_
  refine o_step rfl rfl rfl rfl rfl (s_numPut bl k ls rfl hok hbn hln (fun E w1 hm => ⟨bv, lv, rfl, hs.mono hm.leV, hl.mono hm.leV⟩)) (fun _ _ => ?_)
  refine o_yield rfl rfl rfl (y_val tok rfl) ?_
  refine o_yield rfl rfl rfl (y_val tok rfl) ?_
  refine o_yield rfl rfl rfl (y_val tok rfl) ?_
  refine o_yield rfl rfl rfl (y_val tok rfl) ?_
  refine o_yield rfl rfl rfl (y_val tok rfl) ?_
  refine o_store tok rfl rfl rfl (by first | exact ⟨trivial, trivial⟩ | (repeat' first | exact trivial | exact rfl | apply And.intro); done | simp [onesP, oneP, lk, Value.oneCell']) ?_
  refine o_end [] rfl ?_
  refine b_end tok rfl ?_
  intro E w' hm _
  obtain ⟨h1, h2⟩ := back1 hm (Vw.le.refl _) rfl rfl rfl
  refine ⟨rfl, E.κ 3, h1, hm.rowFreshD (Vw.le.refl _) (l0 := 0) rfl (hm.pin 1 0 _ rfl).1 (l := 3) rfl, ?_⟩
  rw [h2]
  rfl

section
variable {o : Oper} {n : Nat} {F : Frame0} {C : List Nat} {O : Own} {nl : Nat} {V : Vw}

abbrev orderAs (c : Cmd) (a : A) : List A := c.cells.map .v ++ [a]

theorem den_order (c : Cmd) (a : A) (E : Env) : (orderAs c a).map (A.den E) = orderCells c (a.den E) := rfl

theorem s_oput {p : List (Nat × Bool)} (l r e1 : Nat) (c : Cmd) (bl : List UInt8) (k : Int) (ls : List Int) (ss : List SV) (hv : evalC F p o.op = some (16, ss)) (hss : ∀ E, ∃ lv, ss.map (SV.den E) = [.pointer (some ⟨E.ρ l, 0, none⟩), I k, lv] ∧ ∀ w, Mem E O nl V w → SlOf ((vw w).del (E.ρ l)) encI64 1 lv ls)
    (hl : lk O l = some (.lit (orderAs c (.row r)) 58)) (hr : lk O r = some (.row e1 1 bl.length (bl.flatMap encByte))) (hok : putOk k ls = true) (hbn : bl.length ≤ 1099511627776) (hln : ls.length ≤ 1099511627776) :
    StepTo Try.prog o p n F C O nl V (σ := Unit) (fun _ => True) (fun _ => .tup []) (fun _ => (l, .lit (orderAs c (.row nl)) 58) :: (nl, .row 5 1 (putL bl k ls).length ((putL bl k ls).flatMap encByte)) :: O) (nl + 1) (fun _ => V) := by
  refine s_callWR (fun _ => True) (fun _ => .tup []) l 58 5 1 (fun _ => (putL bl k ls).length) (fun _ => (putL bl k ls).flatMap encByte) (fun _ => orderAs c (.row nl)) hv fnok16 hl
    (fun _ => by simp only [orderAs, Cmd.cells, List.map_cons, List.map_nil, List.cons_append, List.nil_append, allOk, A.ok, blt_iff, Bool.and_eq_true, Bool.true_and, Bool.and_true]; omega) (fun _ => rfl) ?_
  intro E w hm hb
  obtain ⟨lv, ha, hlv⟩ := hss E
  rw [ha]
  refine (oput_c k bl (E.κ r) ls lv (E.ρ l) c w (by rw [hb, den_order]; rfl) (hm.rowOfDel r hl hr (fun _ => rfl)) (hlv w hm) hok hbn hln).mono ?_
  rintro e w' ⟨rfl, v, ht, hown, hv'⟩
  refine ⟨(), v, rfl, ht, hown, ?_, trivial⟩
  rw [hv', den_order]
  simp [A.den, Env.setκ]
end

def cmdL (c : Cmd) : List UInt8 :=
  if c.kind = 2 then putL (putL (putL (putL [] 1 [c.kind]) 6 [c.by_]) 4 [c.serial]) 1 [c.lo, c.hi, c.mode]
  else if c.kind = 3 then putL (putL (putL (putL [] 1 [c.kind]) 6 [c.by_]) 4 [c.serial]) 1 [c.lo, c.hi]
  else if c.kind = 4 then putL (putL (putL (putL [] 1 [c.kind]) 6 [c.by_]) 4 [c.serial]) 6 [c.dead, c.was]
  else if c.kind = 5 then putL (putL (putL (putL [] 1 [c.kind]) 6 [c.by_]) 4 [c.serial]) 6 [c.dead]
  else putL (putL (putL [] 1 [c.kind]) 6 [c.by_]) 4 [c.serial]

def cbV (c : Cmd) : ByteArray := if cmdB c = true then strOf (cmdL c) else ByteArray.empty
def cbE (c : Cmd) : Int := if cmdB c = true then 0 else 2

structure CmdOk (c : Cmd) : Prop where
  kind : 0 ≤ c.kind ∧ c.kind ≤ 5
  by_ : 16 ≤ c.by_ ∧ c.by_ ≤ 1099511627776
  serial : 1 ≤ c.serial ∧ c.serial ≤ 2147483648
  lo : 0 ≤ c.lo ∧ c.lo < 64
  hi : 0 ≤ c.hi ∧ c.hi < 64
  mode : 0 ≤ c.mode ∧ c.mode ≤ 2
  dead : 0 ≤ c.dead ∧ c.dead ≤ 1099511627776
  was : 0 ≤ c.was ∧ c.was ≤ 1099511627776
  span : c.kind ≠ 2 → c.kind ≠ 3 → c.lo = 0 ∧ c.hi = 0
  mode0 : c.kind ≠ 2 → c.mode = 0
  dead0 : c.kind ≠ 4 → c.kind ≠ 5 → c.dead = 0
  was0 : c.kind ≠ 4 → c.was = 0

theorem cmdOk {c : Cmd} (h : cmdB c = true) : CmdOk c := by
  simp only [cmdB, keyB, Bool.and_eq_true, decide_eq_true_eq] at h
  obtain ⟨⟨⟨h1, h2⟩, h3⟩, h4⟩ := h
  split at h4
  · simp [onlyB, spanB, keyB] at h4
    constructor <;> omega
  · split at h4
    · simp [onlyB, spanB, keyB] at h4
      constructor <;> omega
    · split at h4
      · simp [onlyB, spanB, keyB] at h4
        constructor <;> omega
      · split at h4
        · simp [onlyB, spanB, keyB] at h4
          constructor <;> omega
        · split at h4
          · simp [onlyB, spanB, keyB] at h4
            constructor <;> omega
          · cases h4

theorem cmdBytes_c (c : Cmd) (w : World) : Calls Try.prog 6 #[c.val] w fun e w' => e = .returned (.tuple #[S (cbV c), I (cbE c)]) ∧ Below w.heap.size w w' := by
  refine enter (E := E0) (O := []) (nl := 0) (V := vw w) [.a (.v c.val)] Try.func6 rfl rfl (mem0 E0 0 w) rfl rfl ?_
  refine c_seq ?_
  refine c_region ?_
  refine o_new tok rfl rfl rfl rfl ?_
  refine o_yield rfl rfl rfl (y_val tok rfl) ?_
  refine o_yield rfl rfl rfl (y_val tok rfl) ?_
  refine o_end [1] rfl ?_
  refine x_then ?_
  refine c_seq ?_
  refine c_region ?_
  refine o_yield rfl rfl rfl (y_val tok rfl) ?_
  refine o_yield rfl rfl rfl (y_val tok rfl) ?_
  refine o_new tok rfl rfl rfl rfl ?_
  refine o_yield rfl rfl rfl (y_val tok rfl) ?_
  refine o_end [4] rfl ?_
  refine x_then ?_
  refine c_seq ?_
  refine c_seq ?_
  refine c_region ?_
  refine o_yield rfl rfl rfl (y_val tok rfl) ?_
  refine o_call (.a (.v _)) rfl rfl fnok15 rfl rfl rfl (fun hg E w1 hm => by exact omay_c c _ _ _ (hm.lit 1 _ _ rfl)) ?_
  refine o_yield rfl rfl rfl (y_val tok rfl) ?_
  refine o_end [4, 10] rfl ?_
  refine x_then ?_
  refine c_cond rfl (fun h => ?_) (fun h => ?_)
  ·
    simp only [Bool.and_eq_true, Bool.or_eq_true, Bool.not_eq_true', Bool.or_eq_false_iff, Bool.and_eq_false_iff, decide_eq_true_eq, decide_eq_false_iff_not, beq_iff_eq, bne_iff_ne, Bool.not_eq_false', beq_eq_false_iff_ne, bne_eq_false_iff_eq, ne_eq, Decidable.not_not, Int.not_lt, Int.not_le] at h
    refine c_seq ?_
    refine c_region ?_
    refine o_yield rfl rfl rfl (y_val tok rfl) ?_
    refine o_yield rfl rfl rfl (y_val tok rfl) ?_
    refine o_end [2, 3] rfl ?_
    refine x_then ?_
    refine c_ret ?_
    refine x_then_ret ?_
    refine b_ret tok rfl ?_
    intro E w' hm _
    refine ⟨?_, hm.below (Vw.le.refl _)⟩
    rw [cbV, cbE, if_neg (by simp [h]), if_neg (by simp [h])]
    rfl
  ·
    simp only [Bool.and_eq_true, Bool.or_eq_true, Bool.not_eq_true', Bool.or_eq_false_iff, Bool.and_eq_false_iff, decide_eq_true_eq, decide_eq_false_iff_not, beq_iff_eq, bne_iff_ne, Bool.not_eq_false', beq_eq_false_iff_ne, bne_eq_false_iff_eq, ne_eq, Decidable.not_not, Int.not_lt, Int.not_le] at h
    refine c_skip ?_
    refine x_then ?_
    refine c_seq ?_
    refine c_region ?_
    refine o_yield rfl rfl rfl (y_val tok rfl) ?_
    refine o_yield rfl rfl rfl (y_val tok rfl) ?_
    refine o_yield rfl rfl rfl (y_val tok rfl) ?_
    refine o_yield rfl rfl rfl (y_val tok rfl) ?_
    refine o_yield rfl rfl rfl (y_val tok rfl) ?_
    refine o_yield rfl rfl rfl (y_val tok rfl) ?_
    refine o_yield rfl rfl rfl (y_val tok rfl) ?_
    have ok := cmdOk h
    have hc := h
    clear h
    have okk := ok.kind
    have oky := ok.by_
    have oks := ok.serial
    have hmw : IntKind.i64.wrap c.mode = c.mode := wrapI (by have := ok.mode; omega) (by have := ok.mode; omega)
    have okl := ok.lo
    have okh := ok.hi
    have okm := ok.mode
    have okd := ok.dead
    have okw := ok.was
    have m6 : mostN (6 : Int).toNat = 1099511627776 := by decide
    have m4 : mostN (4 : Int).toNat = 4294967295 := by decide
    have m1 : mostN (1 : Int).toNat = 255 := by decide
    have p1 : putOk 1 [c.kind] = true := putOk_of (by rw [fitsB, m1]; simp [widthB]; omega)
    have p2 : putOk 6 [c.by_] = true := putOk_of (by rw [fitsB, m6]; simp [widthB]; omega)
    have p3 : putOk 4 [c.serial] = true := putOk_of (by rw [fitsB, m4]; simp [widthB]; omega)
    have q1 : ∀ n : Int, 0 ≤ n → n ≤ 255 → fitsB n 1 = true := fun n h1 h2 => by rw [fitsB, m1]; simp [widthB]; omega
    have q6 : ∀ n : Int, 0 ≤ n → n ≤ 1099511627776 → fitsB n 6 = true := fun n h1 h2 => by rw [fitsB, m6]; simp [widthB]; omega
    have w1 : widthB 1 = true := rfl
    have w6 : widthB 6 = true := rfl
    have l4 : (putL (putL (putL [] 1 [c.kind]) 6 [c.by_]) 4 [c.serial]).length ≤ 1099511627776 := by simp [putL, leB, leTake_len]
    refine k_nilO 1 8 5 1 rfl rfl ?_
    rw [wrapI (n := c.kind) (by omega) (by omega)]
    refine o_step rfl rfl rfl rfl rfl (s_bs tok 1 rfl rfl rfl) (fun _ _ => ?_)
    refine o_step rfl rfl rfl rfl rfl (s_oput 1 2 5 c [] 1 [c.kind] _ rfl (fun E => ⟨E.κ 3, rfl, fun w hm => hm.rowOfDel (enc := encI64) (L := [c.kind]) 3 rfl rfl (fun _ => rfl)⟩) rfl rfl p1 (by simp) (by simp)) (fun _ _ => ?_)
    refine o_end [4] rfl ?_
    refine x_then ?_
    refine c_seq ?_
    refine c_region ?_
    refine o_yield rfl rfl rfl (y_val tok rfl) ?_
    refine o_yield rfl rfl rfl (y_val tok rfl) ?_
    refine o_yield rfl rfl rfl (y_val tok rfl) ?_
    refine o_yield rfl rfl rfl (y_val tok rfl) ?_
    refine o_yield rfl rfl rfl (y_val tok rfl) ?_
    refine o_yield rfl rfl rfl (y_val tok rfl) ?_
    refine o_step rfl rfl rfl rfl rfl (s_bs tok 1 rfl rfl rfl) (fun _ _ => ?_)
    refine o_step rfl rfl rfl rfl rfl (s_oput 1 4 5 c (putL [] 1 [c.kind]) 6 [c.by_] _ rfl (fun E => ⟨E.κ 5, rfl, fun w hm => hm.rowOfDel (enc := encI64) (L := [c.by_]) 5 rfl rfl (fun _ => rfl)⟩) rfl rfl p2 (by simp [putL, leB, leTake_len]) (by simp)) (fun _ _ => ?_)
    refine o_end [4] rfl ?_
    refine x_then ?_
    refine c_seq ?_
    refine c_region ?_
    refine o_yield rfl rfl rfl (y_val tok rfl) ?_
    refine o_yield rfl rfl rfl (y_val tok rfl) ?_
    refine o_yield rfl rfl rfl (y_val tok rfl) ?_
    refine o_yield rfl rfl rfl (y_val tok rfl) ?_
    refine o_yield rfl rfl rfl (y_val tok rfl) ?_
    refine o_yield rfl rfl rfl (y_val tok rfl) ?_
    refine o_step rfl rfl rfl rfl rfl (s_bs tok 1 rfl rfl rfl) (fun _ _ => ?_)
    have l3 : (putL (putL [] 1 [c.kind]) 6 [c.by_]).length = 7 := by simp [putL, leB, leTake_len]
    refine o_step rfl rfl rfl rfl rfl (s_oput 1 6 5 c (putL (putL [] 1 [c.kind]) 6 [c.by_]) 4 [c.serial] _ rfl (fun E => ⟨E.κ 7, rfl, fun w hm => hm.rowOfDel (enc := encI64) (L := [c.serial]) 7 rfl rfl (fun _ => rfl)⟩) rfl rfl p3 (by rw [l3]; omega) (by simp)) (fun _ _ => ?_)
    refine o_end [4] rfl ?_
    refine x_then ?_
    refine c_seq ?_
    refine c_seq ?_
    refine c_region ?_
    refine o_yield rfl rfl rfl (y_val tok rfl) ?_
    refine o_yield rfl rfl rfl (y_val tok rfl) ?_
    refine o_yield rfl rfl rfl (y_val tok rfl) ?_
    refine o_yield rfl rfl rfl (y_val tok rfl) ?_
    refine o_yield rfl rfl rfl (y_val tok rfl) ?_
    refine o_end [4, 40] rfl ?_
    refine x_then ?_
    refine c_block ?_
    refine c_seq ?_
    refine c_region ?_
    refine o_yield rfl rfl rfl (y_val tok rfl) ?_
    refine o_yield rfl rfl rfl (y_val tok rfl) ?_
    refine o_end [4, 40, 41] rfl ?_
    refine x_then ?_
    refine c_cond rfl (fun h => ?_) (fun h => ?_)
    ·
      refine c_heldS [20] mixed rfl (by repeat (first | exact SubO.nil | refine SubO.cons rfl ?_)) (by first | rfl | simp [okCels, allOk_plain]) ?_
      refine t_takeD 0 rfl (by kernel_rfl) rfl rfl rfl (y_val tok rfl) rfl ?_
      refine t_takeD 1 rfl (by kernel_rfl) rfl rfl rfl (y_val tok rfl) rfl ?_
      refine t_takeD 2 rfl (by kernel_rfl) rfl rfl rfl (y_val tok rfl) rfl ?_
      refine t_takeD 3 rfl (by kernel_rfl) rfl rfl rfl (y_val tok rfl) rfl ?_
      refine t_takeD 4 rfl (by kernel_rfl) rfl rfl rfl (y_val tok rfl) rfl ?_
      refine t_takeD 5 rfl (by kernel_rfl) rfl rfl rfl (y_val tok rfl) rfl ?_
      refine t_takeD 6 rfl (by kernel_rfl) rfl rfl rfl (y_val tok rfl) rfl ?_
      refine t_takeD 7 rfl (by kernel_rfl) rfl rfl rfl (y_val tok rfl) rfl ?_
      refine t_takeD 8 rfl (by kernel_rfl) rfl rfl rfl (y_val tok rfl) rfl ?_
      refine t_takeD 9 rfl (by kernel_rfl) rfl rfl rfl (y_val tok rfl) rfl ?_
      refine t_takeD 10 rfl (by kernel_rfl) rfl rfl rfl (y_val tok rfl) rfl ?_
      refine t_takeD 11 rfl (by kernel_rfl) rfl rfl rfl (y_val tok rfl) rfl ?_
      refine t_takeD 12 rfl (by kernel_rfl) rfl rfl rfl (y_val tok rfl) rfl ?_
      refine t_takeD 13 rfl (by kernel_rfl) rfl rfl rfl (y_val tok rfl) rfl ?_
      refine t_takeD 14 rfl (by kernel_rfl) rfl rfl rfl (y_val tok rfl) rfl ?_
      refine t_takeD 15 rfl (by kernel_rfl) rfl rfl rfl (y_val tok rfl) rfl ?_
      refine t_takeD 16 rfl (by kernel_rfl) rfl rfl rfl (y_val tok rfl) rfl ?_
      refine t_takeD 17 rfl (by kernel_rfl) rfl rfl rfl (y_val tok rfl) rfl ?_
      refine t_takeD 18 rfl (by kernel_rfl) rfl rfl rfl (y_val tok rfl) rfl ?_
      refine t_go ?_
      refine h_one 19 (by kernel_rfl) ?_
      have e2 : c.kind = 2 := by simpa using h
      have p4 : putOk 1 [c.lo, c.hi, (IntKind.i64.wrap c.mode)] = true := by simp only [putOk, List.all_cons, List.all_nil, Bool.and_true, Bool.and_eq_true]; exact ⟨w1, ⟨q1 _ (by omega) (by omega), q1 _ (by omega) (by omega), by rw [hmw]; exact q1 _ (by omega) (by omega)⟩⟩
      refine h_to 19 rfl rfl rfl rfl rfl rfl (s_bs tok 1 rfl rfl rfl) (.inr fun _ _ => ⟨(by repeat (first | exact SubO.nil | refine SubO.cons rfl ?_)), rfl, (by first | exact Vw.le.refl _ | assumption)⟩) (fun _ _ => ?_)
      refine h_one 20 (by kernel_rfl) ?_
      refine h_to 20 rfl rfl rfl rfl rfl rfl (s_oput 1 8 5 c (putL (putL (putL [] 1 [c.kind]) 6 [c.by_]) 4 [c.serial]) 1 [c.lo, c.hi, IntKind.i64.wrap c.mode] _ rfl (fun E => ⟨E.κ 9, rfl, fun w hm => hm.rowOfDel (enc := encI64) (L := [c.lo, c.hi, IntKind.i64.wrap c.mode]) 9 rfl rfl (fun _ => rfl)⟩) rfl rfl (p4) l4 (by simp)) (.inl rfl) (fun _ _ => ?_)
      refine h_done [4] (by kernel_rfl) rfl ?_
      refine x_block ?_
      refine x_then ?_
      refine c_seq ?_
      refine c_region ?_
      refine o_yield rfl rfl rfl (y_val tok rfl) ?_
      refine o_yield rfl rfl rfl (y_val tok rfl) ?_
      refine o_yield rfl rfl rfl (y_val tok rfl) ?_
      refine o_yield rfl rfl rfl (y_val tok rfl) ?_
      refine o_yield rfl rfl rfl (y_own (s := .a (.v (.string (strOf (cmdL c))))) 10 rfl rfl (fun v V' hs => y_b2s tok _ rfl (fun hg => by rw [cmdL, if_pos e2, ← hmw]; exact hs))) ?_
      refine o_yield rfl rfl rfl (y_val tok rfl) ?_
      refine o_yield rfl rfl rfl (y_val tok rfl) ?_
      refine o_end [2, 3] rfl ?_
      refine x_then ?_
      refine c_ret ?_
      refine b_ret tok rfl ?_
      intro E w' hm _
      refine ⟨?_, hm.below (Vw.le.refl _)⟩
      rw [cbV, cbE, if_pos hc, if_pos hc]
      rfl
    ·
      refine c_seq ?_
      refine c_region ?_
      refine o_yield rfl rfl rfl (y_val tok rfl) ?_
      refine o_yield rfl rfl rfl (y_val tok rfl) ?_
      refine o_end [4, 40, 64] rfl ?_
      refine x_then ?_
      refine c_cond rfl (fun h3 => ?_) (fun h3 => ?_)
      ·
        refine c_heldS [14] mixed rfl (by repeat (first | exact SubO.nil | refine SubO.cons rfl ?_)) (by first | rfl | simp [okCels, allOk_plain]) ?_
        refine t_takeD 0 rfl (by kernel_rfl) rfl rfl rfl (y_val tok rfl) rfl ?_
        refine t_takeD 1 rfl (by kernel_rfl) rfl rfl rfl (y_val tok rfl) rfl ?_
        refine t_takeD 2 rfl (by kernel_rfl) rfl rfl rfl (y_val tok rfl) rfl ?_
        refine t_takeD 3 rfl (by kernel_rfl) rfl rfl rfl (y_val tok rfl) rfl ?_
        refine t_takeD 4 rfl (by kernel_rfl) rfl rfl rfl (y_val tok rfl) rfl ?_
        refine t_takeD 5 rfl (by kernel_rfl) rfl rfl rfl (y_val tok rfl) rfl ?_
        refine t_takeD 6 rfl (by kernel_rfl) rfl rfl rfl (y_val tok rfl) rfl ?_
        refine t_takeD 7 rfl (by kernel_rfl) rfl rfl rfl (y_val tok rfl) rfl ?_
        refine t_takeD 8 rfl (by kernel_rfl) rfl rfl rfl (y_val tok rfl) rfl ?_
        refine t_takeD 9 rfl (by kernel_rfl) rfl rfl rfl (y_val tok rfl) rfl ?_
        refine t_takeD 10 rfl (by kernel_rfl) rfl rfl rfl (y_val tok rfl) rfl ?_
        refine t_takeD 11 rfl (by kernel_rfl) rfl rfl rfl (y_val tok rfl) rfl ?_
        refine t_takeD 12 rfl (by kernel_rfl) rfl rfl rfl (y_val tok rfl) rfl ?_
        refine t_go ?_
        refine h_one 13 (by kernel_rfl) ?_
        have e3 : c.kind = 3 := by simpa using h3
        have p4 : putOk 1 [c.lo, c.hi] = true := by simp only [putOk, List.all_cons, List.all_nil, Bool.and_true, Bool.and_eq_true]; exact ⟨w1, ⟨q1 _ (by omega) (by omega), q1 _ (by omega) (by omega)⟩⟩
        refine h_to 13 rfl rfl rfl rfl rfl rfl (s_bs tok 1 rfl rfl rfl) (.inr fun _ _ => ⟨(by repeat (first | exact SubO.nil | refine SubO.cons rfl ?_)), rfl, (by first | exact Vw.le.refl _ | assumption)⟩) (fun _ _ => ?_)
        refine h_one 14 (by kernel_rfl) ?_
        refine h_to 14 rfl rfl rfl rfl rfl rfl (s_oput 1 8 5 c (putL (putL (putL [] 1 [c.kind]) 6 [c.by_]) 4 [c.serial]) 1 [c.lo, c.hi] _ rfl (fun E => ⟨E.κ 9, rfl, fun w hm => hm.rowOfDel (enc := encI64) (L := [c.lo, c.hi]) 9 rfl rfl (fun _ => rfl)⟩) rfl rfl (p4) l4 (by simp)) (.inl rfl) (fun _ _ => ?_)
        refine h_done [4] (by kernel_rfl) rfl ?_
        refine x_block ?_
        refine x_then ?_
        refine c_seq ?_
        refine c_region ?_
        refine o_yield rfl rfl rfl (y_val tok rfl) ?_
        refine o_yield rfl rfl rfl (y_val tok rfl) ?_
        refine o_yield rfl rfl rfl (y_val tok rfl) ?_
        refine o_yield rfl rfl rfl (y_val tok rfl) ?_
        refine o_yield rfl rfl rfl (y_own (s := .a (.v (.string (strOf (cmdL c))))) 10 rfl rfl (fun v V' hs => y_b2s tok _ rfl (fun hg => by rw [cmdL, if_neg (by omega), if_pos e3]; exact hs))) ?_
        refine o_yield rfl rfl rfl (y_val tok rfl) ?_
        refine o_yield rfl rfl rfl (y_val tok rfl) ?_
        refine o_end [2, 3] rfl ?_
        refine x_then ?_
        refine c_ret ?_
        refine b_ret tok rfl ?_
        intro E w' hm _
        refine ⟨?_, hm.below (Vw.le.refl _)⟩
        rw [cbV, cbE, if_pos hc, if_pos hc]
        rfl
      ·
        refine c_seq ?_
        refine c_region ?_
        refine o_yield rfl rfl rfl (y_val tok rfl) ?_
        refine o_yield rfl rfl rfl (y_val tok rfl) ?_
        refine o_end [4, 40, 81] rfl ?_
        refine x_then ?_
        refine c_cond rfl (fun h4 => ?_) (fun h4 => ?_)
        ·
          refine c_heldS [12] mixed rfl (by repeat (first | exact SubO.nil | refine SubO.cons rfl ?_)) (by first | rfl | simp [okCels, allOk_plain]) ?_
          refine t_takeD 0 rfl (by kernel_rfl) rfl rfl rfl (y_val tok rfl) rfl ?_
          refine t_takeD 1 rfl (by kernel_rfl) rfl rfl rfl (y_val tok rfl) rfl ?_
          refine t_takeD 2 rfl (by kernel_rfl) rfl rfl rfl (y_val tok rfl) rfl ?_
          refine t_takeD 3 rfl (by kernel_rfl) rfl rfl rfl (y_val tok rfl) rfl ?_
          refine t_takeD 4 rfl (by kernel_rfl) rfl rfl rfl (y_val tok rfl) rfl ?_
          refine t_takeD 5 rfl (by kernel_rfl) rfl rfl rfl (y_val tok rfl) rfl ?_
          refine t_takeD 6 rfl (by kernel_rfl) rfl rfl rfl (y_val tok rfl) rfl ?_
          refine t_takeD 7 rfl (by kernel_rfl) rfl rfl rfl (y_val tok rfl) rfl ?_
          refine t_takeD 8 rfl (by kernel_rfl) rfl rfl rfl (y_val tok rfl) rfl ?_
          refine t_takeD 9 rfl (by kernel_rfl) rfl rfl rfl (y_val tok rfl) rfl ?_
          refine t_takeD 10 rfl (by kernel_rfl) rfl rfl rfl (y_val tok rfl) rfl ?_
          refine t_go ?_
          refine h_one 11 (by kernel_rfl) ?_
          have e4 : c.kind = 4 := by simpa using h4
          have p4 : putOk 6 [c.dead, c.was] = true := by simp only [putOk, List.all_cons, List.all_nil, Bool.and_true, Bool.and_eq_true]; exact ⟨w6, ⟨q6 _ (by omega) (by omega), q6 _ (by omega) (by omega)⟩⟩
          refine h_to 11 rfl rfl rfl rfl rfl rfl (s_bs tok 1 rfl rfl rfl) (.inr fun _ _ => ⟨(by repeat (first | exact SubO.nil | refine SubO.cons rfl ?_)), rfl, (by first | exact Vw.le.refl _ | assumption)⟩) (fun _ _ => ?_)
          refine h_one 12 (by kernel_rfl) ?_
          refine h_to 12 rfl rfl rfl rfl rfl rfl (s_oput 1 8 5 c (putL (putL (putL [] 1 [c.kind]) 6 [c.by_]) 4 [c.serial]) 6 [c.dead, c.was] _ rfl (fun E => ⟨E.κ 9, rfl, fun w hm => hm.rowOfDel (enc := encI64) (L := [c.dead, c.was]) 9 rfl rfl (fun _ => rfl)⟩) rfl rfl (p4) l4 (by simp)) (.inl rfl) (fun _ _ => ?_)
          refine h_done [4] (by kernel_rfl) rfl ?_
          refine x_block ?_
          refine x_then ?_
          refine c_seq ?_
          refine c_region ?_
          refine o_yield rfl rfl rfl (y_val tok rfl) ?_
          refine o_yield rfl rfl rfl (y_val tok rfl) ?_
          refine o_yield rfl rfl rfl (y_val tok rfl) ?_
          refine o_yield rfl rfl rfl (y_val tok rfl) ?_
          refine o_yield rfl rfl rfl (y_own (s := .a (.v (.string (strOf (cmdL c))))) 10 rfl rfl (fun v V' hs => y_b2s tok _ rfl (fun hg => by rw [cmdL, if_neg (by omega), if_neg (by omega), if_pos e4]; exact hs))) ?_
          refine o_yield rfl rfl rfl (y_val tok rfl) ?_
          refine o_yield rfl rfl rfl (y_val tok rfl) ?_
          refine o_end [2, 3] rfl ?_
          refine x_then ?_
          refine c_ret ?_
          refine b_ret tok rfl ?_
          intro E w' hm _
          refine ⟨?_, hm.below (Vw.le.refl _)⟩
          rw [cbV, cbE, if_pos hc, if_pos hc]
          rfl
        ·
          refine c_seq ?_
          refine c_region ?_
          refine o_yield rfl rfl rfl (y_val tok rfl) ?_
          refine o_yield rfl rfl rfl (y_val tok rfl) ?_
          refine o_end [4, 96] rfl ?_
          refine x_then ?_
          refine c_cond rfl (fun h5 => ?_) (fun h5 => ?_)
          ·
            refine c_region ?_
            refine o_yield rfl rfl rfl (y_val tok rfl) ?_
            refine o_yield rfl rfl rfl (y_val tok rfl) ?_
            refine o_yield rfl rfl rfl (y_val tok rfl) ?_
            refine o_yield rfl rfl rfl (y_val tok rfl) ?_
            refine o_yield rfl rfl rfl (y_val tok rfl) ?_
            refine o_yield rfl rfl rfl (y_val tok rfl) ?_
            have e5 : c.kind = 5 := by simpa using h5
            have p4 : putOk 6 [c.dead] = true := by simp only [putOk, List.all_cons, List.all_nil, Bool.and_true, Bool.and_eq_true]; exact ⟨w6, q6 _ (by omega) (by omega)⟩
            refine o_step rfl rfl rfl rfl rfl (s_bs tok 1 rfl rfl rfl) (fun _ _ => ?_)
            refine o_step rfl rfl rfl rfl rfl (s_oput 1 8 5 c (putL (putL (putL [] 1 [c.kind]) 6 [c.by_]) 4 [c.serial]) 6 [c.dead] _ rfl (fun E => ⟨E.κ 9, rfl, fun w hm => hm.rowOfDel (enc := encI64) (L := [c.dead]) 9 rfl rfl (fun _ => rfl)⟩) rfl rfl (p4) l4 (by simp)) (fun _ _ => ?_)
            refine o_end [4] rfl ?_
            refine x_block ?_
            refine x_then ?_
            refine c_seq ?_
            refine c_region ?_
            refine o_yield rfl rfl rfl (y_val tok rfl) ?_
            refine o_yield rfl rfl rfl (y_val tok rfl) ?_
            refine o_yield rfl rfl rfl (y_val tok rfl) ?_
            refine o_yield rfl rfl rfl (y_val tok rfl) ?_
            refine o_yield rfl rfl rfl (y_own (s := .a (.v (.string (strOf (cmdL c))))) 10 rfl rfl (fun v V' hs => y_b2s tok _ rfl (fun hg => by rw [cmdL, if_neg (by omega), if_neg (by omega), if_neg (by omega), if_pos e5]; exact hs))) ?_
            refine o_yield rfl rfl rfl (y_val tok rfl) ?_
            refine o_yield rfl rfl rfl (y_val tok rfl) ?_
            refine o_end [2, 3] rfl ?_
            refine x_then ?_
            refine c_ret ?_
            refine b_ret tok rfl ?_
            intro E w' hm _
            refine ⟨?_, hm.below (Vw.le.refl _)⟩
            rw [cbV, cbE, if_pos hc, if_pos hc]
            rfl
          ·
            refine c_skip ?_
            refine x_block ?_
            refine x_then ?_
            refine c_seq ?_
            refine c_region ?_
            refine o_yield rfl rfl rfl (y_val tok rfl) ?_
            refine o_yield rfl rfl rfl (y_val tok rfl) ?_
            refine o_yield rfl rfl rfl (y_val tok rfl) ?_
            refine o_yield rfl rfl rfl (y_val tok rfl) ?_
            have f2 : ¬ c.kind = 2 := by simpa using h
            have f3 : ¬ c.kind = 3 := by simpa using h3
            have f4 : ¬ c.kind = 4 := by simpa using h4
            have f5 : ¬ c.kind = 5 := by simpa using h5
            refine o_yield rfl rfl rfl (y_own (s := .a (.v (.string (strOf (cmdL c))))) 8 rfl rfl (fun v V' hs => y_b2s tok _ rfl (fun hg => by rw [cmdL, if_neg f2, if_neg f3, if_neg f4, if_neg f5]; exact hs))) ?_
            refine o_yield rfl rfl rfl (y_val tok rfl) ?_
            refine o_yield rfl rfl rfl (y_val tok rfl) ?_
            refine o_end [2, 3] rfl ?_
            refine x_then ?_
            refine c_ret ?_
            refine b_ret tok rfl ?_
            intro E w' hm _
            refine ⟨?_, hm.below (Vw.le.refl _)⟩
            rw [cbV, cbE, if_pos hc, if_pos hc]
            rfl
end Go.Proofs.Ythmejhpfhkddiaa

/- Commands read back: the program's. -/
set_option linter.unusedVariables false
set_option linter.unusedSimpArgs false
set_option maxRecDepth 100000
namespace Go.Proofs.Ythmejhpfhkddiaa
open Go Go.Eng Go.RowKit

/-- What is left, and whether something was lacking. -/
def tkS (t : ByteArray × Bool) (k : Nat) : ByteArray × Bool := if (getSpec t.1 0 k).2 ≠ 0 then (t.1, true) else (restOf t.1 k, t.2)

theorem tkS_size (t : ByteArray × Bool) (k : Nat) : (tkS t k).1.size ≤ t.1.size := by
  rw [tkS]; split
  · exact Nat.le_refl _
  · rw [restOf_size]; omega

theorem getSpec_bad {s : ByteArray} {a k : Int} (h : (getSpec s a k).2 ≠ 0) : (getSpec s a k).1 = 0 := by
  unfold getSpec at h ⊢
  split
  · rfl
  · split
    · rfl
    · split
      · rfl
      · rename_i h1 h2 h3
        rw [if_neg h1, if_neg h2, if_neg h3] at h
        exact absurd rfl h

theorem getSpec_fit {s : ByteArray} {k : Nat} (h : ¬ (getSpec s 0 k).2 ≠ 0) : k ≤ s.size := by
  unfold getSpec at h
  split at h
  · exact absurd (by decide) h
  · split at h
    · exact absurd (by decide) h
    · omega

theorem take_c (t : ByteArray × Bool) (k : Nat) (hs : t.1.size ≤ maxLen) (hk : k ≤ 6) (b : Nat) (w : World) (hb : w.heap[b]? = some (.cells [S t.1, .bool t.2].toArray 77 (0, 0))) :
    Calls Try.prog 28 #[.pointer (some ⟨b, 0, none⟩), I k] w fun e w' => e = .returned (I (getSpec t.1 0 k).1) ∧ Go.Eng.Touch (· = b) w w' ∧ w'.heap[b]? = some (.cells [S (tkS t k).1, .bool (tkS t k).2].toArray 77 (0, 0)) := by
  obtain ⟨s, bad⟩ := t
  dsimp only at hs hb ⊢
  refine enter1 [.a (.ptr 0 0), .a (.v (I k))] hb Try.func28 rfl rfl rfl rfl ?_
  refine c_seq ?_
  refine c_region ?_
  refine o_yield rfl rfl rfl (y_val tok rfl) ?_
  refine o_end [0, 1] rfl ?_
  refine x_then ?_
  refine c_seq ?_
  refine c_region ?_
  refine o_yield rfl rfl rfl (y_val tok rfl) ?_
  refine o_yield rfl rfl rfl (y_val tok rfl) ?_
  refine o_yield rfl rfl rfl (y_val tok rfl) ?_
  refine o_yield rfl rfl rfl (y_val tok rfl) ?_
  refine o_yield rfl rfl rfl (y_val tok rfl) ?_
  refine o_call (.a (.v _)) rfl rfl fnok38 rfl rfl rfl (fun hg E w1 hm => by exact numGet_c s 0 k hs _) ?_
  refine o_yield rfl rfl rfl (y_val tok rfl) ?_
  refine o_yield rfl rfl rfl (y_val tok rfl) ?_
  refine o_yield rfl rfl rfl (y_val tok rfl) ?_
  refine o_yield rfl rfl rfl (y_val tok rfl) ?_
  refine o_yield rfl rfl rfl (y_val tok rfl) ?_
  refine o_end [0, 1, 5, 6] rfl ?_
  refine x_then ?_
  refine c_seq ?_
  refine c_seq ?_
  refine c_region ?_
  refine o_yield rfl rfl rfl (y_val tok rfl) ?_
  refine o_yield rfl rfl rfl (y_val tok rfl) ?_
  refine o_end [0, 1, 5, 17] rfl ?_
  refine x_then ?_
  refine c_cond rfl (fun h => ?_) (fun h => ?_)
  ·
    simp only [Bool.and_eq_true, Bool.or_eq_true, Bool.not_eq_true', Bool.or_eq_false_iff, Bool.and_eq_false_iff, decide_eq_true_eq, decide_eq_false_iff_not, beq_iff_eq, bne_iff_ne, Bool.not_eq_false', beq_eq_false_iff_ne, bne_eq_false_iff_eq, ne_eq, Decidable.not_not, Int.not_lt, Int.not_le] at h
    refine c_seq ?_
    refine c_region ?_
    refine o_yield rfl rfl rfl (y_val tok rfl) ?_
    refine o_yield rfl rfl rfl (y_val tok rfl) ?_
    refine o_yield rfl rfl rfl (y_val tok rfl) ?_
    refine o_store tok rfl rfl rfl (by first | exact ⟨trivial, trivial⟩ | (repeat' first | exact trivial | exact rfl | apply And.intro); done | simp [onesP, oneP, lk, Value.oneCell']) ?_
    refine o_end [] rfl ?_
    refine x_then ?_
    refine c_seq ?_
    refine c_region ?_
    refine o_yield rfl rfl rfl (y_val tok rfl) ?_
    refine o_end [4] rfl ?_
    refine x_then ?_
    refine c_ret ?_
    refine x_then_ret ?_
    refine b_ret tok rfl ?_
    intro E w' hm _
    obtain ⟨h1, h2⟩ := back1 hm (Vw.le.refl _) rfl rfl rfl
    refine ⟨?_, h1, ?_⟩
    · rw [getSpec_bad h]; rfl
    · rw [h2, tkS, if_pos h]; rfl
  ·
    simp only [Bool.and_eq_true, Bool.or_eq_true, Bool.not_eq_true', Bool.or_eq_false_iff, Bool.and_eq_false_iff, decide_eq_true_eq, decide_eq_false_iff_not, beq_iff_eq, bne_iff_ne, Bool.not_eq_false', beq_eq_false_iff_ne, bne_eq_false_iff_eq, ne_eq, Decidable.not_not, Int.not_lt, Int.not_le] at h
    refine c_skip ?_
    refine x_then ?_
    refine c_seq ?_
    refine c_region ?_
    refine o_yield rfl rfl rfl (y_val tok rfl) ?_
    refine o_yield rfl rfl rfl (y_val tok rfl) ?_
    refine o_yield rfl rfl rfl (y_val tok rfl) ?_
    refine o_yield rfl rfl rfl (y_val tok rfl) ?_
    refine o_yield rfl rfl rfl (y_val tok rfl) ?_
    refine o_yield rfl rfl rfl (y_val tok rfl) ?_
    have hf := getSpec_fit (s := s) (k := k) (by simp [h])
    refine o_yield rfl rfl rfl (y_ss tok rfl (fun hg => by simp only [Option.getD]; omega)) ?_
    refine o_yield rfl rfl rfl (y_val tok rfl) ?_
    refine o_yield rfl rfl rfl (y_val tok rfl) ?_
    refine o_store tok rfl rfl rfl (by first | exact ⟨trivial, trivial⟩ | (repeat' first | exact trivial | exact rfl | apply And.intro); done | simp [onesP, oneP, lk, Value.oneCell']) ?_
    refine o_end [5] rfl ?_
    refine x_then ?_
    refine c_seq ?_
    refine c_region ?_
    refine o_yield rfl rfl rfl (y_val tok rfl) ?_
    refine o_yield rfl rfl rfl (y_val tok rfl) ?_
    refine o_end [4] rfl ?_
    refine x_then ?_
    refine c_ret ?_
    refine b_ret tok rfl ?_
    rw [show s.extract ((some (k : Int)).getD 0).toNat ((none : Option Int).getD (s.size : Int)).toNat = restOf s k from rfl]
    intro E w' hm _
    obtain ⟨h1, h2⟩ := back1 hm (Vw.le.refl _) rfl rfl rfl
    refine ⟨rfl, h1, ?_⟩
    rw [h2, tkS, if_neg (by simp [h])]; rfl

section
variable {o : Oper} {n : Nat} {F : Frame0} {C : List Nat} {O : Go.Eng.Own} {nl : Nat} {V : Vw}

theorem s_take {p : List (Nat × Bool)} (l : Nat) (t : ByteArray × Bool) (k : Nat) (K : Int) (hK : (k : Int) = K) (t' : ByteArray × Bool) (ht : tkS t k = t') (ss : List SV) (hv : evalC F p o.op = some (28, ss)) (hss : ∀ E, ss.map (SV.den E) = [.pointer (some ⟨E.ρ l, 0, none⟩), I K])
    (hl : lk O l = some (.lit [.v (S t.1), .v (.bool t.2)] 77)) (hs : t.1.size ≤ maxLen) (hk : k ≤ 6) :
    StepTo Try.prog o p n F C O nl V (σ := Unit) (fun _ => True) (fun _ => .a (.v (I (getSpec t.1 0 K).1))) (fun _ => (l, .lit [.v (S t'.1), .v (.bool t'.2)] 77) :: O) nl (fun _ => V) := by
  subst hK ht
  refine s_callW (fun _ => True) (fun _ => .a (.v (I (getSpec t.1 0 k).1))) l 77 (fun _ => [.v (S (tkS t k).1), .v (.bool (tkS t k).2)]) hv fnok28 hl (fun _ => rfl) (fun _ => rfl) ?_
  intro E w hm hb
  rw [hss E]
  refine (take_c t k hs hk (E.ρ l) w hb).mono ?_
  rintro e w' ⟨rfl, h1, h2⟩
  exact ⟨(), rfl, h1, h2, trivial⟩
end

theorem getSpec_nonneg (s : ByteArray) (a k : Int) : 0 ≤ (getSpec s a k).1 ∧ (getSpec s a k).1 ≤ 1099511627776 := by
  unfold getSpec
  split
  · decide
  · split
    · decide
    · split
      · decide
      · constructor
        · exact Int.natCast_nonneg _
        · dsimp only; omega

theorem wrapI8 {n : Int} (h0 : 0 ≤ n) (h1 : n ≤ 127) : IntKind.i8.wrap n = n := by
  simp [IntKind.wrap, IntKind.bits, IntKind.signed]; omega

def rdPre (s : ByteArray) : Cmd × (ByteArray × Bool) :=
  if min (getSpec s 0 1).1 127 = 2 then
    (⟨min (getSpec s 0 1).1 127, (getSpec (tkS (s, false) 1).1 0 6).1, (getSpec (tkS (tkS (s, false) 1) 6).1 0 4).1, 0, 0, (getSpec (tkS (tkS (tkS (s, false) 1) 6) 4).1 0 1).1, (getSpec (tkS (tkS (tkS (tkS (s, false) 1) 6) 4) 1).1 0 1).1,
      min (getSpec (tkS (tkS (tkS (tkS (tkS (s, false) 1) 6) 4) 1) 1).1 0 1).1 127⟩, tkS (tkS (tkS (tkS (tkS (tkS (s, false) 1) 6) 4) 1) 1) 1)
  else if min (getSpec s 0 1).1 127 = 3 then
    (⟨min (getSpec s 0 1).1 127, (getSpec (tkS (s, false) 1).1 0 6).1, (getSpec (tkS (tkS (s, false) 1) 6).1 0 4).1, 0, 0, (getSpec (tkS (tkS (tkS (s, false) 1) 6) 4).1 0 1).1, (getSpec (tkS (tkS (tkS (tkS (s, false) 1) 6) 4) 1).1 0 1).1, 0⟩,
      tkS (tkS (tkS (tkS (tkS (s, false) 1) 6) 4) 1) 1)
  else if min (getSpec s 0 1).1 127 = 4 then
    (⟨min (getSpec s 0 1).1 127, (getSpec (tkS (s, false) 1).1 0 6).1, (getSpec (tkS (tkS (s, false) 1) 6).1 0 4).1, (getSpec (tkS (tkS (tkS (s, false) 1) 6) 4).1 0 6).1, (getSpec (tkS (tkS (tkS (tkS (s, false) 1) 6) 4) 6).1 0 6).1, 0, 0, 0⟩,
      tkS (tkS (tkS (tkS (tkS (s, false) 1) 6) 4) 6) 6)
  else if min (getSpec s 0 1).1 127 = 5 then
    (⟨min (getSpec s 0 1).1 127, (getSpec (tkS (s, false) 1).1 0 6).1, (getSpec (tkS (tkS (s, false) 1) 6).1 0 4).1, (getSpec (tkS (tkS (tkS (s, false) 1) 6) 4).1 0 6).1, 0, 0, 0, 0⟩, tkS (tkS (tkS (tkS (s, false) 1) 6) 4) 6)
  else (⟨min (getSpec s 0 1).1 127, (getSpec (tkS (s, false) 1).1 0 6).1, (getSpec (tkS (tkS (s, false) 1) 6).1 0 4).1, 0, 0, 0, 0, 0⟩, tkS (tkS (tkS (s, false) 1) 6) 4)

/-- Whether what was read stands. -/
def rdB (x : Cmd × (ByteArray × Bool)) : Bool := !((x.2.2 || !(x.2.1.toList == ByteArray.empty.toList)) || !(cmdB x.1))
def cmd0 : Cmd := ⟨0, 0, 0, 0, 0, 0, 0, 0⟩
def crdV (s : ByteArray) : Cmd := if rdB (rdPre s) = true then (rdPre s).1 else cmd0
def crdE (s : ByteArray) : Int := if rdB (rdPre s) = true then 0 else 100

theorem crd_no {s : ByteArray} {c : Cmd} {t : ByteArray × Bool} (hp : rdPre s = (c, t)) (h : ((t.2 || !(t.1.toList == ByteArray.empty.toList)) || !cmdB c) = true) : crdV s = cmd0 ∧ crdE s = 100 := by
  rw [crdV, crdE, hp, rdB, h]; exact ⟨rfl, rfl⟩

theorem crd_yes {s : ByteArray} {c : Cmd} {t : ByteArray × Bool} (hp : rdPre s = (c, t)) (h : ((t.2 || !(t.1.toList == ByteArray.empty.toList)) || !cmdB c) = false) : crdV s = c ∧ crdE s = 0 := by
  rw [crdV, crdE, hp, rdB, h]; exact ⟨rfl, rfl⟩

theorem cmdRead_c (s : ByteArray) (hs : s.size ≤ maxLen) (w : World) : Calls Try.prog 17 #[S s] w fun e w' => e = .returned (.tuple #[(crdV s).val, I (crdE s)]) ∧ Below w.heap.size w w' := by
  have hle1 := tkS_size (s, false) 1
  have hn1 := getSpec_nonneg s 0 1
  obtain ⟨t1, ht1⟩ : ∃ t, tkS (s, false) 1 = t := ⟨_, rfl⟩
  rw [ht1] at hle1
  have hle2 := tkS_size t1 6
  obtain ⟨t2, ht2⟩ : ∃ t, tkS t1 6 = t := ⟨_, rfl⟩
  rw [ht2] at hle2
  have hle3 := tkS_size t2 4
  obtain ⟨t3, ht3⟩ : ∃ t, tkS t2 4 = t := ⟨_, rfl⟩
  rw [ht3] at hle3
  dsimp only at hle1
  obtain ⟨n1, hn⟩ : ∃ n, (getSpec s 0 1).1 = n := ⟨_, rfl⟩
  refine enter (E := E0) (O := []) (nl := 0) (V := vw w) [.a (.v (S s))] Try.func17 rfl rfl (mem0 E0 0 w) rfl rfl ?_
  refine c_seq ?_
  refine c_region ?_
  refine o_new tok rfl rfl rfl rfl ?_
  refine o_yield rfl rfl rfl (y_val tok rfl) ?_
  refine o_end [0, 2] rfl ?_
  refine x_then ?_
  refine c_seq ?_
  refine c_region ?_
  refine o_yield rfl rfl rfl (y_val tok rfl) ?_
  refine o_yield rfl rfl rfl (y_val tok rfl) ?_
  refine o_new tok rfl rfl rfl rfl ?_
  refine o_yield rfl rfl rfl (y_val tok rfl) ?_
  refine o_end [2, 4] rfl ?_
  refine x_then ?_
  refine c_seq ?_
  refine c_region ?_
  refine o_yield rfl rfl rfl (y_val tok rfl) ?_
  refine o_step rfl rfl rfl rfl rfl (s_take 1 (s, false) 1 1 rfl t1 ht1 _ rfl (fun E => rfl) rfl hs (by omega)) (fun _ _ => ?_)
  refine o_yield rfl rfl rfl (y_val tok rfl) ?_
  refine o_end [2, 4, 5] rfl ?_
  refine x_then ?_
  refine c_seq ?_
  refine c_region ?_
  refine o_yield rfl rfl rfl (y_val tok rfl) ?_
  obtain ⟨K, hK⟩ : ∃ K, min n1 127 = K := ⟨_, rfl⟩
  have hk8 : IntKind.i8.wrap K = K := wrapI8 (by omega) (by omega)
  rw [hn]
  refine o_yield rfl rfl rfl (y_mm rfl) ?_
  refine o_yield rfl rfl rfl (y_val tok rfl) ?_
  refine o_yield rfl rfl rfl (y_val tok rfl) ?_
  rw [show (bif false then max n1 127 else min n1 127) = K from hK, hk8]
  refine o_step rfl rfl rfl rfl rfl (s_take 1 t1 6 6 rfl t2 ht2 _ rfl (fun E => rfl) rfl (by omega) (by omega)) (fun _ _ => ?_)
  refine o_yield rfl rfl rfl (y_val tok rfl) ?_
  refine o_step rfl rfl rfl rfl rfl (s_take 1 t2 4 4 rfl t3 ht3 _ rfl (fun E => rfl) rfl (by omega) (by omega)) (fun _ _ => ?_)
  refine o_yield rfl rfl rfl (y_val tok rfl) ?_
  refine o_new tok rfl rfl rfl rfl ?_
  refine o_store tok rfl rfl rfl (by first | exact ⟨trivial, trivial⟩ | (repeat' first | exact trivial | exact rfl | apply And.intro); done | simp [onesP, oneP, lk, Value.oneCell']) ?_
  refine o_end [2, 4, 6] rfl ?_
  refine x_then ?_
  refine c_seq ?_
  refine c_seq ?_
  refine c_region ?_
  refine o_yield rfl rfl rfl (y_val tok rfl) ?_
  refine o_yield rfl rfl rfl (y_val tok rfl) ?_
  refine o_end [2, 4, 6, 21] rfl ?_
  refine x_then ?_
  refine c_block ?_
  refine c_seq ?_
  refine c_seq ?_
  refine c_region ?_
  refine o_yield rfl rfl rfl (y_val tok rfl) ?_
  refine o_yield rfl rfl rfl (y_val tok rfl) ?_
  refine o_end [2, 4, 6, 21, 22] rfl ?_
  refine x_then ?_
  refine c_cond rfl (fun h => ?_) (fun h => ?_)
  ·
    refine c_skip ?_
    refine x_then ?_
    refine c_cond rfl (fun h2 => ?_) (fun h2 => ?_)
    ·
      refine c_seq ?_
      refine c_region ?_
      refine o_yield rfl rfl rfl (y_val tok rfl) ?_
      have e : K = 2 := by simpa using h2
      have hlet4 := tkS_size t3 1
      obtain ⟨t4, ht4⟩ : ∃ t, tkS t3 1 = t := ⟨_, rfl⟩
      rw [ht4] at hlet4
      refine o_step rfl rfl rfl rfl rfl (s_take 1 t3 1 1 rfl t4 ht4 _ rfl (fun E => rfl) rfl (by omega) (by omega)) (fun _ _ => ?_)
      refine o_yield rfl rfl rfl (y_val tok rfl) ?_
      have hlet5 := tkS_size t4 1
      obtain ⟨t5, ht5⟩ : ∃ t, tkS t4 1 = t := ⟨_, rfl⟩
      rw [ht5] at hlet5
      refine o_step rfl rfl rfl rfl rfl (s_take 1 t4 1 1 rfl t5 ht5 _ rfl (fun E => rfl) rfl (by omega) (by omega)) (fun _ _ => ?_)
      refine o_yield rfl rfl rfl (y_val tok rfl) ?_
      refine o_yield rfl rfl rfl (y_val tok rfl) ?_
      refine o_store tok rfl rfl rfl (by first | exact ⟨trivial, trivial⟩ | (repeat' first | exact trivial | exact rfl | apply And.intro); done | simp [onesP, oneP, lk, Value.oneCell']) ?_
      refine o_yield rfl rfl rfl (y_val tok rfl) ?_
      refine o_yield rfl rfl rfl (y_val tok rfl) ?_
      refine o_store tok rfl rfl rfl (by first | exact ⟨trivial, trivial⟩ | (repeat' first | exact trivial | exact rfl | apply And.intro); done | simp [onesP, oneP, lk, Value.oneCell']) ?_
      refine o_end [2, 4, 6] rfl ?_
      refine x_then ?_
      refine c_seq ?_
      refine c_region ?_
      refine o_yield rfl rfl rfl (y_val tok rfl) ?_
      refine o_yield rfl rfl rfl (y_val tok rfl) ?_
      refine o_yield rfl rfl rfl (y_val tok rfl) ?_
      refine o_end [2, 4, 6, 35] rfl ?_
      refine x_then ?_
      refine c_cond rfl (fun h => ?_) (fun h => ?_)
      ·
        refine c_region ?_
        refine o_yield rfl rfl rfl (y_val tok rfl) ?_
        obtain ⟨m, hmv⟩ : ∃ m, (getSpec t5.1 0 1).1 = m := ⟨_, rfl⟩
        have hm1 := getSpec_nonneg t5.1 0 1
        rw [hmv] at hm1
        obtain ⟨M, hM⟩ : ∃ M, min m 127 = M := ⟨_, rfl⟩
        have hm8 : IntKind.i8.wrap M = M := wrapI8 (by omega) (by omega)
        have hlet6 := tkS_size t5 1
        obtain ⟨t6, ht6⟩ : ∃ t, tkS t5 1 = t := ⟨_, rfl⟩
        rw [ht6] at hlet6
        refine o_step rfl rfl rfl rfl rfl (s_take 1 t5 1 1 rfl t6 ht6 _ rfl (fun E => rfl) rfl (by omega) (by omega)) (fun _ _ => ?_)
        rw [hmv]
        refine o_yield rfl rfl rfl (y_mm rfl) ?_
        refine o_yield rfl rfl rfl (y_val tok rfl) ?_
        refine o_yield rfl rfl rfl (y_val tok rfl) ?_
        refine o_store tok rfl rfl rfl (by first | exact ⟨trivial, trivial⟩ | (repeat' first | exact trivial | exact rfl | apply And.intro); done | simp [onesP, oneP, lk, Value.oneCell']) ?_
        refine o_end [2, 4, 6] rfl ?_
        refine x_block ?_
        refine x_then ?_
        refine c_seq ?_
        refine c_seq ?_
        refine c_region ?_
        refine o_yield rfl rfl rfl (y_val tok rfl) ?_
        refine o_yield rfl rfl rfl (y_val tok rfl) ?_
        refine o_yield rfl rfl rfl (y_val tok rfl) ?_
        refine o_yield rfl rfl rfl (y_val tok rfl) ?_
        refine o_yield rfl rfl rfl (y_val tok rfl) ?_
        refine o_yield rfl rfl rfl (y_val tok rfl) ?_
        refine o_yield rfl rfl rfl (y_val tok rfl) ?_
        refine o_yield rfl rfl rfl (y_val tok rfl) ?_
        refine o_yield rfl rfl rfl (y_val tok rfl) ?_
        refine o_yield rfl rfl rfl (y_val tok rfl) ?_
        refine o_yield rfl rfl rfl (y_val tok rfl) ?_
        refine o_yield rfl rfl rfl (y_val tok rfl) ?_
        refine o_yield rfl rfl rfl (y_val tok rfl) ?_
        rw [show (bif false then max m 127 else min m 127) = M from hM, hm8]
        refine o_call (.a (.v _)) rfl rfl fnok29 rfl rfl rfl (fun hg E w1 hm => by exact cmdMay_c ⟨K, (getSpec t1.1 0 6).1, (getSpec t2.1 0 4).1, 0, 0, (getSpec t3.1 0 1).1, (getSpec t4.1 0 1).1, M⟩ _) ?_
        refine o_yield rfl rfl rfl (y_val tok rfl) ?_
        refine o_yield rfl rfl rfl (y_val tok rfl) ?_
        refine o_end [2, 6, 68] rfl ?_
        refine x_then ?_
        refine c_cond rfl (fun h => ?_) (fun h => ?_)
        ·
          refine c_seq ?_
          refine c_region ?_
          refine o_yield rfl rfl rfl (y_val tok rfl) ?_
          refine o_store tok rfl rfl rfl (by first | exact ⟨trivial, trivial⟩ | (repeat' first | exact trivial | exact rfl | apply And.intro); done | simp [onesP, oneP, lk, Value.oneCell']) ?_
          refine o_yield rfl rfl rfl (y_val tok rfl) ?_
          refine o_end [2, 3] rfl ?_
          refine x_then ?_
          refine c_ret ?_
          refine x_then_ret ?_
          refine b_ret tok rfl ?_
          intro E w' hm _
          refine ⟨?_, hm.below (Vw.le.refl _)⟩
          obtain ⟨r1, r2⟩ := crd_no (s := s) (c := ⟨K, (getSpec t1.1 0 6).1, (getSpec t2.1 0 4).1, 0, 0, (getSpec t3.1 0 1).1, (getSpec t4.1 0 1).1, M⟩) (t := t6) (by rw [rdPre, hn, hK, if_pos e, ht1, ht2, ht3, ht4, ht5, hmv, hM, ht6]) h
          rw [r1, r2]; rfl
        ·
          refine c_skip ?_
          refine x_then ?_
          refine c_seq ?_
          refine c_region ?_
          refine o_yield rfl rfl rfl (y_val tok rfl) ?_
          refine o_store tok rfl rfl rfl (by first | exact ⟨trivial, trivial⟩ | (repeat' first | exact trivial | exact rfl | apply And.intro); done | simp [onesP, oneP, lk, Value.oneCell']) ?_
          refine o_yield rfl rfl rfl (y_val tok rfl) ?_
          refine o_end [2, 3] rfl ?_
          refine x_then ?_
          refine c_ret ?_
          refine b_ret tok rfl ?_
          intro E w' hm _
          refine ⟨?_, hm.below (Vw.le.refl _)⟩
          obtain ⟨r1, r2⟩ := crd_yes (s := s) (c := ⟨K, (getSpec t1.1 0 6).1, (getSpec t2.1 0 4).1, 0, 0, (getSpec t3.1 0 1).1, (getSpec t4.1 0 1).1, M⟩) (t := t6) (by rw [rdPre, hn, hK, if_pos e, ht1, ht2, ht3, ht4, ht5, hmv, hM, ht6]) h
          rw [r1, r2]; rfl
      ·
        exact absurd (h.symm.trans h2) (by decide)
    ·
      exact absurd (h.symm.trans h2) (by decide)
  ·
    refine c_region ?_
    refine o_yield rfl rfl rfl (y_val tok rfl) ?_
    refine o_yield rfl rfl rfl (y_val tok rfl) ?_
    refine o_end [2, 4, 6, 21, 22] rfl ?_
    refine x_then ?_
    refine c_cond rfl (fun h2 => ?_) (fun h2 => ?_)
    ·
      refine c_seq ?_
      refine c_region ?_
      refine o_yield rfl rfl rfl (y_val tok rfl) ?_
      have e : K = 3 := by simpa using h2
      have hlet4 := tkS_size t3 1
      obtain ⟨t4, ht4⟩ : ∃ t, tkS t3 1 = t := ⟨_, rfl⟩
      rw [ht4] at hlet4
      refine o_step rfl rfl rfl rfl rfl (s_take 1 t3 1 1 rfl t4 ht4 _ rfl (fun E => rfl) rfl (by omega) (by omega)) (fun _ _ => ?_)
      refine o_yield rfl rfl rfl (y_val tok rfl) ?_
      have hlet5 := tkS_size t4 1
      obtain ⟨t5, ht5⟩ : ∃ t, tkS t4 1 = t := ⟨_, rfl⟩
      rw [ht5] at hlet5
      refine o_step rfl rfl rfl rfl rfl (s_take 1 t4 1 1 rfl t5 ht5 _ rfl (fun E => rfl) rfl (by omega) (by omega)) (fun _ _ => ?_)
      refine o_yield rfl rfl rfl (y_val tok rfl) ?_
      refine o_yield rfl rfl rfl (y_val tok rfl) ?_
      refine o_store tok rfl rfl rfl (by first | exact ⟨trivial, trivial⟩ | (repeat' first | exact trivial | exact rfl | apply And.intro); done | simp [onesP, oneP, lk, Value.oneCell']) ?_
      refine o_yield rfl rfl rfl (y_val tok rfl) ?_
      refine o_yield rfl rfl rfl (y_val tok rfl) ?_
      refine o_store tok rfl rfl rfl (by first | exact ⟨trivial, trivial⟩ | (repeat' first | exact trivial | exact rfl | apply And.intro); done | simp [onesP, oneP, lk, Value.oneCell']) ?_
      refine o_end [2, 4, 6] rfl ?_
      refine x_then ?_
      refine c_seq ?_
      refine c_region ?_
      refine o_yield rfl rfl rfl (y_val tok rfl) ?_
      refine o_yield rfl rfl rfl (y_val tok rfl) ?_
      refine o_yield rfl rfl rfl (y_val tok rfl) ?_
      refine o_end [2, 4, 6, 35] rfl ?_
      refine x_then ?_
      refine c_cond rfl (fun h => ?_) (fun h => ?_)
      ·
        rw [e] at h; cases h
      ·
        refine c_skip ?_
        refine x_block ?_
        refine x_then ?_
        refine c_seq ?_
        refine c_seq ?_
        refine c_region ?_
        refine o_yield rfl rfl rfl (y_val tok rfl) ?_
        refine o_yield rfl rfl rfl (y_val tok rfl) ?_
        refine o_yield rfl rfl rfl (y_val tok rfl) ?_
        refine o_yield rfl rfl rfl (y_val tok rfl) ?_
        refine o_yield rfl rfl rfl (y_val tok rfl) ?_
        refine o_yield rfl rfl rfl (y_val tok rfl) ?_
        refine o_yield rfl rfl rfl (y_val tok rfl) ?_
        refine o_yield rfl rfl rfl (y_val tok rfl) ?_
        refine o_yield rfl rfl rfl (y_val tok rfl) ?_
        refine o_yield rfl rfl rfl (y_val tok rfl) ?_
        refine o_yield rfl rfl rfl (y_val tok rfl) ?_
        refine o_yield rfl rfl rfl (y_val tok rfl) ?_
        refine o_yield rfl rfl rfl (y_val tok rfl) ?_
        refine o_call (.a (.v _)) rfl rfl fnok29 rfl rfl rfl (fun hg E w1 hm => by exact cmdMay_c ⟨K, (getSpec t1.1 0 6).1, (getSpec t2.1 0 4).1, 0, 0, (getSpec t3.1 0 1).1, (getSpec t4.1 0 1).1, 0⟩ _) ?_
        refine o_yield rfl rfl rfl (y_val tok rfl) ?_
        refine o_yield rfl rfl rfl (y_val tok rfl) ?_
        refine o_end [2, 6, 68] rfl ?_
        refine x_then ?_
        refine c_cond rfl (fun h => ?_) (fun h => ?_)
        ·
          refine c_seq ?_
          refine c_region ?_
          refine o_yield rfl rfl rfl (y_val tok rfl) ?_
          refine o_store tok rfl rfl rfl (by first | exact ⟨trivial, trivial⟩ | (repeat' first | exact trivial | exact rfl | apply And.intro); done | simp [onesP, oneP, lk, Value.oneCell']) ?_
          refine o_yield rfl rfl rfl (y_val tok rfl) ?_
          refine o_end [2, 3] rfl ?_
          refine x_then ?_
          refine c_ret ?_
          refine x_then_ret ?_
          refine b_ret tok rfl ?_
          intro E w' hm _
          refine ⟨?_, hm.below (Vw.le.refl _)⟩
          obtain ⟨r1, r2⟩ := crd_no (s := s) (c := ⟨K, (getSpec t1.1 0 6).1, (getSpec t2.1 0 4).1, 0, 0, (getSpec t3.1 0 1).1, (getSpec t4.1 0 1).1, 0⟩) (t := t5) (by rw [rdPre, hn, hK, if_neg (by omega), if_pos e, ht1, ht2, ht3, ht4, ht5]) h
          rw [r1, r2]; rfl
        ·
          refine c_skip ?_
          refine x_then ?_
          refine c_seq ?_
          refine c_region ?_
          refine o_yield rfl rfl rfl (y_val tok rfl) ?_
          refine o_store tok rfl rfl rfl (by first | exact ⟨trivial, trivial⟩ | (repeat' first | exact trivial | exact rfl | apply And.intro); done | simp [onesP, oneP, lk, Value.oneCell']) ?_
          refine o_yield rfl rfl rfl (y_val tok rfl) ?_
          refine o_end [2, 3] rfl ?_
          refine x_then ?_
          refine c_ret ?_
          refine b_ret tok rfl ?_
          intro E w' hm _
          refine ⟨?_, hm.below (Vw.le.refl _)⟩
          obtain ⟨r1, r2⟩ := crd_yes (s := s) (c := ⟨K, (getSpec t1.1 0 6).1, (getSpec t2.1 0 4).1, 0, 0, (getSpec t3.1 0 1).1, (getSpec t4.1 0 1).1, 0⟩) (t := t5) (by rw [rdPre, hn, hK, if_neg (by omega), if_pos e, ht1, ht2, ht3, ht4, ht5]) h
          rw [r1, r2]; rfl
    ·
      refine c_seq ?_
      refine c_seq ?_
      refine c_region ?_
      refine o_yield rfl rfl rfl (y_val tok rfl) ?_
      refine o_yield rfl rfl rfl (y_val tok rfl) ?_
      refine o_end [2, 4, 6, 21, 41] rfl ?_
      refine x_then ?_
      refine c_cond rfl (fun h4 => ?_) (fun h4 => ?_)
      ·
        refine c_skip ?_
        refine x_then ?_
        refine c_cond rfl (fun h5 => ?_) (fun h5 => ?_)
        ·
          refine c_seq ?_
          refine c_region ?_
          refine o_yield rfl rfl rfl (y_val tok rfl) ?_
          have f2 : ¬ K = 2 := by simpa using h
          have f3 : ¬ K = 3 := by simpa using h2
          have e : K = 4 := by simpa using h4
          have hlet4 := tkS_size t3 6
          obtain ⟨t4, ht4⟩ : ∃ t, tkS t3 6 = t := ⟨_, rfl⟩
          rw [ht4] at hlet4
          refine o_step rfl rfl rfl rfl rfl (s_take 1 t3 6 6 rfl t4 ht4 _ rfl (fun E => rfl) rfl (by omega) (by omega)) (fun _ _ => ?_)
          refine o_yield rfl rfl rfl (y_val tok rfl) ?_
          refine o_store tok rfl rfl rfl (by first | exact ⟨trivial, trivial⟩ | (repeat' first | exact trivial | exact rfl | apply And.intro); done | simp [onesP, oneP, lk, Value.oneCell']) ?_
          refine o_end [2, 4, 6] rfl ?_
          refine x_then ?_
          refine c_seq ?_
          refine c_region ?_
          refine o_yield rfl rfl rfl (y_val tok rfl) ?_
          refine o_yield rfl rfl rfl (y_val tok rfl) ?_
          refine o_yield rfl rfl rfl (y_val tok rfl) ?_
          refine o_end [2, 4, 6, 49] rfl ?_
          refine x_then ?_
          refine c_cond rfl (fun h => ?_) (fun h => ?_)
          ·
            refine c_region ?_
            refine o_yield rfl rfl rfl (y_val tok rfl) ?_
            have hlet5 := tkS_size t4 6
            obtain ⟨t5, ht5⟩ : ∃ t, tkS t4 6 = t := ⟨_, rfl⟩
            rw [ht5] at hlet5
            refine o_step rfl rfl rfl rfl rfl (s_take 1 t4 6 6 rfl t5 ht5 _ rfl (fun E => rfl) rfl (by omega) (by omega)) (fun _ _ => ?_)
            refine o_yield rfl rfl rfl (y_val tok rfl) ?_
            refine o_store tok rfl rfl rfl (by first | exact ⟨trivial, trivial⟩ | (repeat' first | exact trivial | exact rfl | apply And.intro); done | simp [onesP, oneP, lk, Value.oneCell']) ?_
            refine o_end [2, 4, 6] rfl ?_
            refine x_block ?_
            refine x_then ?_
            refine c_seq ?_
            refine c_seq ?_
            refine c_region ?_
            refine o_yield rfl rfl rfl (y_val tok rfl) ?_
            refine o_yield rfl rfl rfl (y_val tok rfl) ?_
            refine o_yield rfl rfl rfl (y_val tok rfl) ?_
            refine o_yield rfl rfl rfl (y_val tok rfl) ?_
            refine o_yield rfl rfl rfl (y_val tok rfl) ?_
            refine o_yield rfl rfl rfl (y_val tok rfl) ?_
            refine o_yield rfl rfl rfl (y_val tok rfl) ?_
            refine o_yield rfl rfl rfl (y_val tok rfl) ?_
            refine o_yield rfl rfl rfl (y_val tok rfl) ?_
            refine o_yield rfl rfl rfl (y_val tok rfl) ?_
            refine o_yield rfl rfl rfl (y_val tok rfl) ?_
            refine o_yield rfl rfl rfl (y_val tok rfl) ?_
            refine o_yield rfl rfl rfl (y_val tok rfl) ?_
            refine o_call (.a (.v _)) rfl rfl fnok29 rfl rfl rfl (fun hg E w1 hm => by exact cmdMay_c ⟨K, (getSpec t1.1 0 6).1, (getSpec t2.1 0 4).1, (getSpec t3.1 0 6).1, (getSpec t4.1 0 6).1, 0, 0, 0⟩ _) ?_
            refine o_yield rfl rfl rfl (y_val tok rfl) ?_
            refine o_yield rfl rfl rfl (y_val tok rfl) ?_
            refine o_end [2, 6, 68] rfl ?_
            refine x_then ?_
            refine c_cond rfl (fun h => ?_) (fun h => ?_)
            ·
              refine c_seq ?_
              refine c_region ?_
              refine o_yield rfl rfl rfl (y_val tok rfl) ?_
              refine o_store tok rfl rfl rfl (by first | exact ⟨trivial, trivial⟩ | (repeat' first | exact trivial | exact rfl | apply And.intro); done | simp [onesP, oneP, lk, Value.oneCell']) ?_
              refine o_yield rfl rfl rfl (y_val tok rfl) ?_
              refine o_end [2, 3] rfl ?_
              refine x_then ?_
              refine c_ret ?_
              refine x_then_ret ?_
              refine b_ret tok rfl ?_
              intro E w' hm _
              refine ⟨?_, hm.below (Vw.le.refl _)⟩
              obtain ⟨r1, r2⟩ := crd_no (s := s) (c := ⟨K, (getSpec t1.1 0 6).1, (getSpec t2.1 0 4).1, (getSpec t3.1 0 6).1, (getSpec t4.1 0 6).1, 0, 0, 0⟩) (t := t5) (by rw [rdPre, hn, hK, if_neg f2, if_neg f3, if_pos e, ht1, ht2, ht3, ht4, ht5]) h
              rw [r1, r2]; rfl
            ·
              refine c_skip ?_
              refine x_then ?_
              refine c_seq ?_
              refine c_region ?_
              refine o_yield rfl rfl rfl (y_val tok rfl) ?_
              refine o_store tok rfl rfl rfl (by first | exact ⟨trivial, trivial⟩ | (repeat' first | exact trivial | exact rfl | apply And.intro); done | simp [onesP, oneP, lk, Value.oneCell']) ?_
              refine o_yield rfl rfl rfl (y_val tok rfl) ?_
              refine o_end [2, 3] rfl ?_
              refine x_then ?_
              refine c_ret ?_
              refine b_ret tok rfl ?_
              intro E w' hm _
              refine ⟨?_, hm.below (Vw.le.refl _)⟩
              obtain ⟨r1, r2⟩ := crd_yes (s := s) (c := ⟨K, (getSpec t1.1 0 6).1, (getSpec t2.1 0 4).1, (getSpec t3.1 0 6).1, (getSpec t4.1 0 6).1, 0, 0, 0⟩) (t := t5) (by rw [rdPre, hn, hK, if_neg f2, if_neg f3, if_pos e, ht1, ht2, ht3, ht4, ht5]) h
              rw [r1, r2]; rfl
          ·
            exact absurd (h.symm.trans h4) (by decide)
        ·
          exact absurd (h5.symm.trans h4) (by decide)
      ·
        refine c_region ?_
        refine o_yield rfl rfl rfl (y_val tok rfl) ?_
        refine o_yield rfl rfl rfl (y_val tok rfl) ?_
        refine o_end [2, 4, 6, 41] rfl ?_
        refine x_then ?_
        refine c_cond rfl (fun h5 => ?_) (fun h5 => ?_)
        ·
          refine c_seq ?_
          refine c_region ?_
          refine o_yield rfl rfl rfl (y_val tok rfl) ?_
          have f2 : ¬ K = 2 := by simpa using h
          have f3 : ¬ K = 3 := by simpa using h2
          have e : K = 5 := by simpa using h5
          have hlet4 := tkS_size t3 6
          obtain ⟨t4, ht4⟩ : ∃ t, tkS t3 6 = t := ⟨_, rfl⟩
          rw [ht4] at hlet4
          refine o_step rfl rfl rfl rfl rfl (s_take 1 t3 6 6 rfl t4 ht4 _ rfl (fun E => rfl) rfl (by omega) (by omega)) (fun _ _ => ?_)
          refine o_yield rfl rfl rfl (y_val tok rfl) ?_
          refine o_store tok rfl rfl rfl (by first | exact ⟨trivial, trivial⟩ | (repeat' first | exact trivial | exact rfl | apply And.intro); done | simp [onesP, oneP, lk, Value.oneCell']) ?_
          refine o_end [2, 4, 6] rfl ?_
          refine x_then ?_
          refine c_seq ?_
          refine c_region ?_
          refine o_yield rfl rfl rfl (y_val tok rfl) ?_
          refine o_yield rfl rfl rfl (y_val tok rfl) ?_
          refine o_yield rfl rfl rfl (y_val tok rfl) ?_
          refine o_end [2, 4, 6, 49] rfl ?_
          refine x_then ?_
          refine c_cond rfl (fun h => ?_) (fun h => ?_)
          ·
            rw [e] at h; cases h
          ·
            refine c_skip ?_
            refine x_block ?_
            refine x_then ?_
            refine c_seq ?_
            refine c_seq ?_
            refine c_region ?_
            refine o_yield rfl rfl rfl (y_val tok rfl) ?_
            refine o_yield rfl rfl rfl (y_val tok rfl) ?_
            refine o_yield rfl rfl rfl (y_val tok rfl) ?_
            refine o_yield rfl rfl rfl (y_val tok rfl) ?_
            refine o_yield rfl rfl rfl (y_val tok rfl) ?_
            refine o_yield rfl rfl rfl (y_val tok rfl) ?_
            refine o_yield rfl rfl rfl (y_val tok rfl) ?_
            refine o_yield rfl rfl rfl (y_val tok rfl) ?_
            refine o_yield rfl rfl rfl (y_val tok rfl) ?_
            refine o_yield rfl rfl rfl (y_val tok rfl) ?_
            refine o_yield rfl rfl rfl (y_val tok rfl) ?_
            refine o_yield rfl rfl rfl (y_val tok rfl) ?_
            refine o_yield rfl rfl rfl (y_val tok rfl) ?_
            refine o_call (.a (.v _)) rfl rfl fnok29 rfl rfl rfl (fun hg E w1 hm => by exact cmdMay_c ⟨K, (getSpec t1.1 0 6).1, (getSpec t2.1 0 4).1, (getSpec t3.1 0 6).1, 0, 0, 0, 0⟩ _) ?_
            refine o_yield rfl rfl rfl (y_val tok rfl) ?_
            refine o_yield rfl rfl rfl (y_val tok rfl) ?_
            refine o_end [2, 6, 68] rfl ?_
            refine x_then ?_
            refine c_cond rfl (fun h => ?_) (fun h => ?_)
            ·
              refine c_seq ?_
              refine c_region ?_
              refine o_yield rfl rfl rfl (y_val tok rfl) ?_
              refine o_store tok rfl rfl rfl (by first | exact ⟨trivial, trivial⟩ | (repeat' first | exact trivial | exact rfl | apply And.intro); done | simp [onesP, oneP, lk, Value.oneCell']) ?_
              refine o_yield rfl rfl rfl (y_val tok rfl) ?_
              refine o_end [2, 3] rfl ?_
              refine x_then ?_
              refine c_ret ?_
              refine x_then_ret ?_
              refine b_ret tok rfl ?_
              intro E w' hm _
              refine ⟨?_, hm.below (Vw.le.refl _)⟩
              obtain ⟨r1, r2⟩ := crd_no (s := s) (c := ⟨K, (getSpec t1.1 0 6).1, (getSpec t2.1 0 4).1, (getSpec t3.1 0 6).1, 0, 0, 0, 0⟩) (t := t4) (by rw [rdPre, hn, hK, if_neg f2, if_neg f3, if_neg (by omega), if_pos e, ht1, ht2, ht3, ht4]) h
              rw [r1, r2]; rfl
            ·
              refine c_skip ?_
              refine x_then ?_
              refine c_seq ?_
              refine c_region ?_
              refine o_yield rfl rfl rfl (y_val tok rfl) ?_
              refine o_store tok rfl rfl rfl (by first | exact ⟨trivial, trivial⟩ | (repeat' first | exact trivial | exact rfl | apply And.intro); done | simp [onesP, oneP, lk, Value.oneCell']) ?_
              refine o_yield rfl rfl rfl (y_val tok rfl) ?_
              refine o_end [2, 3] rfl ?_
              refine x_then ?_
              refine c_ret ?_
              refine b_ret tok rfl ?_
              intro E w' hm _
              refine ⟨?_, hm.below (Vw.le.refl _)⟩
              obtain ⟨r1, r2⟩ := crd_yes (s := s) (c := ⟨K, (getSpec t1.1 0 6).1, (getSpec t2.1 0 4).1, (getSpec t3.1 0 6).1, 0, 0, 0, 0⟩) (t := t4) (by rw [rdPre, hn, hK, if_neg f2, if_neg f3, if_neg (by omega), if_pos e, ht1, ht2, ht3, ht4]) h
              rw [r1, r2]; rfl
        ·
          refine c_skip ?_
          refine x_block ?_
          refine x_then ?_
          refine c_seq ?_
          refine c_seq ?_
          refine c_region ?_
          refine o_yield rfl rfl rfl (y_val tok rfl) ?_
          refine o_yield rfl rfl rfl (y_val tok rfl) ?_
          refine o_yield rfl rfl rfl (y_val tok rfl) ?_
          refine o_yield rfl rfl rfl (y_val tok rfl) ?_
          refine o_yield rfl rfl rfl (y_val tok rfl) ?_
          refine o_yield rfl rfl rfl (y_val tok rfl) ?_
          refine o_yield rfl rfl rfl (y_val tok rfl) ?_
          refine o_yield rfl rfl rfl (y_val tok rfl) ?_
          refine o_yield rfl rfl rfl (y_val tok rfl) ?_
          refine o_yield rfl rfl rfl (y_val tok rfl) ?_
          refine o_yield rfl rfl rfl (y_val tok rfl) ?_
          refine o_yield rfl rfl rfl (y_val tok rfl) ?_
          refine o_yield rfl rfl rfl (y_val tok rfl) ?_
          have f2 : ¬ K = 2 := by simpa using h
          have f3 : ¬ K = 3 := by simpa using h2
          have f4 : ¬ K = 4 := by simpa using h4
          have f5 : ¬ K = 5 := by simpa using h5
          refine o_call (.a (.v _)) rfl rfl fnok29 rfl rfl rfl (fun hg E w1 hm => by exact cmdMay_c ⟨K, (getSpec t1.1 0 6).1, (getSpec t2.1 0 4).1, 0, 0, 0, 0, 0⟩ _) ?_
          refine o_yield rfl rfl rfl (y_val tok rfl) ?_
          refine o_yield rfl rfl rfl (y_val tok rfl) ?_
          refine o_end [2, 6, 68] rfl ?_
          refine x_then ?_
          refine c_cond rfl (fun h => ?_) (fun h => ?_)
          ·
            refine c_seq ?_
            refine c_region ?_
            refine o_yield rfl rfl rfl (y_val tok rfl) ?_
            refine o_store tok rfl rfl rfl (by first | exact ⟨trivial, trivial⟩ | (repeat' first | exact trivial | exact rfl | apply And.intro); done | simp [onesP, oneP, lk, Value.oneCell']) ?_
            refine o_yield rfl rfl rfl (y_val tok rfl) ?_
            refine o_end [2, 3] rfl ?_
            refine x_then ?_
            refine c_ret ?_
            refine x_then_ret ?_
            refine b_ret tok rfl ?_
            intro E w' hm _
            refine ⟨?_, hm.below (Vw.le.refl _)⟩
            obtain ⟨r1, r2⟩ := crd_no (s := s) (c := ⟨K, (getSpec t1.1 0 6).1, (getSpec t2.1 0 4).1, 0, 0, 0, 0, 0⟩) (t := t3) (by rw [rdPre, hn, hK, if_neg f2, if_neg f3, if_neg f4, if_neg f5, ht1, ht2, ht3]) h
            rw [r1, r2]; rfl
          ·
            refine c_skip ?_
            refine x_then ?_
            refine c_seq ?_
            refine c_region ?_
            refine o_yield rfl rfl rfl (y_val tok rfl) ?_
            refine o_store tok rfl rfl rfl (by first | exact ⟨trivial, trivial⟩ | (repeat' first | exact trivial | exact rfl | apply And.intro); done | simp [onesP, oneP, lk, Value.oneCell']) ?_
            refine o_yield rfl rfl rfl (y_val tok rfl) ?_
            refine o_end [2, 3] rfl ?_
            refine x_then ?_
            refine c_ret ?_
            refine b_ret tok rfl ?_
            intro E w' hm _
            refine ⟨?_, hm.below (Vw.le.refl _)⟩
            obtain ⟨r1, r2⟩ := crd_yes (s := s) (c := ⟨K, (getSpec t1.1 0 6).1, (getSpec t2.1 0 4).1, 0, 0, 0, 0, 0⟩) (t := t3) (by rw [rdPre, hn, hK, if_neg f2, if_neg f3, if_neg f4, if_neg f5, ht1, ht2, ht3]) h
            rw [r1, r2]; rfl
end Go.Proofs.Ythmejhpfhkddiaa

/- Empty strings. -/
set_option linter.unusedVariables false
set_option maxRecDepth 100000
namespace Go.Proofs.Ythmejhpfhkddiaa
open Go Go.Eng Go.RowKit

theorem empty_beq (s : ByteArray) : (s.toList == ByteArray.empty.toList) = decide (s.size = 0) := by
  rw [str_beq, Bool.eq_iff_iff, decide_eq_true_eq, decide_eq_true_eq]
  constructor
  · intro h; rw [← size_list, h]; rfl
  · intro h; rw [size_zero h]

theorem cbV_pos {c : Cmd} (h : cmdB c = true) : cbV c = strOf (cmdL c) ∧ cbE c = 0 := by
  rw [cbV, cbE, if_pos h, if_pos h]; exact ⟨rfl, rfl⟩

end Go.Proofs.Ythmejhpfhkddiaa

/- Decided sectors: the program's. -/
set_option linter.unusedVariables false
set_option linter.unusedSimpArgs false
set_option maxRecDepth 100000
namespace Go.Proofs.Ythmejhpfhkddiaa
open Go Go.Eng Go.RowKit

def dbV (s : ByteArray) : ByteArray := if crdE s = 0 then (sealS 5 s).1 else ByteArray.empty
def dbE (s : ByteArray) : Int := if crdE s = 0 then (sealS 5 s).2 else 2

theorem decBytes_c (s : ByteArray) (hs : s.size ≤ maxLen) (w : World) : Calls Try.prog 7 #[S s] w fun e w' => e = .returned (.tuple #[S (dbV s), I (dbE s)]) ∧ Below w.heap.size w w' := by
  refine enter (E := E0) (O := []) (nl := 0) (V := vw w) [.a (.v (S s))] Try.func7 rfl rfl (mem0 E0 0 w) rfl rfl ?_
  refine c_seq ?_
  refine c_region ?_
  refine o_yield rfl rfl rfl (y_val tok rfl) ?_
  refine o_yield rfl rfl rfl (y_val tok rfl) ?_
  refine o_end [0] rfl ?_
  refine x_then ?_
  refine c_seq ?_
  refine c_seq ?_
  refine c_region ?_
  refine o_yield rfl rfl rfl (y_val tok rfl) ?_
  refine o_call (.a (.v _)) rfl rfl fnok17 rfl rfl rfl (fun hg E w1 hm => by exact cmdRead_c s hs _) ?_
  refine o_yield rfl rfl rfl (y_val tok rfl) ?_
  refine o_yield rfl rfl rfl (y_val tok rfl) ?_
  refine o_yield rfl rfl rfl (y_val tok rfl) ?_
  refine o_new tok rfl rfl rfl rfl ?_
  refine o_store tok rfl rfl rfl (by first | exact ⟨trivial, trivial⟩ | (repeat' first | exact trivial | exact rfl | apply And.intro); done | simp [onesP, oneP, lk, Value.oneCell']) ?_
  refine o_yield rfl rfl rfl (y_val tok rfl) ?_
  refine o_end [0, 5] rfl ?_
  refine x_then ?_
  refine c_seq ?_
  refine c_region ?_
  refine o_yield rfl rfl rfl (y_val tok rfl) ?_
  refine o_yield rfl rfl rfl (y_val tok rfl) ?_
  refine o_end [0, 12] rfl ?_
  refine x_then ?_
  refine c_cond rfl (fun h => ?_) (fun h => ?_)
  ·
    simp only [Bool.and_eq_true, Bool.or_eq_true, Bool.not_eq_true', Bool.or_eq_false_iff, Bool.and_eq_false_iff, decide_eq_true_eq, decide_eq_false_iff_not, beq_iff_eq, bne_iff_ne, Bool.not_eq_false', beq_eq_false_iff_ne, bne_eq_false_iff_eq, ne_eq, Decidable.not_not, Int.not_lt, Int.not_le] at h
    refine c_seq ?_
    refine c_region ?_
    refine o_yield rfl rfl rfl (y_val tok rfl) ?_
    refine o_yield rfl rfl rfl (y_val tok rfl) ?_
    refine o_end [2, 3] rfl ?_
    refine x_then ?_
    refine c_ret ?_
    refine x_then_ret ?_
    refine b_ret tok rfl ?_
    intro E w' hm _
    refine ⟨?_, hm.below (Vw.le.refl _)⟩
    rw [dbV, dbE, if_neg h, if_neg h]; rfl
  ·
    simp only [Bool.and_eq_true, Bool.or_eq_true, Bool.not_eq_true', Bool.or_eq_false_iff, Bool.and_eq_false_iff, decide_eq_true_eq, decide_eq_false_iff_not, beq_iff_eq, bne_iff_ne, Bool.not_eq_false', beq_eq_false_iff_ne, bne_eq_false_iff_eq, ne_eq, Decidable.not_not, Int.not_lt, Int.not_le] at h
    refine c_skip ?_
    refine x_then ?_
    refine c_seq ?_
    refine c_region ?_
    refine o_yield rfl rfl rfl (y_val tok rfl) ?_
    refine o_call (.a (.v _)) rfl rfl fnok18 rfl rfl rfl (fun hg E w1 hm => by exact sealSeal_c 5 (by unfold R8; omega) s hs _) ?_
    refine o_yield rfl rfl rfl (y_val tok rfl) ?_
    refine o_yield rfl rfl rfl (y_val tok rfl) ?_
    refine o_yield rfl rfl rfl (y_val tok rfl) ?_
    refine o_yield rfl rfl rfl (y_val tok rfl) ?_
    refine o_end [2, 3] rfl ?_
    refine x_then ?_
    refine c_ret ?_
    refine b_ret tok rfl ?_
    intro E w' hm _
    refine ⟨?_, hm.below (Vw.le.refl _)⟩
    rw [dbV, dbE, if_pos h, if_pos h]; rfl

/-- What reading a sector finds. -/
def drB (s : ByteArray) : Bool := !(s.toList == ByteArray.empty.toList) && (ofE 5 s == 0 && crdE (ofL 5 s) == 0)
def drC (s : ByteArray) : Cmd := if drB s = true then crdV (ofL 5 s) else cmd0
def drS (s : ByteArray) : ByteArray := if drB s = true then ofL 5 s else ByteArray.empty
def drE (s : ByteArray) : Int := if (s.toList == ByteArray.empty.toList) = true ∨ drB s = true then 0 else 50

abbrev readerC (c : Cmd) (s : ByteArray) (ok : Bool) (lv : Value) : List Value := c.cells ++ [S s, .bool ok, lv]
abbrev readerAs (c : Cmd) (s : ByteArray) (ok : Bool) (a : A) : List A := c.cells.map .v ++ [.v (S s), .v (.bool ok), a]

theorem ofL_size (k : Int) (s : ByteArray) (hs : s.size ≤ maxLen) : (ofL k s).size ≤ maxLen := by
  rw [ofL]
  split
  · rw [loadOf, ByteArray.size_extract]; omega
  · exact Nat.zero_le _

theorem dread_c (s : ByteArray) (hs : s.size ≤ maxLen) (c0 : Cmd) (s0 : ByteArray) (ok0 : Bool) (lv : Value) (b : Nat) (w : World) (hb : w.heap[b]? = some (.cells (readerC c0 s0 ok0 lv).toArray 89 (0, 0))) :
    Calls Try.prog 31 #[.pointer (some ⟨b, 0, none⟩), S s] w fun e w' => e = .returned (I (drE s)) ∧ Go.Eng.Touch (· = b) w w' ∧ w'.heap[b]? = some (.cells (readerC (drC s) (drS s) (drB s) lv).toArray 89 (0, 0)) := by
  have hos := ofL_size 5 s hs
  refine enter1 [.a (.ptr 0 0), .a (.v (S s))] hb Try.func31 rfl rfl rfl rfl ?_
  refine c_seq ?_
  refine c_region ?_
  refine o_yield rfl rfl rfl (y_val tok rfl) ?_
  refine o_end [0, 1] rfl ?_
  refine x_then ?_
  refine c_seq ?_
  refine c_region ?_
  refine o_yield rfl rfl rfl (y_val tok rfl) ?_
  refine o_yield rfl rfl rfl (y_val tok rfl) ?_
  refine o_yield rfl rfl rfl (y_val tok rfl) ?_
  refine o_yield rfl rfl rfl (y_val tok rfl) ?_
  refine o_store tok rfl rfl rfl (by first | exact ⟨trivial, trivial⟩ | (repeat' first | exact trivial | exact rfl | apply And.intro); done | simp [onesP, oneP, lk, Value.oneCell']) ?_
  refine o_end [0, 1] rfl ?_
  refine x_then ?_
  refine c_seq ?_
  refine c_seq ?_
  refine c_region ?_
  refine o_yield rfl rfl rfl (y_val tok rfl) ?_
  refine o_yield rfl rfl rfl (y_val tok rfl) ?_
  refine o_end [0, 1, 13] rfl ?_
  refine x_then ?_
  refine c_cond rfl (fun h => ?_) (fun h => ?_)
  ·
    refine c_seq ?_
    refine c_region ?_
    refine o_yield rfl rfl rfl (y_val tok rfl) ?_
    refine o_end [4] rfl ?_
    refine x_then ?_
    refine c_ret ?_
    refine x_then_ret ?_
    refine b_ret tok rfl ?_
    intro E w' hm _
    obtain ⟨h1, h2⟩ := back1 hm (Vw.le.refl _) rfl rfl rfl
    have hem : (s.toList == ByteArray.empty.toList) = true := h
    have hB : drB s = false := by rw [drB, hem]; rfl
    refine ⟨?_, h1, ?_⟩
    · rw [drE, if_pos (.inl hem)]; rfl
    · rw [h2, drC, drS, hB]; rfl
  ·
    refine c_skip ?_
    refine x_then ?_
    refine c_seq ?_
    refine c_region ?_
    refine o_yield rfl rfl rfl (y_val tok rfl) ?_
    have hem : (s.toList == ByteArray.empty.toList) = false := h
    have no : ∀ {x : Bool}, drB s = x → (ofE 5 s == 0 && crdE (ofL 5 s) == 0) = x := fun hx => by rw [drB, hem] at hx; simpa using hx
    clear h
    refine o_call (.a (.v _)) rfl rfl fnok41 rfl rfl rfl (fun hg E w1 hm => by exact sealOf_c 5 s hs _) ?_
    refine o_yield rfl rfl rfl (y_val tok rfl) ?_
    refine o_yield rfl rfl rfl (y_val tok rfl) ?_
    refine o_yield rfl rfl rfl (y_val tok rfl) ?_
    refine o_yield rfl rfl rfl (y_val tok rfl) ?_
    refine o_yield rfl rfl rfl (y_val tok rfl) ?_
    refine o_end [0, 5, 6] rfl ?_
    refine x_then ?_
    refine c_seq ?_
    refine c_seq ?_
    refine c_region ?_
    refine o_yield rfl rfl rfl (y_val tok rfl) ?_
    refine o_yield rfl rfl rfl (y_val tok rfl) ?_
    refine o_end [0, 5, 20] rfl ?_
    refine x_then ?_
    refine c_cond rfl (fun h => ?_) (fun h => ?_)
    ·
      simp only [Bool.and_eq_true, Bool.or_eq_true, Bool.not_eq_true', Bool.or_eq_false_iff, Bool.and_eq_false_iff, decide_eq_true_eq, decide_eq_false_iff_not, beq_iff_eq, bne_iff_ne, Bool.not_eq_false', beq_eq_false_iff_ne, bne_eq_false_iff_eq, ne_eq, Decidable.not_not, Int.not_lt, Int.not_le] at h
      refine c_seq ?_
      refine c_region ?_
      refine o_yield rfl rfl rfl (y_val tok rfl) ?_
      refine o_end [4] rfl ?_
      refine x_then ?_
      refine c_ret ?_
      refine x_then_ret ?_
      refine b_ret tok rfl ?_
      intro E w' hm _
      obtain ⟨h3, h4⟩ := back1 hm (Vw.le.refl _) rfl rfl rfl
      have hB : drB s = false := by rw [drB, hem]; simp [h]
      have hE : drE s = 50 := by rw [drE, if_neg (by rw [hem, hB]; decide)]
      refine ⟨?_, h3, ?_⟩
      · rw [hE]; rfl
      · rw [h4, drC, drS, hB]; rfl
    ·
      simp only [Bool.and_eq_true, Bool.or_eq_true, Bool.not_eq_true', Bool.or_eq_false_iff, Bool.and_eq_false_iff, decide_eq_true_eq, decide_eq_false_iff_not, beq_iff_eq, bne_iff_ne, Bool.not_eq_false', beq_eq_false_iff_ne, bne_eq_false_iff_eq, ne_eq, Decidable.not_not, Int.not_lt, Int.not_le] at h
      refine c_skip ?_
      refine x_then ?_
      refine c_seq ?_
      refine c_region ?_
      refine o_yield rfl rfl rfl (y_val tok rfl) ?_
      have ho := h
      clear h
      refine o_call (.a (.v _)) rfl rfl fnok17 rfl rfl rfl (fun hg E w1 hm => by exact cmdRead_c (ofL 5 s) hos _) ?_
      refine o_yield rfl rfl rfl (y_val tok rfl) ?_
      refine o_yield rfl rfl rfl (y_val tok rfl) ?_
      refine o_yield rfl rfl rfl (y_val tok rfl) ?_
      refine o_new tok rfl rfl rfl rfl ?_
      refine o_store tok rfl rfl rfl (by first | exact ⟨trivial, trivial⟩ | (repeat' first | exact trivial | exact rfl | apply And.intro); done | simp [onesP, oneP, lk, Value.oneCell']) ?_
      refine o_yield rfl rfl rfl (y_val tok rfl) ?_
      refine o_end [0, 5, 6, 7] rfl ?_
      refine x_then ?_
      refine c_seq ?_
      refine c_seq ?_
      refine c_region ?_
      refine o_yield rfl rfl rfl (y_val tok rfl) ?_
      refine o_yield rfl rfl rfl (y_val tok rfl) ?_
      refine o_end [0, 5, 7, 27] rfl ?_
      refine x_then ?_
      refine c_cond rfl (fun h => ?_) (fun h => ?_)
      ·
        simp only [Bool.and_eq_true, Bool.or_eq_true, Bool.not_eq_true', Bool.or_eq_false_iff, Bool.and_eq_false_iff, decide_eq_true_eq, decide_eq_false_iff_not, beq_iff_eq, bne_iff_ne, Bool.not_eq_false', beq_eq_false_iff_ne, bne_eq_false_iff_eq, ne_eq, Decidable.not_not, Int.not_lt, Int.not_le] at h
        refine c_seq ?_
        refine c_region ?_
        refine o_yield rfl rfl rfl (y_val tok rfl) ?_
        refine o_end [4] rfl ?_
        refine x_then ?_
        refine c_ret ?_
        refine x_then_ret ?_
        refine b_ret tok rfl ?_
        intro E w' hm _
        obtain ⟨h3, h4⟩ := back1 hm (Vw.le.refl _) rfl rfl rfl
        have hB : drB s = false := by rw [drB, hem]; simp [h]
        have hE : drE s = 50 := by rw [drE, if_neg (by rw [hem, hB]; decide)]
        refine ⟨?_, h3, ?_⟩
        · rw [hE]; rfl
        · rw [h4, drC, drS, hB]; rfl
      ·
        simp only [Bool.and_eq_true, Bool.or_eq_true, Bool.not_eq_true', Bool.or_eq_false_iff, Bool.and_eq_false_iff, decide_eq_true_eq, decide_eq_false_iff_not, beq_iff_eq, bne_iff_ne, Bool.not_eq_false', beq_eq_false_iff_ne, bne_eq_false_iff_eq, ne_eq, Decidable.not_not, Int.not_lt, Int.not_le] at h
        refine c_skip ?_
        refine x_then ?_
        refine c_seq ?_
        refine c_region ?_
        refine o_yield rfl rfl rfl (y_val tok rfl) ?_
        refine o_yield rfl rfl rfl (y_val tok rfl) ?_
        refine o_yield rfl rfl rfl (y_val tok rfl) ?_
        refine o_yield rfl rfl rfl (y_val tok rfl) ?_
        refine o_yield rfl rfl rfl (y_val tok rfl) ?_
        refine o_yield rfl rfl rfl (y_val tok rfl) ?_
        refine o_store tok rfl rfl rfl (by first | exact ⟨trivial, trivial⟩ | (repeat' first | exact trivial | exact rfl | apply And.intro); done | simp [onesP, oneP, lk, Value.oneCell']) ?_
        refine o_end [] rfl ?_
        refine x_then ?_
        refine c_seq ?_
        refine c_region ?_
        refine o_yield rfl rfl rfl (y_val tok rfl) ?_
        refine o_end [4] rfl ?_
        refine x_then ?_
        refine c_ret ?_
        refine b_ret tok rfl ?_
        intro E w' hm _
        obtain ⟨h3, h4⟩ := back1 hm (Vw.le.refl _) rfl rfl rfl
        have hB : drB s = true := by rw [drB, hem, ho, h]; rfl
        have hE : drE s = 0 := by rw [drE, if_pos (.inr hB)]
        refine ⟨?_, h3, ?_⟩
        · rw [hE]; rfl
        · rw [h4, drC, drS, hB]; rfl

section
variable {o : Oper} {n : Nat} {F : Frame0} {C : List Nat} {O : Own} {nl : Nat} {V : Vw}

theorem s_dread {p : List (Nat × Bool)} (l : Nat) (s : ByteArray) (c0 : Cmd) (s0 : ByteArray) (ok0 : Bool) (a : A) (ha : a.ok nl = true) (ss : List SV) (hv : evalC F p o.op = some (31, ss)) (hss : ∀ E, ss.map (SV.den E) = [.pointer (some ⟨E.ρ l, 0, none⟩), S s])
    (hl : lk O l = some (.lit (readerAs c0 s0 ok0 a) 89)) (hs : s.size ≤ maxLen) :
    StepTo Try.prog o p n F C O nl V (σ := Unit) (fun _ => True) (fun _ => .a (.v (I (drE s)))) (fun _ => (l, .lit (readerAs (drC s) (drS s) (drB s) a) 89) :: O) nl (fun _ => V) := by
  refine s_callW (fun _ => True) (fun _ => .a (.v (I (drE s)))) l 89 (fun _ => readerAs (drC s) (drS s) (drB s) a) hv fnok31 hl (fun _ => by simp only [readerAs, Cmd.cells, List.map_cons, List.map_nil, List.cons_append, List.nil_append, allOk, ha]; rfl) (fun _ => rfl) ?_
  intro E w hm hb
  rw [hss E]
  refine (dread_c s hs c0 s0 ok0 (a.den E) (E.ρ l) w hb).mono ?_
  rintro e w' ⟨rfl, h1, h2⟩
  exact ⟨(), rfl, h1, h2, trivial⟩
end

theorem decRead_c (s : ByteArray) (hs : s.size ≤ maxLen) (w : World) : Calls Try.prog 19 #[S s] w fun e w' => e = .returned (.tuple #[(drC s).val, S (drS s), .bool (drB s), I (drE s)]) ∧ Below w.heap.size w w' := by
  refine enter (E := E0) (O := []) (nl := 0) (V := vw w) [.a (.v (S s))] Try.func19 rfl rfl (mem0 E0 0 w) rfl rfl ?_
  refine c_seq ?_
  refine c_region ?_
  refine o_new tok rfl rfl rfl rfl ?_
  refine o_yield rfl rfl rfl (y_val tok rfl) ?_
  refine o_yield rfl rfl rfl (y_val tok rfl) ?_
  refine o_yield rfl rfl rfl (y_val tok rfl) ?_
  refine o_end [0, 2] rfl ?_
  refine x_then ?_
  refine c_seq ?_
  refine c_region ?_
  refine o_yield rfl rfl rfl (y_val tok rfl) ?_
  refine o_new tok rfl rfl rfl rfl ?_
  refine o_yield rfl rfl rfl (y_val tok rfl) ?_
  refine o_end [0, 2, 6] rfl ?_
  refine x_then ?_
  refine c_seq ?_
  refine c_region ?_
  refine o_yield rfl rfl rfl (y_val tok rfl) ?_
  refine o_yield rfl rfl rfl (y_val tok rfl) ?_
  refine o_step rfl rfl rfl rfl rfl (s_dread 1 s cmd0 ByteArray.empty false (.v (.slice none 0 0)) rfl _ rfl (fun E => rfl) rfl hs) (fun _ _ => ?_)
  refine o_yield rfl rfl rfl (y_val tok rfl) ?_
  refine o_end [2, 5, 6] rfl ?_
  refine x_then ?_
  refine c_seq ?_
  refine c_held [] ([(1, .lit (readerAs (drC s) (drS s) (drB s) (.v (.slice none 0 0))) 89)]) mixed (by repeat (first | exact SubO.nil | refine SubO.cons rfl ?_)) (by first | rfl | simp [okCels, allOk_plain]) ?_
  refine t_take 0 rfl (by kernel_rfl) rfl rfl rfl (y_val tok rfl) rfl ?_
  refine t_take 1 rfl (by kernel_rfl) rfl rfl rfl (y_val tok rfl) rfl ?_
  refine t_take 2 rfl (by kernel_rfl) rfl rfl rfl (y_val tok rfl) rfl ?_
  refine t_take 3 rfl (by kernel_rfl) rfl rfl rfl (y_val tok rfl) rfl ?_
  refine t_take 4 rfl (by kernel_rfl) rfl rfl rfl (y_val tok rfl) rfl ?_
  refine t_take 5 rfl (by kernel_rfl) rfl rfl rfl (y_val tok rfl) rfl ?_
  refine t_take 6 rfl (by kernel_rfl) rfl rfl rfl (y_val tok rfl) rfl ?_
  refine t_take 7 rfl (by kernel_rfl) rfl rfl rfl (y_val tok rfl) rfl ?_
  refine t_take 8 rfl (by kernel_rfl) rfl rfl rfl (y_val tok rfl) rfl ?_
  refine t_take 9 rfl (by kernel_rfl) rfl rfl rfl (y_val tok rfl) rfl ?_
  refine t_take 10 rfl (by kernel_rfl) rfl rfl rfl (y_val tok rfl) rfl ?_
  refine t_take 11 rfl (by kernel_rfl) rfl rfl rfl (y_val tok rfl) rfl ?_
  refine t_take 12 rfl (by kernel_rfl) rfl rfl rfl (y_val tok rfl) rfl ?_
  refine t_take 13 rfl (by kernel_rfl) rfl rfl rfl (y_val tok rfl) rfl ?_
  refine t_take 14 rfl (by kernel_rfl) rfl rfl rfl (y_val tok rfl) rfl ?_
  refine t_take 15 rfl (by kernel_rfl) rfl rfl rfl (y_val tok rfl) rfl ?_
  refine t_go ?_
  refine h_one 16 (by kernel_rfl) ?_
  refine h_store 16 tok rfl rfl rfl rfl (by first | exact ⟨trivial, trivial⟩ | (repeat' first | exact trivial | exact rfl | apply And.intro); done | simp [onesP, oneP, lk, Value.oneCell']) (.inr ⟨(by repeat (first | exact SubO.nil | refine SubO.cons rfl ?_)), rfl, (by first | exact Vw.le.refl _ | assumption)⟩) ?_
  refine h_one 17 (by kernel_rfl) ?_
  refine h_yield 17 rfl rfl rfl rfl (y_val tok rfl) ?_
  refine h_one 18 (by kernel_rfl) ?_
  refine h_yield 18 rfl rfl rfl rfl (y_val tok rfl) ?_
  refine h_one 19 (by kernel_rfl) ?_
  refine h_yield 19 rfl rfl rfl rfl (y_val tok rfl) ?_
  refine h_done [2, 3, 4, 5] (by kernel_rfl) rfl ?_
  refine x_then ?_
  refine c_ret ?_
  refine b_ret tok rfl ?_
  intro E w' hm _
  refine ⟨?_, hm.below (Vw.le.refl _)⟩
  rfl
end Go.Proofs.Ythmejhpfhkddiaa

/- Commands put and read back: the plain law. -/
set_option linter.unusedVariables false
set_option linter.unusedSimpArgs false
set_option maxRecDepth 100000
namespace Go.Proofs.Ythmejhpfhkddiaa
open Go Go.Eng Go.RowKit

def cmdR (c : Cmd) : List UInt8 :=
  if c.kind = 2 then leB 1 c.lo ++ (leB 1 c.hi ++ (leB 1 c.mode ++ []))
  else if c.kind = 3 then leB 1 c.lo ++ (leB 1 c.hi ++ [])
  else if c.kind = 4 then leB 6 c.dead ++ (leB 6 c.was ++ [])
  else if c.kind = 5 then leB 6 c.dead ++ []
  else []

theorem cmd_shape (c : Cmd) : cmdL c = leB 1 c.kind ++ (leB 6 c.by_ ++ (leB 4 c.serial ++ cmdR c)) := by
  unfold cmdL cmdR
  split
  · simp [putL]
  · split
    · simp [putL]
    · split
      · simp [putL]
      · split <;> simp [putL]

theorem cmdR_len (c : Cmd) : (cmdR c).length ≤ 12 := by
  unfold cmdR
  split
  · simp [leB, leTake_len]
  · split
    · simp [leB, leTake_len]
    · split
      · simp [leB, leTake_len]
      · split <;> simp [leB, leTake_len]

theorem cmdL_len (c : Cmd) : 11 ≤ (cmdL c).length ∧ (cmdL c).length ≤ 23 := by
  have := cmdR_len c
  rw [cmd_shape]
  simp only [List.length_append, leB, leTake_len]
  omega

theorem tk_pack {n : Int} {k : Nat} (h : fitsB n k = true) (R : List UInt8) (bad : Bool) : tkS (strOf (leB k n ++ R), bad) k = (strOf R, bad) := by
  have := restOf_pack n k R
  rw [Int.toNat_natCast] at this
  rw [tkS, if_neg (by rw [getSpec_pack h]; simp), this]

theorem rd_cmd {c : Cmd} (ok : CmdOk c) : rdPre (strOf (cmdL c)) = (c, (strOf [], false)) := by
  have m6 : mostN (6 : Int).toNat = 1099511627776 := by decide
  have m4 : mostN (4 : Int).toNat = 4294967295 := by decide
  have m1 : mostN (1 : Int).toNat = 255 := by decide
  obtain ⟨o1, o2, o3, o4, o5, o6, o7, o8, o9, o10, o11, o12⟩ := ok
  have f1 : ∀ n : Int, 0 ≤ n → n ≤ 255 → fitsB n 1 = true := fun n h1 h2 => by rw [fitsB, m1]; simp [widthB]; omega
  have f6 : ∀ n : Int, 0 ≤ n → n ≤ 1099511627776 → fitsB n 6 = true := fun n h1 h2 => by rw [fitsB, m6]; simp [widthB]; omega
  have f4 : ∀ n : Int, 0 ≤ n → n ≤ 4294967295 → fitsB n 4 = true := fun n h1 h2 => by rw [fitsB, m4]; simp [widthB]; omega
  have t1 : ∀ (n : Int) (R : List UInt8), 0 ≤ n → n ≤ 255 → tkS (strOf (leB 1 n ++ R), false) 1 = (strOf R, false) := fun n R h1 h2 => tk_pack (k := 1) (f1 n h1 h2) R false
  have t6 : ∀ (n : Int) (R : List UInt8), 0 ≤ n → n ≤ 1099511627776 → tkS (strOf (leB 6 n ++ R), false) 6 = (strOf R, false) := fun n R h1 h2 => tk_pack (k := 6) (f6 n h1 h2) R false
  have t4 : ∀ (n : Int) (R : List UInt8), 0 ≤ n → n ≤ 4294967295 → tkS (strOf (leB 4 n ++ R), false) 4 = (strOf R, false) := fun n R h1 h2 => tk_pack (k := 4) (f4 n h1 h2) R false
  have g1 : ∀ (n : Int) (R : List UInt8), 0 ≤ n → n ≤ 255 → getSpec (strOf (leB 1 n ++ R)) 0 1 = (n, 0) := fun n R h1 h2 => getSpec_pack (f1 n h1 h2) R
  have g6 : ∀ (n : Int) (R : List UInt8), 0 ≤ n → n ≤ 1099511627776 → getSpec (strOf (leB 6 n ++ R)) 0 6 = (n, 0) := fun n R h1 h2 => getSpec_pack (f6 n h1 h2) R
  have g4 : ∀ (n : Int) (R : List UInt8), 0 ≤ n → n ≤ 4294967295 → getSpec (strOf (leB 4 n ++ R)) 0 4 = (n, 0) := fun n R h1 h2 => getSpec_pack (f4 n h1 h2) R
  have hm : min c.kind 127 = c.kind := by omega
  obtain ⟨kind, by_, serial, dead, was, lo, hi, mode⟩ := c
  dsimp only at *
  rw [rdPre, cmd_shape, g1 _ _ (by dsimp only; omega) (by dsimp only; omega), t1 _ _ (by dsimp only; omega) (by dsimp only; omega)]
  dsimp only
  rw [g6 _ _ (by omega) (by omega), t6 _ _ (by omega) (by omega)]
  dsimp only
  rw [g4 _ _ (by omega) (by omega), t4 _ _ (by omega) (by omega), hm]
  dsimp only
  unfold cmdR
  dsimp only
  split
  · rename_i e
    rw [g1 _ _ (by omega) (by omega), t1 _ _ (by omega) (by omega)]
    dsimp only
    rw [g1 _ _ (by omega) (by omega), t1 _ _ (by omega) (by omega)]
    dsimp only
    rw [g1 _ _ (by omega) (by omega), t1 _ _ (by omega) (by omega), show min mode 127 = mode by omega, o11 (by omega) (by omega), o12 (by omega)]
  · rename_i e2
    split
    · rename_i e
      rw [g1 _ _ (by omega) (by omega), t1 _ _ (by omega) (by omega)]
      dsimp only
      rw [g1 _ _ (by omega) (by omega), t1 _ _ (by omega) (by omega), o11 (by omega) (by omega), o12 (by omega), o10 e2]
    · rename_i e3
      obtain ⟨o13, o14⟩ := o9 e2 e3
      split
      · rename_i e
        rw [g6 _ _ (by omega) (by omega), t6 _ _ (by omega) (by omega)]
        dsimp only
        rw [g6 _ _ (by omega) (by omega), t6 _ _ (by omega) (by omega), o10 e2, o13, o14]
      · rename_i e4
        split
        · rename_i e
          rw [g6 _ _ (by omega) (by omega), t6 _ _ (by omega) (by omega)]
          dsimp only
          rw [o10 e2, o13, o14, o12 e4]
        · rename_i e5
          rw [o10 e2, o13, o14, o12 e4, o11 e4 e5]

theorem crd_cmd {c : Cmd} (h : cmdB c = true) : crdV (strOf (cmdL c)) = c ∧ crdE (strOf (cmdL c)) = 0 :=
  crd_yes (rd_cmd (cmdOk h)) (by show ((false || !((strOf []).toList == ByteArray.empty.toList)) || !cmdB c) = false; rw [empty_beq, strOf_size, h]; rfl)

/-- A decided sector of a command. -/
def decS (c : Cmd) : ByteArray := strOf (sealL 5 (cmdL c))

theorem dec_back {c : Cmd} (h : cmdB c = true) : dbV (strOf (cmdL c)) = decS c ∧ dbE (strOf (cmdL c)) = 0 ∧ drB (decS c) = true ∧ drC (decS c) = c ∧ drS (decS c) = strOf (cmdL c) ∧ drE (decS c) = 0 ∧ (decS c).size = 7 + (cmdL c).length := by
  obtain ⟨h1, h2⟩ := crd_cmd h
  have hl := cmdL_len c
  have hs : sealS 5 (strOf (cmdL c)) = (decS c, 0) := by
    rw [sealS, if_neg (by rw [strOf_size]; omega), strOf_list, decS]; rfl
  have hsz : (decS c).size = 7 + (cmdL c).length := by rw [decS, strOf_size, sealL_len]
  have ho : openB (decS c) = true := openB_seal (by decide) (by decide) (by omega)
  have hof : ofB 5 (decS c) = true := by rw [ofB, ho, decS, byteAt_seal]; rfl
  have hL : ofL 5 (decS c) = strOf (cmdL c) := by rw [ofL, if_pos hof, decS, loadOf_seal]
  have hB : drB (decS c) = true := by
    rw [drB, hL, h2, ofE, if_pos hof, empty_beq, decide_eq_false (by omega)]; rfl
  refine ⟨by rw [dbV, if_pos h2, hs], by rw [dbE, if_pos h2, hs], hB, by rw [drC, if_pos hB, hL, h1], by rw [drS, if_pos hB, hL], by rw [drE, if_pos (.inr hB)], hsz⟩

end Go.Proofs.Ythmejhpfhkddiaa

/- Keys: the document's. -/
set_option linter.unusedVariables false
set_option linter.unusedSimpArgs false
set_option maxRecDepth 100000
namespace Go.Proofs.Ythmejhpfhkddiaa
open Go Go.Eng Go.RowKit

theorem sl_shape {V : Vw} {v : Value} {sz m : Nat} {xs : List Value} (h : IsSl V v sz m xs) : ∃ a n c, v = .slice a n c := by
  rcases h.2 with ⟨a, c, rfl, _⟩ | ⟨g, o, cap, cur, e, f, rfl, _⟩
  · exact ⟨_, _, _, rfl⟩
  · exact ⟨_, _, _, rfl⟩

theorem drop_at {α : Type} {l : List α} {k : Nat} {x : α} (h : l[k]? = some x) : l.drop k = x :: l.drop (k + 1) := by
  have hlt := (List.getElem?_eq_some_iff.1 h).1
  rw [List.drop_eq_getElem_cons hlt, (List.getElem?_eq_some_iff.1 h).2]

theorem take_succ_at' {α : Type} {l : List α} {i : Nat} {x : α} (h : l[i]? = some x) : l.take (i + 1) = l.take i ++ [x] := by
  rw [List.take_add_one, h]; rfl
end Go.Proofs.Ythmejhpfhkddiaa

/- Commands, the document's: which may be. -/
set_option linter.unusedVariables false
set_option linter.unusedSimpArgs false
set_option maxRecDepth 100000
namespace Go.Proofs.Ythmejhpfhkddiaa
open Go Go.Eng Go.RowKit

end Go.Proofs.Ythmejhpfhkddiaa

/- Commands, the document's: their bytes. -/
set_option linter.unusedVariables false
set_option linter.unusedSimpArgs false
set_option maxRecDepth 100000
namespace Go.Proofs.Ythmejhpfhkddiaa
open Go Go.Eng Go.RowKit

end Go.Proofs.Ythmejhpfhkddiaa

/- Spans: the functions of package span. -/
set_option linter.unusedVariables false
set_option linter.unusedSimpArgs false
set_option maxRecDepth 100000
namespace Go.Proofs.Ythmejhpfhkddiaa
open Go Go.Eng Go.RowKit

theorem spNone_c (lo hi : Int) (w : World) : Calls Try.prog 92 #[.agg #[I lo, I hi]] w fun e w' => e = .returned (.bool (decide (hi < lo))) ∧ Below w.heap.size w w' := by
  refine enter (E := E0) (O := []) (nl := 0) (V := vw w) [.a (.v (.agg #[I lo, I hi]))] Try.func92 rfl rfl (mem0 E0 0 w) rfl rfl ?_
  refine c_seq ?_
  refine c_region ?_
  refine o_new tok rfl rfl rfl rfl ?_
  refine o_yield rfl rfl rfl (y_val tok rfl) ?_
  refine o_end [1] rfl ?_
  refine x_then ?_
  refine c_seq ?_
  refine c_region ?_
  refine o_yield rfl rfl rfl (y_val tok rfl) ?_
  refine o_yield rfl rfl rfl (y_val tok rfl) ?_
  refine o_yield rfl rfl rfl (y_val tok rfl) ?_
  refine o_yield rfl rfl rfl (y_val tok rfl) ?_
  refine o_yield rfl rfl rfl (y_val tok rfl) ?_
  refine o_yield rfl rfl rfl (y_val tok rfl) ?_
  refine o_yield rfl rfl rfl (y_val tok rfl) ?_
  refine o_yield rfl rfl rfl (y_val tok rfl) ?_
  refine o_end [2] rfl ?_
  refine x_then ?_
  refine c_ret ?_
  refine b_ret tok rfl ?_
  intro E w' hm _
  exact ⟨rfl, hm.below (Vw.le.refl _)⟩

def hasB (lo hi n : Int) : Bool := decide (lo ≤ n) && decide (n ≤ hi)

theorem spHas_c (lo hi n : Int) (w : World) : Calls Try.prog 99 #[.agg #[I lo, I hi], I n] w fun e w' => e = .returned (.bool (hasB lo hi n)) ∧ Below w.heap.size w w' := by
  refine enter (E := E0) (O := []) (nl := 0) (V := vw w) [.a (.v (.agg #[I lo, I hi])), .a (.v (I n))] Try.func99 rfl rfl (mem0 E0 0 w) rfl rfl ?_
  refine c_seq ?_
  refine c_region ?_
  refine o_new tok rfl rfl rfl rfl ?_
  refine o_yield rfl rfl rfl (y_val tok rfl) ?_
  refine o_end [1, 2] rfl ?_
  refine x_then ?_
  refine c_seq ?_
  refine c_region ?_
  refine o_yield rfl rfl rfl (y_val tok rfl) ?_
  refine o_yield rfl rfl rfl (y_val tok rfl) ?_
  refine o_yield rfl rfl rfl (y_val tok rfl) ?_
  refine o_yield rfl rfl rfl (y_val tok rfl) ?_
  refine o_yield rfl rfl rfl (y_val tok rfl) ?_
  refine o_yield rfl rfl rfl (y_val tok rfl) ?_
  refine o_yield rfl rfl rfl (y_val tok rfl) ?_
  refine o_yield rfl rfl rfl (y_val tok rfl) ?_
  refine o_yield rfl rfl rfl (y_val tok rfl) ?_
  refine o_yield rfl rfl rfl (y_val tok rfl) ?_
  refine o_yield rfl rfl rfl (y_val tok rfl) ?_
  refine o_yield rfl rfl rfl (y_val tok rfl) ?_
  refine o_yield rfl rfl rfl (y_val tok rfl) ?_
  refine o_end [4] rfl ?_
  refine x_then ?_
  refine c_ret ?_
  refine b_ret tok rfl ?_
  intro E w' hm _
  exact ⟨rfl, hm.below (Vw.le.refl _)⟩

def meets (lo hi lo' hi' : Int) : Bool := (!decide (hi < lo) && !decide (hi' < lo')) && (hasB lo hi lo' || hasB lo' hi' lo)

theorem spMeets_c (lo hi lo' hi' : Int) (w : World) : Calls Try.prog 95 #[.agg #[I lo, I hi], .agg #[I lo', I hi']] w fun e w' => e = .returned (.bool (meets lo hi lo' hi')) ∧ Below w.heap.size w w' := by
  refine enter (E := E0) (O := []) (nl := 0) (V := vw w) [.a (.v (.agg #[I lo, I hi])), .a (.v (.agg #[I lo', I hi']))] Try.func95 rfl rfl (mem0 E0 0 w) rfl rfl ?_
  refine c_seq ?_
  refine c_region ?_
  refine o_new tok rfl rfl rfl rfl ?_
  refine o_new tok rfl rfl rfl rfl ?_
  refine o_yield rfl rfl rfl (y_val tok rfl) ?_
  refine o_end [2, 3] rfl ?_
  refine x_then ?_
  refine c_seq ?_
  refine c_region ?_
  refine o_yield rfl rfl rfl (y_val tok rfl) ?_
  refine o_call (.a (.v _)) rfl rfl fnok92 rfl rfl rfl (fun hg E w1 hm => by exact spNone_c _ _ _) ?_
  refine o_yield rfl rfl rfl (y_val tok rfl) ?_
  refine o_yield rfl rfl rfl (y_val tok rfl) ?_
  refine o_yield rfl rfl rfl (y_val tok rfl) ?_
  refine o_call (.a (.v _)) rfl rfl fnok92 rfl rfl rfl (fun hg E w1 hm => by exact spNone_c _ _ _) ?_
  refine o_yield rfl rfl rfl (y_val tok rfl) ?_
  refine o_yield rfl rfl rfl (y_val tok rfl) ?_
  refine o_yield rfl rfl rfl (y_val tok rfl) ?_
  refine o_yield rfl rfl rfl (y_val tok rfl) ?_
  refine o_yield rfl rfl rfl (y_val tok rfl) ?_
  refine o_yield rfl rfl rfl (y_val tok rfl) ?_
  refine o_yield rfl rfl rfl (y_val tok rfl) ?_
  refine o_call (.a (.v _)) rfl rfl fnok99 rfl rfl rfl (fun hg E w1 hm => by exact spHas_c _ _ _ _) ?_
  refine o_yield rfl rfl rfl (y_val tok rfl) ?_
  refine o_yield rfl rfl rfl (y_val tok rfl) ?_
  refine o_yield rfl rfl rfl (y_val tok rfl) ?_
  refine o_yield rfl rfl rfl (y_val tok rfl) ?_
  refine o_yield rfl rfl rfl (y_val tok rfl) ?_
  refine o_call (.a (.v _)) rfl rfl fnok99 rfl rfl rfl (fun hg E w1 hm => by exact spHas_c _ _ _ _) ?_
  refine o_yield rfl rfl rfl (y_val tok rfl) ?_
  refine o_yield rfl rfl rfl (y_val tok rfl) ?_
  refine o_yield rfl rfl rfl (y_val tok rfl) ?_
  refine o_end [4] rfl ?_
  refine x_then ?_
  refine c_ret ?_
  refine b_ret tok rfl ?_
  intro E w' hm _
  exact ⟨rfl, hm.below (Vw.le.refl _)⟩

theorem spOverlap_c (lo hi lo' hi' : Int) (w : World) : Calls Try.prog 82 #[.agg #[I lo, I hi], .agg #[I lo', I hi']] w fun e w' => e = .returned (.bool (meets lo hi lo' hi')) ∧ Below w.heap.size w w' := by
  refine enter (E := E0) (O := []) (nl := 0) (V := vw w) [.a (.v (.agg #[I lo, I hi])), .a (.v (.agg #[I lo', I hi']))] Try.func82 rfl rfl (mem0 E0 0 w) rfl rfl ?_
  refine c_seq ?_
  refine c_region ?_
  refine o_new tok rfl rfl rfl rfl ?_
  refine o_new tok rfl rfl rfl rfl ?_
  refine o_yield rfl rfl rfl (y_val tok rfl) ?_
  refine o_end [2, 3] rfl ?_
  refine x_then ?_
  refine c_seq ?_
  refine c_region ?_
  refine o_yield rfl rfl rfl (y_val tok rfl) ?_
  refine o_yield rfl rfl rfl (y_val tok rfl) ?_
  refine o_yield rfl rfl rfl (y_val tok rfl) ?_
  refine o_yield rfl rfl rfl (y_val tok rfl) ?_
  refine o_call (.a (.v _)) rfl rfl fnok95 rfl rfl rfl (fun hg E w1 hm => by exact spMeets_c _ _ _ _ _) ?_
  refine o_yield rfl rfl rfl (y_val tok rfl) ?_
  refine o_end [4] rfl ?_
  refine x_then ?_
  refine c_ret ?_
  refine b_ret tok rfl ?_
  intro E w' hm _
  exact ⟨rfl, hm.below (Vw.le.refl _)⟩

theorem spOf_c (h : Hold) (w : World) : Calls Try.prog 100 #[h.val] w fun e w' => e = .returned (.agg #[I h.lo, I h.hi, I h.key, I8 h.mode]) ∧ Below w.heap.size w w' := by
  refine enter (E := E0) (O := []) (nl := 0) (V := vw w) [.a (.v h.val)] Try.func100 rfl rfl (mem0 E0 0 w) rfl rfl ?_
  refine c_seq ?_
  refine c_region ?_
  refine o_new tok rfl rfl rfl rfl ?_
  refine o_new tok rfl rfl rfl rfl ?_
  refine o_end [1, 2] rfl ?_
  refine x_then ?_
  refine c_seq ?_
  refine c_region ?_
  refine o_yield rfl rfl rfl (y_val tok rfl) ?_
  refine o_yield rfl rfl rfl (y_val tok rfl) ?_
  refine o_yield rfl rfl rfl (y_val tok rfl) ?_
  refine o_yield rfl rfl rfl (y_val tok rfl) ?_
  refine o_yield rfl rfl rfl (y_val tok rfl) ?_
  refine o_yield rfl rfl rfl (y_val tok rfl) ?_
  refine o_yield rfl rfl rfl (y_val tok rfl) ?_
  refine o_yield rfl rfl rfl (y_val tok rfl) ?_
  refine o_store tok rfl rfl rfl (by first | exact ⟨trivial, trivial⟩ | (repeat' first | exact trivial | exact rfl | apply And.intro); done | simp [onesP, oneP, lk, Value.oneCell']) ?_
  refine o_end [2] rfl ?_
  refine x_then ?_
  refine c_ret ?_
  refine b_ret tok rfl ?_
  intro E w' hm _
  exact ⟨rfl, hm.below (Vw.le.refl _)⟩

def together (a b : Hold) : Bool := ((a.key == b.key) || !meets a.lo a.hi b.lo b.hi) || ((a.mode == 1) && (b.mode == 1))

theorem spLets_c (a b : Hold) (w : World) : Calls Try.prog 101 #[.agg #[I a.lo, I a.hi, I a.key, I8 a.mode], .agg #[I b.lo, I b.hi, I b.key, I8 b.mode]] w fun e w' => e = .returned (.bool (together a b)) ∧ Below w.heap.size w w' := by
  refine enter (E := E0) (O := []) (nl := 0) (V := vw w) [.a (.v (.agg #[I a.lo, I a.hi, I a.key, I8 a.mode])), .a (.v (.agg #[I b.lo, I b.hi, I b.key, I8 b.mode]))] Try.func101 rfl rfl (mem0 E0 0 w) rfl rfl ?_
  refine c_seq ?_
  refine c_region ?_
  refine o_new tok rfl rfl rfl rfl ?_
  refine o_new tok rfl rfl rfl rfl ?_
  refine o_yield rfl rfl rfl (y_val tok rfl) ?_
  refine o_end [2, 3] rfl ?_
  refine x_then ?_
  refine c_seq ?_
  refine c_region ?_
  refine o_yield rfl rfl rfl (y_val tok rfl) ?_
  refine o_yield rfl rfl rfl (y_val tok rfl) ?_
  refine o_yield rfl rfl rfl (y_val tok rfl) ?_
  refine o_yield rfl rfl rfl (y_val tok rfl) ?_
  refine o_yield rfl rfl rfl (y_val tok rfl) ?_
  refine o_yield rfl rfl rfl (y_val tok rfl) ?_
  refine o_yield rfl rfl rfl (y_val tok rfl) ?_
  refine o_yield rfl rfl rfl (y_val tok rfl) ?_
  refine o_yield rfl rfl rfl (y_val tok rfl) ?_
  refine o_yield rfl rfl rfl (y_val tok rfl) ?_
  refine o_call (.a (.v _)) rfl rfl fnok95 rfl rfl rfl (fun hg E w1 hm => by exact spMeets_c _ _ _ _ _) ?_
  refine o_yield rfl rfl rfl (y_val tok rfl) ?_
  refine o_yield rfl rfl rfl (y_val tok rfl) ?_
  refine o_yield rfl rfl rfl (y_val tok rfl) ?_
  refine o_yield rfl rfl rfl (y_val tok rfl) ?_
  refine o_yield rfl rfl rfl (y_val tok rfl) ?_
  refine o_yield rfl rfl rfl (y_val tok rfl) ?_
  refine o_yield rfl rfl rfl (y_val tok rfl) ?_
  refine o_yield rfl rfl rfl (y_val tok rfl) ?_
  refine o_yield rfl rfl rfl (y_val tok rfl) ?_
  refine o_yield rfl rfl rfl (y_val tok rfl) ?_
  refine o_yield rfl rfl rfl (y_val tok rfl) ?_
  refine o_yield rfl rfl rfl (y_val tok rfl) ?_
  refine o_yield rfl rfl rfl (y_val tok rfl) ?_
  refine o_end [4] rfl ?_
  refine x_then ?_
  refine c_ret ?_
  refine b_ret tok rfl ?_
  intro E w' hm _
  exact ⟨rfl, hm.below (Vw.le.refl _)⟩

theorem spTogether_c (a b : Hold) (w : World) : Calls Try.prog 97 #[a.val, b.val] w fun e w' => e = .returned (.bool (together a b)) ∧ Below w.heap.size w w' := by
  refine enter (E := E0) (O := []) (nl := 0) (V := vw w) [.a (.v a.val), .a (.v b.val)] Try.func97 rfl rfl (mem0 E0 0 w) rfl rfl ?_
  refine c_seq ?_
  refine c_region ?_
  refine o_new tok rfl rfl rfl rfl ?_
  refine o_new tok rfl rfl rfl rfl ?_
  refine o_yield rfl rfl rfl (y_val tok rfl) ?_
  refine o_end [2, 3] rfl ?_
  refine x_then ?_
  refine c_seq ?_
  refine c_draw mixed (by kernel_rfl) ?_
  refine d_yield rfl rfl rfl (y_val tok rfl) rfl ?_
  refine d_call (.a (.v _)) rfl rfl fnok100 rfl rfl rfl (fun hg E w1 hm => by exact spOf_c a _) ?_
  refine d_yield rfl rfl rfl (y_val tok rfl) rfl ?_
  refine d_call (.a (.v _)) rfl rfl fnok100 rfl rfl rfl (fun hg E w1 hm => by exact spOf_c b _) ?_
  refine d_call (.a (.v _)) rfl rfl fnok101 rfl rfl rfl (fun hg E w1 hm => by exact spLets_c a b _) ?_
  refine d_yield rfl rfl rfl (y_val tok rfl) rfl ?_
  refine d_end [4] rfl ?_
  refine x_then ?_
  refine c_ret ?_
  refine b_ret tok rfl ?_
  intro E w' hm _
  exact ⟨rfl, hm.below (Vw.le.refl _)⟩

def may (blocks lo hi : Int) : Bool := (!decide (hi < lo) && decide (0 ≤ lo)) && decide (hi < blocks)



theorem spMay_c (g : Geo) (lo hi : Int) (w : World) : Calls Try.prog 79 #[g.val, .agg #[I lo, I hi]] w fun e w' => e = .returned (.bool (may g.blocks lo hi)) ∧ Below w.heap.size w w' := by
  refine enter (E := E0) (O := []) (nl := 0) (V := vw w) [.a (.v g.val), .a (.v (.agg #[I lo, I hi]))] Try.func79 rfl rfl (mem0 E0 0 w) rfl rfl ?_
  refine c_seq ?_
  refine c_region ?_
  refine o_new tok rfl rfl rfl rfl ?_
  refine o_new tok rfl rfl rfl rfl ?_
  refine o_yield rfl rfl rfl (y_val tok rfl) ?_
  refine o_end [2, 3] rfl ?_
  refine x_then ?_
  refine c_seq ?_
  refine c_region ?_
  refine o_yield rfl rfl rfl (y_val tok rfl) ?_
  refine o_yield rfl rfl rfl (y_val tok rfl) ?_
  refine o_call (.a (.v _)) rfl rfl fnok92 rfl rfl rfl (fun hg E w1 hm => by exact spNone_c _ _ _) ?_
  refine o_yield rfl rfl rfl (y_val tok rfl) ?_
  refine o_yield rfl rfl rfl (y_val tok rfl) ?_
  refine o_yield rfl rfl rfl (y_val tok rfl) ?_
  refine o_yield rfl rfl rfl (y_val tok rfl) ?_
  refine o_yield rfl rfl rfl (y_val tok rfl) ?_
  refine o_yield rfl rfl rfl (y_val tok rfl) ?_
  refine o_yield rfl rfl rfl (y_val tok rfl) ?_
  refine o_yield rfl rfl rfl (y_val tok rfl) ?_
  refine o_yield rfl rfl rfl (y_val tok rfl) ?_
  refine o_yield rfl rfl rfl (y_val tok rfl) ?_
  refine o_yield rfl rfl rfl (y_val tok rfl) ?_
  refine o_yield rfl rfl rfl (y_val tok rfl) ?_
  refine o_yield rfl rfl rfl (y_val tok rfl) ?_
  refine o_yield rfl rfl rfl (y_val tok rfl) ?_
  refine o_end [4] rfl ?_
  refine x_then ?_
  refine c_ret ?_
  refine b_ret tok rfl ?_
  intro E w' hm _
  exact ⟨rfl, hm.below (Vw.le.refl _)⟩

def holdB (blocks : Int) (h : Hold) : Bool := (decide (0 < h.key) && may blocks h.lo h.hi) && ((h.mode == 1) || (h.mode == 2))

theorem spHold_c (g : Geo) (h : Hold) (w : World) : Calls Try.prog 61 #[g.val, h.val] w fun e w' => e = .returned (.bool (holdB g.blocks h)) ∧ Below w.heap.size w w' := by
  refine enter (E := E0) (O := []) (nl := 0) (V := vw w) [.a (.v g.val), .a (.v h.val)] Try.func61 rfl rfl (mem0 E0 0 w) rfl rfl ?_
  refine c_seq ?_
  refine c_region ?_
  refine o_new tok rfl rfl rfl rfl ?_
  refine o_new tok rfl rfl rfl rfl ?_
  refine o_yield rfl rfl rfl (y_val tok rfl) ?_
  refine o_end [2, 3] rfl ?_
  refine x_then ?_
  refine c_seq ?_
  refine c_region ?_
  refine o_yield rfl rfl rfl (y_val tok rfl) ?_
  refine o_yield rfl rfl rfl (y_val tok rfl) ?_
  refine o_yield rfl rfl rfl (y_val tok rfl) ?_
  refine o_yield rfl rfl rfl (y_val tok rfl) ?_
  refine o_yield rfl rfl rfl (y_val tok rfl) ?_
  refine o_yield rfl rfl rfl (y_val tok rfl) ?_
  refine o_yield rfl rfl rfl (y_val tok rfl) ?_
  refine o_call (.a (.v _)) rfl rfl fnok79 rfl rfl rfl (fun hg E w1 hm => by exact spMay_c g _ _ _) ?_
  refine o_yield rfl rfl rfl (y_val tok rfl) ?_
  refine o_yield rfl rfl rfl (y_val tok rfl) ?_
  refine o_yield rfl rfl rfl (y_val tok rfl) ?_
  refine o_yield rfl rfl rfl (y_val tok rfl) ?_
  refine o_yield rfl rfl rfl (y_val tok rfl) ?_
  refine o_yield rfl rfl rfl (y_val tok rfl) ?_
  refine o_yield rfl rfl rfl (y_val tok rfl) ?_
  refine o_yield rfl rfl rfl (y_val tok rfl) ?_
  refine o_yield rfl rfl rfl (y_val tok rfl) ?_
  refine o_yield rfl rfl rfl (y_val tok rfl) ?_
  refine o_yield rfl rfl rfl (y_val tok rfl) ?_
  refine o_yield rfl rfl rfl (y_val tok rfl) ?_
  refine o_end [4] rfl ?_
  refine x_then ?_
  refine c_ret ?_
  refine b_ret tok rfl ?_
  intro E w' hm _
  exact ⟨rfl, hm.below (Vw.le.refl _)⟩

/-! slices.IndexFunc, ContainsFunc -/

def idxOf {α : Type} (pr : α → Bool) (l : List α) : Int := match l.findIdx? pr with
  | some k => k
  | none => -1

/-- A function value that tells pr, wherever V is read. -/
def Tells (V : Vw) (fv : Value) (pr : Hold → Bool) : Prop :=
  ∀ x w', V.le (vw w') → CallsFn Try.prog fv [x.val] w' fun e w'' => e = .returned (.bool (pr x)) ∧ Below w'.heap.size w' w''

theorem spIndexFunc_c (V : Vw) (fv sv : Value) (pr : Hold → Bool) (l : List Hold) (w : World) (hV : V.le (vw w)) (hs : SlOf V Hold.cells 4 sv l) (hn : l.length ≤ lim) (hf : Tells V fv pr) :
    Calls Try.prog 64 #[sv, fv] w fun e w' => e = .returned (I (idxOf pr l)) ∧ Below w.heap.size w w' := by
  unfold lim at hn
  have hs' := hs.mono hV
  refine enter (E := E0) (O := []) (nl := 0) (V := vw w) [.a (.v sv), .a (.v fv)] Try.func64 rfl rfl (mem0 E0 0 w) rfl rfl ?_
  refine c_seq ?_
  refine c_region ?_
  refine o_yield rfl rfl rfl (y_val tok rfl) ?_
  refine o_end [0, 1] rfl ?_
  refine x_then ?_
  refine c_seq ?_
  refine c_seq ?_
  refine c_region ?_
  refine o_yield rfl rfl rfl (y_val tok rfl) ?_
  refine o_yield rfl rfl rfl (y_len tok rfl (fun hg => hs'.sl)) ?_
  refine o_yield rfl rfl rfl (y_val tok rfl) ?_
  refine o_end [0, 1, 7, 8] rfl ?_
  refine x_then ?_
  refine c_block ?_
  refine c_loop (σ := Nat) (fun k => [(0, .a (.v sv)), (1, .a (.v fv)), (7, .a (.v (I l.length))), (8, .a (.v (I k)))]) (fun _ => []) 0 (fun _ => vw w)
    (fun k => k ≤ l.length ∧ ∀ j x, j < k → l[j]? = some x → pr x = false) (fun k => l.length - k) 0 ⟨by omega, by simp⟩ ⟨rfl, rfl, rfl, rfl, trivial⟩ trivial rfl (Vw.le.refl _) ?_
  rintro k ⟨hk, hall⟩
  refine c_seq ?_
  refine c_region ?_
  refine o_yield rfl rfl rfl (y_val tok rfl) ?_
  refine o_end [0, 1, 7, 8, 9] rfl ?_
  refine x_then ?_
  refine c_seq ?_
  refine c_cond rfl (fun h => ?_) (fun h => ?_)
  ·
    refine c_skip ?_
    refine x_then ?_
    refine c_seq ?_
    refine c_block ?_
    refine c_seq ?_
    refine c_region ?_
    refine o_yield rfl rfl rfl (y_val tok rfl) ?_
    refine o_yield rfl rfl rfl (y_val tok rfl) ?_
    refine o_end [0, 1, 5, 7, 8] rfl ?_
    refine x_then ?_
    refine c_seq ?_
    refine c_region ?_
    refine o_yield rfl rfl rfl (y_val tok rfl) ?_
    refine o_yield rfl rfl rfl (y_val tok rfl) ?_
    refine o_yield rfl rfl rfl (y_val tok rfl) ?_
    have hlt : k < l.length := by simp at h; exact h
    have hx : l[k]? = some l[k] := by simp [hlt]
    refine o_yield rfl rfl rfl (y_idx tok rfl (fun hg => hs'.sl) (fun hg => ⟨by omega, by omega⟩)) ?_
    refine o_yield rfl rfl rfl (y_lel tok (k) 0 (l[k]) rfl (fun hg => hs') (fun hg => hx) rfl rfl) ?_
    refine o_callF (.a (.v _)) rfl rfl rfl rfl rfl (fun hg E w1 hm => by exact hf l[k] w1 (hV.trans hm.leV)) ?_
    refine o_end [0, 1, 5, 7, 8, 16] rfl ?_
    refine x_then ?_
    refine c_cond rfl (fun h => ?_) (fun h => ?_)
    ·
      refine c_seq ?_
      refine c_region ?_
      refine o_yield rfl rfl rfl (y_val tok rfl) ?_
      refine o_yield rfl rfl rfl (y_val tok rfl) ?_
      refine o_end [4] rfl ?_
      refine x_then ?_
      refine c_ret ?_
      refine x_block_ret ?_
      refine x_then_ret ?_
      refine x_then_ret ?_
      refine x_block_ret ?_
      refine x_then_ret ?_
      refine b_ret tok rfl ?_
      intro E w' hm _
      refine ⟨?_, hm.below (Vw.le.refl _)⟩
      rw [idxOf, findIdx?_at hx h hall]; rfl
    ·
      refine c_skip ?_
      refine x_block ?_
      refine x_then ?_
      refine c_region ?_
      refine o_yield rfl rfl rfl (y_val tok rfl) ?_
      refine o_yield rfl rfl rfl (y_val tok rfl) ?_
      refine o_end [0, 1, 7, 8] rfl ?_
      refine x_then ?_
      rw [wrapI (by omega) (by omega)]
      exact x_round (k + 1) ⟨by omega, ahead_succ hx hall h⟩ (by omega) ⟨rfl, rfl, rfl, rfl, trivial⟩ trivial rfl (Vw.le.refl _)
  ·
    refine c_exit ?_
    refine x_then_exit ?_
    refine x_then_exit ?_
    refine x_block_hit ?_
    refine x_then ?_
    refine c_seq ?_
    refine c_region ?_
    refine o_yield rfl rfl rfl (y_val tok rfl) ?_
    refine o_end [4] rfl ?_
    refine x_then ?_
    refine c_ret ?_
    refine b_ret tok rfl ?_
    have hge : k = l.length := by simp at h; omega
    intro E w' hm _
    refine ⟨?_, hm.below (Vw.le.refl _)⟩
    rw [idxOf, findIdx?_no (hge ▸ hall)]; rfl

theorem spContainsFunc_c (V : Vw) (fv sv : Value) (pr : Hold → Bool) (l : List Hold) (w : World) (hV : V.le (vw w)) (hs : SlOf V Hold.cells 4 sv l) (hn : l.length ≤ lim) (hf : Tells V fv pr) :
    Calls Try.prog 93 #[sv, fv] w fun e w' => e = .returned (.bool (l.any pr)) ∧ Below w.heap.size w w' := by
  refine enter (E := E0) (O := []) (nl := 0) (V := vw w) [.a (.v sv), .a (.v fv)] Try.func93 rfl rfl (mem0 E0 0 w) rfl rfl ?_
  refine c_seq ?_
  refine c_region ?_
  refine o_yield rfl rfl rfl (y_val tok rfl) ?_
  refine o_end [0, 1] rfl ?_
  refine x_then ?_
  refine c_seq ?_
  refine c_region ?_
  refine o_yield rfl rfl rfl (y_val tok rfl) ?_
  refine o_yield rfl rfl rfl (y_val tok rfl) ?_
  refine o_call (.a (.v _)) rfl rfl fnok64 rfl rfl rfl (fun hg E w1 hm => by exact spIndexFunc_c V fv sv pr l _ (hV.trans hm.leV) hs hn hf) ?_
  refine o_yield rfl rfl rfl (y_val tok rfl) ?_
  refine o_yield rfl rfl rfl (y_val tok rfl) ?_
  refine o_end [4] rfl ?_
  refine x_then ?_
  refine c_ret ?_
  refine b_ret tok rfl ?_
  intro E w' hm _
  refine ⟨?_, hm.below (Vw.le.refl _)⟩
  have : decide (0 ≤ idxOf pr l) = l.any pr := by
    rw [← any_findIdx, idxOf]
    cases l.findIdx? pr <;> simp
  rw [← this]; rfl

/-- The function that 'every' hands on. -/
theorem spEveryFn_c (V : Vw) (fv : Value) (pr : Hold → Bool) (b : Nat) (hb : V.get b = some (.cells #[fv] 130 (0, 0))) (hf : Tells V fv pr) (x : Hold) (w : World) (hV : V.le (vw w)) :
    Calls Try.prog 94 #[x.val, .pointer (some ⟨b, 0, none⟩)] w fun e w' => e = .returned (.bool (!pr x)) ∧ Below w.heap.size w w' := by
  refine enter (E := E0) (O := []) (nl := 0) (V := vw w) [.a (.v x.val), .a (.v (.pointer (some ⟨b, 0, none⟩)))] Try.func94 rfl rfl (mem0 E0 0 w) rfl rfl ?_
  refine c_seq ?_
  refine c_region ?_
  refine o_new tok rfl rfl rfl rfl ?_
  refine o_yield rfl rfl rfl (y_val tok rfl) ?_
  refine o_end [1, 2] rfl ?_
  refine x_then ?_
  refine c_seq ?_
  refine c_region ?_
  refine o_yield rfl rfl rfl (y_ldp (cs := [fv]) tok rfl (fun hg => hV.get _ _ hb) rfl) ?_
  refine o_yield rfl rfl rfl (y_val tok rfl) ?_
  refine o_callF (.a (.v _)) rfl rfl rfl rfl rfl (fun hg E w1 hm => by exact hf x w1 (hV.trans hm.leV)) ?_
  refine o_yield rfl rfl rfl (y_val tok rfl) ?_
  refine o_yield rfl rfl rfl (y_val tok rfl) ?_
  refine o_end [3] rfl ?_
  refine x_then ?_
  refine c_ret ?_
  refine b_ret tok rfl ?_
  intro E w' hm _
  exact ⟨rfl, hm.below (Vw.le.refl _)⟩

theorem spEvery_c (V : Vw) (k : Nat) (caps : Array Value) (sv : Value) (pr : Hold → Bool) (l : List Hold) (w : World) (hV : V.le (vw w)) (hs : SlOf V Hold.cells 4 sv l) (hn : l.length ≤ lim)
    (hf : Tells V (.func (.func k) #[] caps) pr) :
    Calls Try.prog 80 #[.func (.func k) #[] caps, sv] w fun e w' => e = .returned (.bool (l.all pr)) ∧ Below w.heap.size w w' := by
  refine enter (E := E0) (O := []) (nl := 0) (V := vw w) [.a (.v (.func (.func k) #[] caps)), .a (.v sv)] Try.func80 rfl rfl (mem0 E0 0 w) rfl rfl ?_
  refine c_seq ?_
  refine c_region ?_
  refine o_new tok rfl rfl rfl rfl ?_
  refine o_yield rfl rfl rfl (y_val tok rfl) ?_
  refine o_end [1, 2] rfl ?_
  refine x_then ?_
  refine c_seq ?_
  refine c_region ?_
  refine o_yield rfl rfl rfl (y_val tok rfl) ?_
  refine o_yield rfl rfl rfl (y_val tok rfl) ?_
  refine o_call (.a (.v (.bool (l.any fun x => !pr x)))) rfl rfl fnok93 rfl rfl rfl (fun hg E w1 hm => ?_) ?_
  · have hle := hm.leV
    have hb := hm.lit 0 _ _ rfl
    refine spContainsFunc_c (vw w1) _ sv (fun x => !pr x) l w1 (Vw.le.refl _) (hs.mono (hV.trans hle)) hn ?_
    intro x w' hle'
    exact ⟨94, _, rfl, fnok94, spEveryFn_c (vw w1) _ pr (E.ρ 0) hb (fun x w' h => hf x w' ((hV.trans hle).trans h)) x w' hle'⟩
  refine o_yield rfl rfl rfl (y_val tok rfl) ?_
  refine o_yield rfl rfl rfl (y_val tok rfl) ?_
  refine o_end [4] rfl ?_
  refine x_then ?_
  refine c_ret ?_
  refine b_ret tok rfl ?_
  intro E w' hm _
  refine ⟨?_, hm.below (Vw.le.refl _)⟩
  show Ending.returned (.bool (!(l.any fun x => !pr x))) = _
  rw [List.all_eq_not_any_not]

/-! Fits -/

theorem spFitsFn_c (V : Vw) (h : Hold) (b : Nat) (hb : V.get b = some (.cells h.cells.toArray 92 (0, 0))) (x : Hold) (w : World) (hV : V.le (vw w)) :
    Calls Try.prog 96 #[x.val, .pointer (some ⟨b, 0, none⟩)] w fun e w' => e = .returned (.bool (together h x)) ∧ Below w.heap.size w w' := by
  refine enter (E := E0) (O := []) (nl := 0) (V := vw w) [.a (.v x.val), .a (.v (.pointer (some ⟨b, 0, none⟩)))] Try.func96 rfl rfl (mem0 E0 0 w) rfl rfl ?_
  refine c_seq ?_
  refine c_region ?_
  refine o_new tok rfl rfl rfl rfl ?_
  refine o_yield rfl rfl rfl (y_val tok rfl) ?_
  refine o_end [1, 2] rfl ?_
  refine x_then ?_
  refine c_seq ?_
  refine c_region ?_
  refine o_yield rfl rfl rfl (y_ldp (cs := h.cells) tok rfl (fun hg => hV.get _ _ hb) rfl) ?_
  refine o_yield rfl rfl rfl (y_val tok rfl) ?_
  refine o_call (.a (.v _)) rfl rfl fnok97 rfl rfl rfl (fun hg E w1 hm => by exact spTogether_c h x _) ?_
  refine o_yield rfl rfl rfl (y_val tok rfl) ?_
  refine o_end [3] rfl ?_
  refine x_then ?_
  refine c_ret ?_
  refine b_ret tok rfl ?_
  intro E w' hm _
  exact ⟨rfl, hm.below (Vw.le.refl _)⟩

def fits (h : Hold) (l : List Hold) : Bool := l.all (together h)

theorem spFits_c (V : Vw) (h : Hold) (sv : Value) (l : List Hold) (w : World) (hV : V.le (vw w)) (hs : SlOf V Hold.cells 4 sv l) (hn : l.length ≤ lim) :
    Calls Try.prog 83 #[h.val, sv] w fun e w' => e = .returned (.bool (fits h l)) ∧ Below w.heap.size w w' := by
  refine enter (E := E0) (O := []) (nl := 0) (V := vw w) [.a (.v h.val), .a (.v sv)] Try.func83 rfl rfl (mem0 E0 0 w) rfl rfl ?_
  refine c_seq ?_
  refine c_region ?_
  refine o_new tok rfl rfl rfl rfl ?_
  refine o_yield rfl rfl rfl (y_val tok rfl) ?_
  refine o_end [1, 2] rfl ?_
  refine x_then ?_
  refine c_seq ?_
  refine c_region ?_
  refine o_yield rfl rfl rfl (y_val tok rfl) ?_
  refine o_yield rfl rfl rfl (y_val tok rfl) ?_
  refine o_call (.a (.v (.bool (fits h l)))) rfl rfl fnok80 rfl rfl rfl (fun hg E w1 hm => ?_) ?_
  · refine spEvery_c (vw w1) 96 _ sv (together h) l w1 (Vw.le.refl _) (hs.mono (hV.trans hm.leV)) hn ?_
    intro x w' hle'
    exact ⟨96, _, rfl, fnok96, spFitsFn_c (vw w1) h (E.ρ 0) (hm.lit 0 _ _ rfl) x w' hle'⟩
  refine o_yield rfl rfl rfl (y_val tok rfl) ?_
  refine o_end [4] rfl ?_
  refine x_then ?_
  refine c_ret ?_
  refine b_ret tok rfl ?_
  intro E w' hm _
  exact ⟨rfl, hm.below (Vw.le.refl _)⟩

/-! Covers -/

def coversAt (key block mode : Int) (o : Hold) : Bool := ((o.key == key) && hasB o.lo o.hi block) && ((o.mode == mode) || (o.mode == 2))

def covers (l : List Hold) (key block mode : Int) : Bool := l.any (coversAt key block mode)

/-! Touches -/

def touchesAt (key lo hi : Int) (o : Hold) : Bool := (o.key == key) && meets o.lo o.hi lo hi

theorem spTouchesFn_c (V : Vw) (key lo hi : Int) (b1 b2 : Nat) (h1 : V.get b1 = some (.cells #[I key] 3 (0, 0))) (h2 : V.get b2 = some (.cells #[I lo, I hi] 36 (0, 0)))
    (o : Hold) (w : World) (hV : V.le (vw w)) :
    Calls Try.prog 81 #[o.val, .pointer (some ⟨b1, 0, none⟩), .pointer (some ⟨b2, 0, none⟩)] w fun e w' => e = .returned (.bool (!touchesAt key lo hi o)) ∧ Below w.heap.size w w' := by
  refine enter (E := E0) (O := []) (nl := 0) (V := vw w) [.a (.v o.val), .a (.v (.pointer (some ⟨b1, 0, none⟩))), .a (.v (.pointer (some ⟨b2, 0, none⟩)))] Try.func81 rfl rfl (mem0 E0 0 w) rfl rfl ?_
  refine c_seq ?_
  refine c_region ?_
  refine o_new tok rfl rfl rfl rfl ?_
  refine o_yield rfl rfl rfl (y_val tok rfl) ?_
  refine o_end [1, 2, 3] rfl ?_
  refine x_then ?_
  refine c_seq ?_
  refine c_region ?_
  refine o_yield rfl rfl rfl (y_val tok rfl) ?_
  refine o_yield rfl rfl rfl (y_val tok rfl) ?_
  refine o_yield rfl rfl rfl (y_ldp (cs := [I key]) tok rfl (fun hg => hV.get _ _ h1) rfl) ?_
  refine o_yield rfl rfl rfl (y_val tok rfl) ?_
  refine o_yield rfl rfl rfl (y_val tok rfl) ?_
  refine o_yield rfl rfl rfl (y_val tok rfl) ?_
  refine o_yield rfl rfl rfl (y_val tok rfl) ?_
  refine o_yield rfl rfl rfl (y_ldp (cs := [I lo, I hi]) tok rfl (fun hg => hV.get _ _ h2) rfl) ?_
  refine o_call (.a (.v _)) rfl rfl fnok82 rfl rfl rfl (fun hg E w1 hm => by exact spOverlap_c _ _ _ _ _) ?_
  refine o_yield rfl rfl rfl (y_val tok rfl) ?_
  refine o_yield rfl rfl rfl (y_val tok rfl) ?_
  refine o_yield rfl rfl rfl (y_val tok rfl) ?_
  refine o_end [4] rfl ?_
  refine x_then ?_
  refine c_ret ?_
  refine b_ret tok rfl ?_
  intro E w' hm _
  refine ⟨?_, hm.below (Vw.le.refl _)⟩
  show Ending.returned (.bool ((o.key != key) || !meets o.lo o.hi lo hi)) = _
  congr 2
  unfold touchesAt bne
  cases (o.key == key) <;> cases meets o.lo o.hi lo hi <;> rfl

def touches (l : List Hold) (key lo hi : Int) : Bool := l.any (touchesAt key lo hi)

theorem spTouches_c (V : Vw) (sv : Value) (l : List Hold) (key lo hi : Int) (w : World) (hV : V.le (vw w)) (hs : SlOf V Hold.cells 4 sv l) (hn : l.length ≤ lim) :
    Calls Try.prog 62 #[sv, I key, .agg #[I lo, I hi]] w fun e w' => e = .returned (.bool (touches l key lo hi)) ∧ Below w.heap.size w w' := by
  refine enter (E := E0) (O := []) (nl := 0) (V := vw w) [.a (.v sv), .a (.v (I key)), .a (.v (.agg #[I lo, I hi]))] Try.func62 rfl rfl (mem0 E0 0 w) rfl rfl ?_
  refine c_seq ?_
  refine c_region ?_
  refine o_new tok rfl rfl rfl rfl ?_
  refine o_new tok rfl rfl rfl rfl ?_
  refine o_yield rfl rfl rfl (y_val tok rfl) ?_
  refine o_end [0, 4, 5] rfl ?_
  refine x_then ?_
  refine c_seq ?_
  refine c_region ?_
  refine o_yield rfl rfl rfl (y_val tok rfl) ?_
  refine o_yield rfl rfl rfl (y_val tok rfl) ?_
  refine o_call (.a (.v (.bool (l.all fun o => !touchesAt key lo hi o)))) rfl rfl fnok80 rfl rfl rfl (fun hg E w1 hm => ?_) ?_
  · refine spEvery_c (vw w1) 81 _ sv (fun o => !touchesAt key lo hi o) l w1 (Vw.le.refl _) (hs.mono (hV.trans hm.leV)) hn ?_
    intro x w' hle'
    exact ⟨81, _, rfl, fnok81, spTouchesFn_c (vw w1) key lo hi (E.ρ 0) (E.ρ 1) (hm.lit 0 _ _ rfl) (hm.lit 1 _ _ rfl) x w' hle'⟩
  refine o_yield rfl rfl rfl (y_val tok rfl) ?_
  refine o_yield rfl rfl rfl (y_val tok rfl) ?_
  refine o_end [6] rfl ?_
  refine x_then ?_
  refine c_ret ?_
  refine b_ret tok rfl ?_
  intro E w' hm _
  refine ⟨?_, hm.below (Vw.le.refl _)⟩
  show Ending.returned (.bool (!(l.all fun o => !touchesAt key lo hi o))) = _
  rw [touches, List.any_eq_not_all_not]

/-! All -/

def allFrom : List Hold → Nat → List Hold → Bool
  | _, _, [] => true
  | l, i, h :: r => fits h (l.take i) && allFrom l (i + 1) r

def allB (l : List Hold) : Bool := allFrom l 0 l

end Go.Proofs.Ythmejhpfhkddiaa

/- Spans: the document's. -/
set_option linter.unusedVariables false
set_option linter.unusedSimpArgs false
set_option maxRecDepth 100000
namespace Go.Proofs.Ythmejhpfhkddiaa
open Go Go.Eng Go.RowKit


/-! What the document says of two holds -/

end Go.Proofs.Ythmejhpfhkddiaa

/- Spans: plain laws. -/
set_option linter.unusedVariables false
set_option linter.unusedSimpArgs false
set_option maxRecDepth 100000
namespace Go.Proofs.Ythmejhpfhkddiaa
open Go Go.Eng Go.RowKit

theorem meets_comm (lo hi lo' hi' : Int) : meets lo hi lo' hi' = meets lo' hi' lo hi := by
  simp only [meets]
  rw [Bool.and_comm (!decide (hi < lo)), Bool.or_comm]

theorem together_comm (a b : Hold) : together a b = together b a := by
  simp only [together]
  rw [meets_comm, show (a.key == b.key) = (b.key == a.key) by rw [Bool.eq_iff_iff]; simp; exact eq_comm, Bool.and_comm (a.mode == 1)]

theorem allFrom_iff (l : List Hold) : ∀ (r : List Hold) (i : Nat), l.drop i = r → (allFrom l i r = true ↔ ∀ j x, i ≤ j → l[j]? = some x → fits x (l.take j) = true)
  | [], i, hd => by
    have : l.length ≤ i := by simpa using hd
    simp only [allFrom, true_iff]
    intro j x hj hx
    have := (List.getElem?_eq_some_iff.1 hx).1
    omega
  | y :: r, i, hd => by
    have hlt : i < l.length := by
      rcases Nat.lt_or_ge i l.length with h | h
      · exact h
      · rw [List.drop_eq_nil_of_le h] at hd; cases hd
    have hy : l[i]? = some y := by
      have := congrArg (fun q : List Hold => q[0]?) hd
      simpa using this
    have hr : l.drop (i + 1) = r := by
      have := congrArg List.tail hd
      simpa using this
    have ih := allFrom_iff l r (i + 1) hr
    simp only [allFrom, Bool.and_eq_true, ih]
    constructor
    · rintro ⟨h1, h2⟩ j x hj hx
      by_cases e : j = i
      · subst e; rw [hy] at hx; cases hx; exact h1
      · exact h2 j x (by omega) hx
    · intro h
      exact ⟨h i y (Nat.le_refl _) hy, fun j x hj hx => h j x (by omega) hx⟩

theorem allB_iff (l : List Hold) : allB l = true ↔ ∀ j x, l[j]? = some x → fits x (l.take j) = true := by
  rw [allB, allFrom_iff l l 0 rfl]
  exact ⟨fun h j x hx => h j x (Nat.zero_le _) hx, fun h j x _ hx => h j x hx⟩

theorem allB_two {l : List Hold} (h : allB l = true) {i j : Nat} {x y : Hold} (hx : l[i]? = some x) (hy : l[j]? = some y) : together x y = true := by
  rw [allB_iff] at h
  have key : ∀ {i j : Nat} {x y : Hold}, i < j → l[i]? = some x → l[j]? = some y → together y x = true := by
    intro i j x y hij hx hy
    have := h j y hy
    rw [fits, List.all_eq_true] at this
    exact this x (List.mem_of_getElem? (by rw [List.getElem?_take_of_lt hij]; exact hx))
  rcases Nat.lt_trichotomy i j with hij | hij | hij
  · rw [together_comm]; exact key hij hx hy
  · subst hij
    rw [hx] at hy
    cases hy
    simp [together]
  · exact key hij hy hx

theorem allB_more (l : List Hold) (x : Hold) (h : allB l = true) : allB (l ++ [x]) = fits x l := by
  rw [Bool.eq_iff_iff, allB_iff]
  rw [allB_iff] at h
  constructor
  · intro h1
    have := h1 l.length x (by simp)
    simpa using this
  · intro h1 j y hy
    rcases Nat.lt_or_ge j l.length with hj | hj
    · rw [List.getElem?_append_left hj] at hy
      rw [List.take_append_of_le_length (by omega)]
      exact h j y hy
    · rw [List.getElem?_append_right hj] at hy
      have : j = l.length := by
        have := (List.getElem?_eq_some_iff.1 hy).1
        simp at this; omega
      subst this
      simp at hy
      subst hy
      simpa using h1

theorem hold_ones (l : List Hold) : ∀ u ∈ l.flatMap Hold.cells, u.oneCell' = true := by
  intro u hu
  obtain ⟨x, _, hx⟩ := List.mem_flatMap.1 hu
  simp only [Hold.cells, List.mem_cons, List.not_mem_nil, or_false] at hx
  rcases hx with rfl | rfl | rfl | rfl <;> rfl

end Go.Proofs.Ythmejhpfhkddiaa
