/- Sectors that are sealed: the program's. -/
import Derived.Test.YtlcpfhjbhogdiaaPPut
set_option linter.unusedVariables false
set_option linter.unusedSimpArgs false
set_option maxRecDepth 100000
namespace Go.Proofs.Ytlcpfhjbhogdiaa
open Go Go.Eng Go.RowKit

theorem bput_c (k : Int) (bl : List UInt8) (bv : Value) (ls : List Int) (lv : Value) (b e0 : Nat) (tl : List Value) (w : World) (hb : w.heap[b]? = some (.cells (bv :: I 0 :: tl).toArray e0 (0, 0)))
    (hs : SlOf ((vw w).del b) encByte 1 bv bl) (hl : SlOf ((vw w).del b) encI64 1 lv ls) (hok : putOk k ls = true) (hbn : bl.length ≤ 1099511627776) (hln : ls.length ≤ 1099511627776) :
    Calls Try.prog 140 #[.pointer (some ⟨b, 0, none⟩), I k, lv] w fun e w' => e = .returned (.tuple #[]) ∧ ∃ v, Go.Eng.Touch (· = b) w w' ∧ w'.ownsRow w.heap.size 5 1 v (putL bl k ls).length ((putL bl k ls).flatMap encByte) ∧
      w'.heap[b]? = some (.cells (v :: I 0 :: tl).toArray e0 (0, 0)) := by
  refine enter1 [.a (.ptr 0 0), .a (.v (I k)), .a (.v lv)] hb Try.func140 rfl rfl rfl rfl ?_
  refine c_seq ?_
  refine c_region ?_
  refine o_yield rfl rfl rfl (y_val tok rfl) ?_
  refine o_yield rfl rfl rfl (y_val tok rfl) ?_
  refine o_yield rfl rfl rfl (y_val tok rfl) ?_
  refine o_yield rfl rfl rfl (y_val tok rfl) ?_
  refine o_yield rfl rfl rfl (y_val tok rfl) ?_
  refine o_yield rfl rfl rfl (y_val tok rfl) ?_
  refine o_step rfl rfl rfl rfl rfl (s_numPut bl k ls rfl hok hbn hln (fun E w1 hm => ⟨bv, lv, rfl, hs.mono hm.leV, hl.mono hm.leV⟩)) (fun _ _ => ?_)
  refine o_yield rfl rfl rfl (y_val tok rfl) ?_
  refine o_yield rfl rfl rfl (y_val tok rfl) ?_
  refine o_yield rfl rfl rfl (y_val tok rfl) ?_
  refine o_yield rfl rfl rfl (y_val tok rfl) ?_
  refine o_yield rfl rfl rfl (y_val tok rfl) ?_
  refine o_end [0, 6, 7] rfl ?_
  refine x_then ?_
  refine c_seq ?_
  refine c_seq ?_
  refine c_region ?_
  refine o_yield rfl rfl rfl (y_val tok rfl) ?_
  refine o_yield rfl rfl rfl (y_val tok rfl) ?_
  refine o_end [0, 6, 19] rfl ?_
  refine x_then ?_
  refine c_cond rfl (fun h => ?_) (fun h => ?_)
  · exact absurd h (by decide)
  ·
    refine c_skip ?_
    refine x_then ?_
    refine c_region ?_
    refine o_yield rfl rfl rfl (y_val tok rfl) ?_
    refine o_yield rfl rfl rfl (y_val tok rfl) ?_
    refine o_yield rfl rfl rfl (y_val tok rfl) ?_
    refine o_yield rfl rfl rfl (y_val tok rfl) ?_
    refine o_store tok rfl rfl rfl (by first | exact ⟨trivial, trivial⟩ | simp [onesP, oneP, lk, Value.oneCell']) ?_
    refine o_end [] rfl ?_
    refine b_end tok rfl ?_
    intro E w' hm _
    obtain ⟨h1, h2⟩ := back1 hm (Vw.le.refl _) rfl rfl rfl
    refine ⟨rfl, E.κ 3, h1, hm.rowFreshD (Vw.le.refl _) (l0 := 0) rfl (hm.pin 1 0 _ rfl).1 (l := 3) rfl, ?_⟩
    rw [h2]
    simp only [List.map_cons, (den_plain E tl).1]
    rfl

section
variable {o : Oper} {n : Nat} {F : Frame0} {C : List Nat} {O : Own} {nl : Nat} {V : Vw}

/-- Putting what fits behind a receiver's bytes: the bytes a row of one's own. -/
theorem s_bput {p : List (Nat × Bool)} (l r e0 e1 : Nat) (bl : List UInt8) (k : Int) (ls : List Int) (tl : List Value) (ss : List SV) (hv : evalC F p o.op = some (140, ss)) (hss : ∀ E, ∃ lv, ss.map (SV.den E) = [.pointer (some ⟨E.ρ l, 0, none⟩), I k, lv] ∧ ∀ w, Mem E O nl V w → SlOf ((vw w).del (E.ρ l)) encI64 1 lv ls)
    (hl : lk O l = some (.lit (.row r :: .v (I 0) :: tl.map .v) e0)) (hr : lk O r = some (.row e1 1 bl.length (bl.flatMap encByte))) (hok : putOk k ls = true) (hbn : bl.length ≤ 1099511627776) (hln : ls.length ≤ 1099511627776) :
    StepTo Try.prog o p n F C O nl V (σ := Unit) (fun _ => True) (fun _ => .tup []) (fun _ => (l, .lit (.row nl :: .v (I 0) :: tl.map .v) e0) :: (nl, .row 5 1 (putL bl k ls).length ((putL bl k ls).flatMap encByte)) :: O) (nl + 1) (fun _ => V) := by
  refine s_callWR (fun _ => True) (fun _ => .tup []) l e0 5 1 (fun _ => (putL bl k ls).length) (fun _ => (putL bl k ls).flatMap encByte) (fun _ => .row nl :: .v (I 0) :: tl.map .v) hv fnok140 hl
    (fun _ => by simp only [allOk, A.ok, blt_iff, Bool.and_eq_true, Bool.true_and]; exact ⟨by omega, (den_plain E0 tl).2 _⟩) (fun _ => rfl) ?_
  intro E w hm hb
  obtain ⟨lv, ha, hlv⟩ := hss E
  rw [ha]
  refine (bput_c k bl (E.κ r) ls lv (E.ρ l) e0 tl w (by rw [hb]; simp only [List.map_cons, (den_plain E tl).1]; rfl) (hm.rowOfDel r hl hr (fun _ => rfl)) (hlv w hm) hok hbn hln).mono ?_
  rintro e w' ⟨rfl, v, ht, hown, hv'⟩
  refine ⟨(), v, rfl, ht, hown, ?_, trivial⟩
  rw [hv']
  simp only [List.map_cons, (den_plain _ tl).1]
  simp [A.den, Env.setκ]
end

theorem putOk_four {c : Nat} (h : c < 4294967296) : putOk 4 [(c : Int)] = true := by
  have : mostN (4 : Int).toNat = 4294967295 := by decide
  simp only [putOk, List.all_cons, List.all_nil, Bool.and_true, fitsB, this]
  simp [widthB]
  omega

theorem putL_one (bl : List UInt8) (k : Int) (n : Int) : putL bl k [n] = bl ++ leB k n := by simp [putL]

theorem sealed_c (kind : Int) (hk : R8 kind) (s : ByteArray) (hs : s.size ≤ maxLen) (bv : Value) (b : Nat) (w : World) (hb : w.heap[b]? = some (.cells [bv, I 0, I8 kind].toArray 192 (0, 0))) :
    Calls Try.prog 139 #[.pointer (some ⟨b, 0, none⟩), S s] w fun e w' => e = .returned (.tuple #[S (sealS kind s).1, I (sealS kind s).2]) ∧ ∃ vs : List Value, Go.Eng.Touch (· = b) w w' ∧ w'.heap[b]? = some (.cells vs.toArray 192 (0, 0)) := by
  unfold R8 at hk
  simp only [maxLen] at hs
  refine enter1 [.a (.ptr 0 0), .a (.v (S s))] hb Try.func139 rfl rfl rfl rfl ?_
  refine c_seq ?_
  refine c_region ?_
  refine o_yield rfl rfl rfl (y_val tok rfl) ?_
  refine o_yield rfl rfl rfl (y_val tok rfl) ?_
  refine o_end [0, 1] rfl ?_
  refine x_then ?_
  refine c_seq ?_
  refine c_seq ?_
  refine c_region ?_
  refine o_yield rfl rfl rfl (y_val tok rfl) ?_
  refine o_yield rfl rfl rfl (y_val tok rfl) ?_
  refine o_yield rfl rfl rfl (y_val tok rfl) ?_
  refine o_yield rfl rfl rfl (y_val tok rfl) ?_
  refine o_yield rfl rfl rfl (y_val tok rfl) ?_
  refine o_yield rfl rfl rfl (y_val tok rfl) ?_
  refine o_yield rfl rfl rfl (y_val tok rfl) ?_
  refine o_yield rfl rfl rfl (y_val tok rfl) ?_
  refine o_yield rfl rfl rfl (y_val tok rfl) ?_
  refine o_yield rfl rfl rfl (y_val tok rfl) ?_
  refine o_end [0, 1, 15] rfl ?_
  refine x_then ?_
  refine c_cond rfl (fun h => ?_) (fun h => ?_)
  ·
    simp only [Bool.and_eq_true, Bool.or_eq_true, Bool.not_eq_true', Bool.or_eq_false_iff, Bool.and_eq_false_iff, decide_eq_true_eq, decide_eq_false_iff_not, beq_iff_eq, bne_iff_ne, Bool.not_eq_false', beq_eq_false_iff_ne, bne_eq_false_iff_eq, ne_eq, Decidable.not_not, Int.not_lt, Int.not_le] at h
    refine c_seq ?_
    refine c_region ?_
    refine o_yield rfl rfl rfl (y_val tok rfl) ?_
    refine o_yield rfl rfl rfl (y_val tok rfl) ?_
    refine o_end [4, 5] rfl ?_
    refine x_then ?_
    refine c_ret ?_
    refine x_then_ret ?_
    refine b_ret tok rfl ?_
    intro E w' hm _
    obtain ⟨h1, h2⟩ := back1 hm (Vw.le.refl _) rfl rfl rfl
    refine ⟨?_, _, h1, h2⟩
    rw [sealS, if_pos (by omega)]
    rfl
  ·
    simp only [Bool.and_eq_true, Bool.or_eq_true, Bool.not_eq_true', Bool.or_eq_false_iff, Bool.and_eq_false_iff, decide_eq_true_eq, decide_eq_false_iff_not, beq_iff_eq, bne_iff_ne, Bool.not_eq_false', beq_eq_false_iff_ne, bne_eq_false_iff_eq, ne_eq, Decidable.not_not, Int.not_lt, Int.not_le] at h
    refine c_skip ?_
    refine x_then ?_
    refine c_seq ?_
    refine c_region ?_
    refine o_yield rfl rfl rfl (y_val tok rfl) ?_
    refine o_yield rfl rfl rfl (y_val tok rfl) ?_
    refine o_yield rfl rfl rfl (y_val tok rfl) ?_
    refine o_yield rfl rfl rfl (y_val tok rfl) ?_
    refine o_yield rfl rfl rfl (y_val tok rfl) ?_
    refine o_yield rfl rfl rfl (y_val tok rfl) ?_
    obtain ⟨h1, h2⟩ := h
    have hsz := size_list s
    have hk8 : (kindOf8 kind).toNat = kind.toNat := by
      rw [kindOf8, UInt8.toNat_ofNat']; omega
    rw [show IntKind.u8.wrap kind = (((kindOf8 kind).toNat : Nat) : Int) by rw [hk8, IntKind.wrap_u8']; omega]
    refine o_step rfl rfl rfl rfl rfl (s_bs tok 1 rfl rfl rfl) (fun _ _ => ?_)
    refine o_yield rfl rfl rfl (y_val tok rfl) ?_
    refine o_yield rfl rfl rfl (y_val tok rfl) ?_
    refine o_yield rfl rfl rfl (y_val tok rfl) ?_
    refine o_store tok rfl rfl rfl (by first | exact ⟨trivial, trivial⟩ | simp [onesP, oneP, lk, Value.oneCell']) ?_
    refine o_end [0, 1] rfl ?_
    refine x_then ?_
    refine c_seq ?_
    refine c_region ?_
    refine o_yield rfl rfl rfl (y_val tok rfl) ?_
    refine o_yield rfl rfl rfl (y_val tok rfl) ?_
    refine o_yield rfl rfl rfl (y_val tok rfl) ?_
    refine o_yield rfl rfl rfl (y_val tok rfl) ?_
    refine o_yield rfl rfl rfl (y_val tok rfl) ?_
    refine o_step rfl rfl rfl rfl rfl (s_bs tok 1 rfl rfl rfl) (fun _ _ => ?_)
    refine o_step rfl rfl rfl rfl rfl (s_bput 0 3 192 5 [kindOf8 kind] 2 [(s.size : Int)] [I8 kind] _ rfl (fun E => ⟨E.κ 4, rfl, fun w hm => hm.rowOfDel (enc := encI64) (L := [(s.size : Int)]) 4 rfl rfl (fun _ => rfl)⟩) rfl rfl (putOk_two (by omega)) (by simp) (by simp)) (fun _ _ => ?_)
    refine o_end [0, 1] rfl ?_
    refine x_then ?_
    refine c_seq ?_
    refine c_region ?_
    refine o_yield rfl rfl rfl (y_val tok rfl) ?_
    refine o_yield rfl rfl rfl (y_val tok rfl) ?_
    refine o_yield rfl rfl rfl (y_val tok rfl) ?_
    refine o_yield rfl rfl rfl (y_val tok rfl) ?_
    refine o_yield rfl rfl rfl (y_val tok rfl) ?_
    refine o_yield rfl rfl rfl (y_val tok rfl) ?_
    refine o_yield rfl rfl rfl (y_val tok rfl) ?_
    have hb3 : (putL [kindOf8 kind] 2 [(s.size : Int)]).length = 3 := by simp [putL, leB, leTake_len]
    refine o_step rfl rfl rfl rfl rfl (s_app tok (byteVs s) rfl (fun _ _ _ => Src.str s) (fun _ _ _ => by rw [byteVs_eq]; exact bytes_ones _) (by dsimp only; rw [hb3]; omega)) (fun _ _ => ?_)
    refine o_yield rfl rfl rfl (y_val tok rfl) ?_
    refine o_yield rfl rfl rfl (y_val tok rfl) ?_
    refine o_yield rfl rfl rfl (y_val tok rfl) ?_
    refine o_store tok rfl rfl rfl (by first | exact ⟨trivial, trivial⟩ | simp [onesP, oneP, lk, Value.oneCell']) ?_
    refine o_end [0] rfl ?_
    refine x_then ?_
    refine c_seq ?_
    refine c_held [] ([]) mixed (by repeat (first | exact SubO.nil | refine SubO.cons rfl ?_)) rfl ?_
    refine t_take 0 rfl (by kernel_rfl) rfl rfl rfl (y_val tok rfl) rfl ?_
    refine t_take 1 rfl (by kernel_rfl) rfl rfl rfl (y_val tok rfl) rfl ?_
    refine t_take 2 rfl (by kernel_rfl) rfl rfl rfl (y_val tok rfl) rfl ?_
    refine t_take 3 rfl (by kernel_rfl) rfl rfl rfl (y_val tok rfl) rfl ?_
    refine t_take 4 rfl (by kernel_rfl) rfl rfl rfl (y_val tok rfl) rfl ?_
    refine t_take 5 rfl (by kernel_rfl) rfl rfl rfl (y_val tok rfl) rfl ?_
    refine t_take 6 rfl (by kernel_rfl) rfl rfl rfl (y_val tok rfl) rfl ?_
    refine t_go ?_
    refine h_one 7 (by kernel_rfl) ?_
    refine h_yield 7 rfl rfl rfl rfl (y_val tok rfl) ?_
    refine h_one 8 (by kernel_rfl) ?_
    rw [byteVs_eq, ← List.flatMap_append, ← hsz, ← List.length_append, show putL [kindOf8 kind] 2 [(s.data.toList.length : Int)] ++ s.data.toList = body (kindOf8 kind) s.data.toList from rfl]
    have hbl := body_len (kindOf8 kind) s.data.toList
    obtain ⟨B, hB⟩ : ∃ B, body (kindOf8 kind) s.data.toList = B := ⟨_, rfl⟩
    rw [hB] at hbl ⊢
    have hc := crcOf_lt B
    refine h_call 8 (.a (.v _)) rfl rfl rfl fnok164 rfl rfl rfl (fun hg E w1 hm => by exact sum_crc _ _ B _ (Vw.le.refl _) (hm.rowOf 6 rfl (fun _ => rfl)) (by simp only [maxLen]; omega)) ?_
    refine h_one 9 (by kernel_rfl) ?_
    refine h_to 9 rfl rfl rfl rfl rfl rfl (s_bs tok 1 rfl rfl rfl) (.inr fun _ _ => ⟨(by repeat (first | exact SubO.nil | refine SubO.cons rfl ?_)), rfl, Vw.le.refl _⟩) (fun _ _ => ?_)
    refine h_one 10 (by kernel_rfl) ?_
    refine h_to 10 rfl rfl rfl rfl rfl rfl (s_bput 0 6 192 5 B 4 [(crcOf B : Int)] [I8 kind] _ rfl (fun E => ⟨E.κ 7, rfl, fun w hm => hm.rowOfDel (enc := encI64) (L := [(crcOf B : Int)]) 7 rfl rfl (fun _ => rfl)⟩) rfl rfl (putOk_four hc) (by omega) (by simp)) (.inr fun _ _ => ⟨(by repeat (first | exact SubO.nil | refine SubO.cons rfl ?_)), rfl, Vw.le.refl _⟩) (fun _ _ => ?_)
    refine h_done [0] (by kernel_rfl) rfl ?_
    refine x_then ?_
    refine c_seq ?_
    refine c_draw mixed (by kernel_rfl) ?_
    refine d_yield rfl rfl rfl (y_val tok rfl) rfl ?_
    refine d_yield rfl rfl rfl (y_val tok rfl) rfl ?_
    refine d_yield rfl rfl rfl (y_val tok rfl) rfl ?_
    refine d_yield rfl rfl rfl (y_val tok rfl) rfl ?_
    refine d_yield rfl rfl rfl (y_val tok rfl) rfl ?_
    refine d_yield rfl rfl rfl (y_own (s := .a (.v (.string (strOf (putL B 4 [(crcOf B : Int)]))))) 8 rfl rfl (fun v V' hs => y_b2s tok _ rfl (fun hg => hs))) rfl ?_
    refine d_yield rfl rfl rfl (y_val tok rfl) rfl ?_
    refine d_yield rfl rfl rfl (y_val tok rfl) rfl ?_
    refine d_yield rfl rfl rfl (y_val tok rfl) rfl ?_
    refine d_yield rfl rfl rfl (y_val tok rfl) rfl ?_
    refine d_yield rfl rfl rfl (y_val tok rfl) rfl ?_
    refine d_yield rfl rfl rfl (y_val tok rfl) rfl ?_
    refine d_yield rfl rfl rfl (y_val tok rfl) rfl ?_
    refine d_end [4, 5] rfl ?_
    refine x_then ?_
    refine c_ret ?_
    refine b_ret tok rfl ?_
    intro E w' hm _
    obtain ⟨h3, h4⟩ := back1 hm (Vw.le.refl _) rfl rfl rfl
    refine ⟨?_, _, h3, h4⟩
    rw [sealS, if_neg (by omega), sealL, hB]
    show Ending.returned (.tuple #[S (strOf (putL B 4 [(crcOf B : Int)])), I 0]) = _
    rw [putL_one, leB]
    rfl

theorem sealSeal_c (kind : Int) (hk : R8 kind) (s : ByteArray) (hs : s.size ≤ maxLen) (w : World) :
    Calls Try.prog 90 #[I8 kind, S s] w fun e w' => e = .returned (.tuple #[S (sealS kind s).1, I (sealS kind s).2]) ∧ Below w.heap.size w w' := by
  refine enter (E := E0) (O := []) (nl := 0) (V := vw w) [.a (.v (I8 kind)), .a (.v (S s))] Try.func90 rfl rfl (mem0 E0 0 w) rfl rfl ?_
  refine c_seq ?_
  refine c_region ?_
  refine o_yield rfl rfl rfl (y_val tok rfl) ?_
  refine o_yield rfl rfl rfl (y_val tok rfl) ?_
  refine o_end [0, 1] rfl ?_
  refine x_then ?_
  refine c_seq ?_
  refine c_region ?_
  refine o_yield rfl rfl rfl (y_val tok rfl) ?_
  refine o_yield rfl rfl rfl (y_val tok rfl) ?_
  refine o_new tok rfl rfl rfl rfl ?_
  refine o_yield rfl rfl rfl (y_val tok rfl) ?_
  refine o_step rfl rfl rfl rfl rfl (s_callW (fun _ => True) (fun _ : List Value => .tup [.v (S (sealS kind s).1), .v (I (sealS kind s).2)]) 0 192 (fun vs => vs.map .v) rfl fnok139 rfl (fun vs => (den_plain E0 vs).2 _) (fun _ => rfl) (fun E w1 hm hb => (sealed_c kind hk s hs _ (E.ρ 0) w1 hb).mono fun e w' h => ⟨h.2.choose, h.1, h.2.choose_spec.1, by rw [(den_plain E _).1]; exact h.2.choose_spec.2, trivial⟩)) (fun _ _ => ?_)
  refine o_yield rfl rfl rfl (y_val tok rfl) ?_
  refine o_yield rfl rfl rfl (y_val tok rfl) ?_
  refine o_yield rfl rfl rfl (y_val tok rfl) ?_
  refine o_yield rfl rfl rfl (y_val tok rfl) ?_
  refine o_end [4, 5] rfl ?_
  refine x_then ?_
  refine c_ret ?_
  refine b_ret tok rfl ?_
  intro E w' hm _
  refine ⟨?_, hm.below (Vw.le.refl _)⟩
  rfl

/-- Numbers put one behind the other. -/
def packL : List Int → List Int → List UInt8
  | k :: ks, n :: ns => leB k n ++ packL ks ns
  | _, _ => []

theorem packL_succ : ∀ {ks ns : List Int} {i : Nat} {k n : Int}, ks[i]? = some k → ns[i]? = some n → packL (ks.take (i + 1)) (ns.take (i + 1)) = packL (ks.take i) (ns.take i) ++ leB k n
  | k0 :: ks, n0 :: ns, 0, k, n, hk, hn => by
    simp at hk hn
    subst hk hn
    simp [packL]
  | k0 :: ks, n0 :: ns, i + 1, k, n, hk, hn => by
    simp only [List.getElem?_cons_succ] at hk hn
    have := packL_succ hk hn
    simp only [List.take_succ_cons, packL, this, List.append_assoc]
  | [], _, _, _, _, hk, _ => by simp at hk
  | _ :: _, [], _, _, _, _, hn => by simp at hn

theorem make_c (kind : Int) (hk : R8 kind) (t : ByteArray) (V : Vw) (kv nv : Value) (ks ns : List Int) (w : World) (ht : t.size ≤ 1099511627776) (hV : V.le (vw w)) (hks : SlOf V encI64 1 kv ks) (hns : SlOf V encI64 1 nv ns)
    (hlen : ks.length = ns.length) (hn : ns.length ≤ 1000) (hfit : ∀ (i : Nat) (k n : Int), ks[i]? = some k → ns[i]? = some n → putOk k [n] = true) (hsz : ∀ i : Nat, (packL (ks.take i) (ns.take i)).length ≤ 505) :
    Calls Try.prog 93 #[I8 kind, S t, kv, nv] w fun e w' => e = .returned (.tuple #[S (sealS kind (strOf (packL ks ns) ++ t)).1, I (sealS kind (strOf (packL ks ns) ++ t)).2]) ∧ Below w.heap.size w w' := by
  have hks' := hks.mono hV
  have hns' := hns.mono hV
  refine enter (E := E0) (O := []) (nl := 0) (V := vw w) [.a (.v (I8 kind)), .a (.v (S t)), .a (.v kv), .a (.v nv)] Try.func93 rfl rfl (mem0 E0 0 w) rfl rfl ?_
  refine c_seq ?_
  refine c_region ?_
  refine o_yield rfl rfl rfl (y_val tok rfl) ?_
  refine o_yield rfl rfl rfl (y_val tok rfl) ?_
  refine o_end [0, 1, 2, 3] rfl ?_
  refine x_then ?_
  refine c_seq ?_
  refine c_region ?_
  refine o_yield rfl rfl rfl (y_val tok rfl) ?_
  refine o_yield rfl rfl rfl (y_val tok rfl) ?_
  refine o_new tok rfl rfl rfl rfl ?_
  refine o_yield rfl rfl rfl (y_val tok rfl) ?_
  refine o_end [1, 2, 3, 10] rfl ?_
  refine x_then ?_
  refine c_seq ?_
  refine c_seq ?_
  refine c_region ?_
  refine o_yield rfl rfl rfl (y_val tok rfl) ?_
  refine o_yield rfl rfl rfl (y_len tok rfl (fun hg => hks'.sl)) ?_
  refine o_yield rfl rfl rfl (y_val tok rfl) ?_
  refine o_yield rfl rfl rfl (y_len tok rfl (fun hg => hns'.sl)) ?_
  refine o_yield rfl rfl rfl (y_val tok rfl) ?_
  refine o_end [1, 2, 3, 10, 20] rfl ?_
  refine x_then ?_
  refine c_cond rfl (fun h => ?_) (fun h => ?_)
  ·
    simp only [Bool.and_eq_true, Bool.or_eq_true, Bool.not_eq_true', Bool.or_eq_false_iff, Bool.and_eq_false_iff, decide_eq_true_eq, decide_eq_false_iff_not, beq_iff_eq, bne_iff_ne, Bool.not_eq_false', beq_eq_false_iff_ne, bne_eq_false_iff_eq, ne_eq, Decidable.not_not, Int.not_lt, Int.not_le] at h
    refine c_seq ?_
    refine c_region ?_
    refine o_yield rfl rfl rfl (y_val tok rfl) ?_
    refine o_yield rfl rfl rfl (y_val tok rfl) ?_
    refine o_end [8, 9] rfl ?_
    refine x_then ?_
    refine c_ret ?_
    refine x_then_ret ?_
    refine b_ret tok rfl ?_
    omega
  ·
    simp only [Bool.and_eq_true, Bool.or_eq_true, Bool.not_eq_true', Bool.or_eq_false_iff, Bool.and_eq_false_iff, decide_eq_true_eq, decide_eq_false_iff_not, beq_iff_eq, bne_iff_ne, Bool.not_eq_false', beq_eq_false_iff_ne, bne_eq_false_iff_eq, ne_eq, Decidable.not_not, Int.not_lt, Int.not_le] at h
    refine c_skip ?_
    refine x_then ?_
    refine c_seq ?_
    refine c_seq ?_
    refine c_region ?_
    refine o_yield rfl rfl rfl (y_val tok rfl) ?_
    refine o_yield rfl rfl rfl (y_len tok rfl (fun hg => hns'.sl)) ?_
    refine o_yield rfl rfl rfl (y_val tok rfl) ?_
    refine o_end [1, 2, 10, 21, 22, 23] rfl ?_
    refine x_then ?_
    refine c_block ?_
    refine k_nilO 0 0 5 1 rfl rfl ?_
    refine c_loopK [1, 2, 10, 21, 22] [0, 1] rfl rfl (σ := Nat) (fun i => [(23, .a (.v (I i)))]) (fun i => [(0, .lit (.row 1 :: .v (I 0) :: [I8 kind].map .v) 192), (1, .row 5 1 (packL (ks.take i) (ns.take i)).length ((packL (ks.take i) (ns.take i)).flatMap encByte))]) (fun i => i ≤ ns.length) (fun i => ns.length - i) (0) (by omega) (by repeat (first | exact SubF.nil | refine SubF.cons rfl ?_)) (by repeat (first | exact SubO.nil | refine SubO.cons rfl ?_)) rfl ?_
    rintro i hi
    refine c_seq ?_
    refine c_region ?_
    refine o_yield rfl rfl rfl (y_val tok rfl) ?_
    refine o_end [1, 2, 10, 21, 22, 23, 24] rfl ?_
    refine x_then ?_
    refine c_seq ?_
    refine c_cond rfl (fun h => ?_) (fun h => ?_)
    ·
      simp only [Bool.and_eq_true, Bool.or_eq_true, Bool.not_eq_true', Bool.or_eq_false_iff, Bool.and_eq_false_iff, decide_eq_true_eq, decide_eq_false_iff_not, beq_iff_eq, bne_iff_ne, Bool.not_eq_false', beq_eq_false_iff_ne, bne_eq_false_iff_eq, ne_eq, Decidable.not_not, Int.not_lt, Int.not_le] at h
      refine c_skip ?_
      refine x_then ?_
      refine c_seq ?_
      refine c_block ?_
      refine c_seq ?_
      refine c_region ?_
      refine o_yield rfl rfl rfl (y_val tok rfl) ?_
      obtain ⟨n, h_n⟩ := hns'.at (k := i) (by omega)
      have hlt_n := lt_of_at h_n
      refine o_yield rfl rfl rfl (y_idx tok rfl (fun hg => hns'.sl) (fun hg => ⟨by omega, by omega⟩)) ?_
      refine o_yield rfl rfl rfl (y_lel tok (i) 0 (n) rfl (fun hg => hns') (fun hg => h_n) rfl rfl) ?_
      refine o_yield rfl rfl rfl (y_val tok rfl) ?_
      refine o_yield rfl rfl rfl (y_val tok rfl) ?_
      refine o_end [1, 2, 10, 11, 12, 21, 22, 23] rfl ?_
      refine x_then ?_
      refine c_seq ?_
      refine c_held [] ([]) mixed (by repeat (first | exact SubO.nil | refine SubO.cons rfl ?_)) rfl ?_
      refine t_take 0 rfl (by kernel_rfl) rfl rfl rfl (y_val tok rfl) rfl ?_
      refine t_take 1 rfl (by kernel_rfl) rfl rfl rfl (y_val tok rfl) rfl ?_
      refine t_take 2 rfl (by kernel_rfl) rfl rfl rfl (y_val tok rfl) rfl ?_
      refine t_take 3 rfl (by kernel_rfl) rfl rfl rfl (y_val tok rfl) rfl ?_
      refine t_take 4 rfl (by kernel_rfl) rfl rfl rfl (y_val tok rfl) rfl ?_
      obtain ⟨k, h_k⟩ := hks'.at (k := i) (by omega)
      have hlt_k := lt_of_at h_k
      refine t_take 5 rfl (by kernel_rfl) rfl rfl rfl (y_idx tok rfl (fun hg => hks'.sl) (fun hg => ⟨by omega, by omega⟩)) rfl ?_
      refine t_take 6 rfl (by kernel_rfl) rfl rfl rfl (y_lel tok (i) 0 (k) rfl (fun hg => hks') (fun hg => h_k) rfl rfl) rfl ?_
      refine t_take 7 rfl (by kernel_rfl) rfl rfl rfl (y_val tok rfl) rfl ?_
      refine t_go ?_
      refine h_one 8 (by kernel_rfl) ?_
      have hpi := hsz i
      have hps := hsz (i + 1)
      refine h_to 8 rfl rfl rfl rfl rfl rfl (s_bs tok 1 rfl rfl rfl) (.inr fun _ _ => ⟨(by repeat (first | exact SubO.nil | refine SubO.cons rfl ?_)), rfl, Vw.le.refl _⟩) (fun _ _ => ?_)
      refine h_one 9 (by kernel_rfl) ?_
      refine h_to 9 rfl rfl rfl rfl rfl rfl (s_bput 0 1 192 5 (packL (ks.take i) (ns.take i)) k [n] [I8 kind] _ rfl (fun E => ⟨E.κ 2, rfl, fun w hm => hm.rowOfDel (enc := encI64) (L := [n]) 2 rfl rfl (fun _ => rfl)⟩) rfl rfl (hfit i k n h_k h_n) (by omega) (by simp)) (.inr fun _ _ => ⟨(by repeat (first | exact SubO.nil | refine SubO.cons rfl ?_)), rfl, Vw.le.refl _⟩) (fun _ _ => ?_)
      refine h_done [1, 2, 10, 21, 22, 23] (by kernel_rfl) rfl ?_
      refine x_then ?_
      refine c_seq ?_
      refine c_region ?_
      refine o_yield rfl rfl rfl (y_val tok rfl) ?_
      refine o_yield rfl rfl rfl (y_val tok rfl) ?_
      refine o_yield rfl rfl rfl (y_val tok rfl) ?_
      refine o_yield rfl rfl rfl (y_val tok rfl) ?_
      refine o_yield rfl rfl rfl (y_val tok rfl) ?_
      refine o_yield rfl rfl rfl (y_val tok rfl) ?_
      refine o_yield rfl rfl rfl (y_val tok rfl) ?_
      refine o_yield rfl rfl rfl (y_val tok rfl) ?_
      refine o_yield rfl rfl rfl (y_val tok rfl) ?_
      refine o_yield rfl rfl rfl (y_val tok rfl) ?_
      refine o_yield rfl rfl rfl (y_val tok rfl) ?_
      refine o_yield rfl rfl rfl (y_val tok rfl) ?_
      rw [putL_one, ← packL_succ h_k h_n]
      refine o_yield rfl rfl rfl (y_val tok rfl) ?_
      refine o_yield rfl rfl rfl (y_val tok rfl) ?_
      refine o_yield rfl rfl rfl (y_val tok rfl) ?_
      refine o_end [1, 2, 10, 21, 22, 23, 52] rfl ?_
      refine x_then ?_
      refine c_cond rfl (fun h => ?_) (fun h => ?_)
      ·
        simp only [Bool.and_eq_true, Bool.or_eq_true, Bool.not_eq_true', Bool.or_eq_false_iff, Bool.and_eq_false_iff, decide_eq_true_eq, decide_eq_false_iff_not, beq_iff_eq, bne_iff_ne, Bool.not_eq_false', beq_eq_false_iff_ne, bne_eq_false_iff_eq, ne_eq, Decidable.not_not, Int.not_lt, Int.not_le] at h
        refine c_seq ?_
        refine c_region ?_
        refine o_yield rfl rfl rfl (y_val tok rfl) ?_
        refine o_yield rfl rfl rfl (y_val tok rfl) ?_
        refine o_end [8, 9] rfl ?_
        refine x_then ?_
        refine c_ret ?_
        refine x_block_ret ?_
        refine x_then_ret ?_
        refine x_then_ret ?_
        refine x_block_ret ?_
        refine x_then_ret ?_
        refine b_ret tok rfl ?_
        simp at h
        omega
      ·
        simp only [Bool.and_eq_true, Bool.or_eq_true, Bool.not_eq_true', Bool.or_eq_false_iff, Bool.and_eq_false_iff, decide_eq_true_eq, decide_eq_false_iff_not, beq_iff_eq, bne_iff_ne, Bool.not_eq_false', beq_eq_false_iff_ne, bne_eq_false_iff_eq, ne_eq, Decidable.not_not, Int.not_lt, Int.not_le] at h
        refine c_skip ?_
        refine x_block ?_
        refine x_then ?_
        refine c_region ?_
        refine o_yield rfl rfl rfl (y_val tok rfl) ?_
        refine o_yield rfl rfl rfl (y_val tok rfl) ?_
        refine o_end [1, 2, 10, 21, 22, 23] rfl ?_
        refine x_then ?_
        rw [wrapI (n := (i : Int) + 1) (by omega) (by omega)]
        refine k_swap 1 3 rfl ?_
        refine x_round (i + 1) (by omega) (by first | omega | (dsimp only; omega)) (by repeat (first | exact SubF.nil | refine SubF.cons rfl ?_)) (by repeat (first | exact SubO.nil | refine SubO.cons rfl ?_)) rfl (Vw.le.refl _)
    ·
      simp only [Bool.and_eq_true, Bool.or_eq_true, Bool.not_eq_true', Bool.or_eq_false_iff, Bool.and_eq_false_iff, decide_eq_true_eq, decide_eq_false_iff_not, beq_iff_eq, bne_iff_ne, Bool.not_eq_false', beq_eq_false_iff_ne, bne_eq_false_iff_eq, ne_eq, Decidable.not_not, Int.not_lt, Int.not_le] at h
      refine c_exit ?_
      refine x_then_exit ?_
      refine x_then_exit ?_
      refine x_block_hit ?_
      refine x_then ?_
      refine c_seq ?_
      refine c_region ?_
      refine o_yield rfl rfl rfl (y_val tok rfl) ?_
      refine o_yield rfl rfl rfl (y_val tok rfl) ?_
      refine o_yield rfl rfl rfl (y_val tok rfl) ?_
      refine o_yield rfl rfl rfl (y_val tok rfl) ?_
      refine o_yield rfl rfl rfl (y_val tok rfl) ?_
      refine o_yield rfl rfl rfl (y_val tok rfl) ?_
      have hil : i = ns.length := by omega
      subst hil
      have hpi := hsz ns.length
      rw [List.take_length, show ks.take ns.length = ks by rw [← hlen, List.take_length]] at hpi ⊢
      refine o_yield rfl rfl rfl (y_own (s := .a (.v (.string (strOf (packL ks ns))))) 1 rfl rfl (fun v V' hs => y_b2s tok _ rfl (fun hg => hs))) ?_
      refine o_yield rfl rfl rfl (y_val tok rfl) ?_
      have hst := strOf_size (packL ks ns)
      refine o_yield rfl rfl rfl (y_cat rfl (fun hg => by omega)) ?_
      have hcs : (strOf (packL ks ns) ++ t).size = (packL ks ns).length + t.size := by rw [ByteArray.size_append, hst]
      refine o_step rfl rfl rfl rfl rfl (s_callW (fun _ => True) (fun _ : List Value => .tup [.v (S (sealS kind (strOf (packL ks ns) ++ t)).1), .v (I (sealS kind (strOf (packL ks ns) ++ t)).2)]) 0 192 (fun vs => vs.map .v) rfl fnok139 rfl (fun vs => (den_plain E0 vs).2 _) (fun _ => rfl) (fun E w1 hm hb => (sealed_c kind hk (strOf (packL ks ns) ++ t) (by simp only [maxLen]; omega) _ (E.ρ 0) w1 hb).mono fun e w' h => ⟨h.2.choose, h.1, h.2.choose_spec.1, by rw [(den_plain E _).1]; exact h.2.choose_spec.2, trivial⟩)) (fun _ _ => ?_)
      refine o_yield rfl rfl rfl (y_val tok rfl) ?_
      refine o_yield rfl rfl rfl (y_val tok rfl) ?_
      refine o_yield rfl rfl rfl (y_val tok rfl) ?_
      refine o_yield rfl rfl rfl (y_val tok rfl) ?_
      refine o_end [8, 9] rfl ?_
      refine x_then ?_
      refine c_ret ?_
      refine b_ret tok rfl ?_
      intro E w' hm _
      refine ⟨?_, hm.below (Vw.le.refl _)⟩
      rfl

def rNums (r : Record) : List Int := [r.key, r.lsn, r.block, r.k, r.count]
def recBytes (r : Record) : ByteArray := strOf (sealL 6 (packL rWidths (rNums r) ++ r.text.data.toList))
def bytesV (r : Record) : ByteArray := if recB r = true then recBytes r else ByteArray.empty
def bytesE (r : Record) : Int := if recB r = true then 0 else 2

structure RecOk (r : Record) : Prop where
  key : 16 ≤ r.key ∧ r.key ≤ 1099511627776
  lsn : 0 ≤ r.lsn ∧ r.lsn ≤ 1099511627776
  block : 0 ≤ r.block ∧ r.block < 64
  k : 0 ≤ r.k ∧ r.k < 8
  count : 0 ≤ r.count ∧ r.count < 64
  text : r.text.size ≤ 256

theorem recOk {r : Record} (h : recB r = true) : RecOk r := by
  simp only [recB, keyB, belowB, Bool.and_eq_true, decide_eq_true_eq] at h
  obtain ⟨⟨⟨h1, h2⟩, h3⟩, h4⟩ := h
  split at h4
  · simp only [Bool.and_eq_true, decide_eq_true_eq, beq_iff_eq] at h4
    exact ⟨h1, by omega, by omega, by omega, h3, by omega⟩
  · simp only [Bool.and_eq_true, decide_eq_true_eq, belowB] at h4
    exact ⟨h1, by omega, h4.1.1, h4.1.2, h3, by omega⟩

theorem putOk_of {k n : Int} (h : fitsB n k = true) : putOk k [n] = true := by
  have hw : widthB k = true := by
    simp only [fitsB, Bool.and_eq_true] at h; exact h.1.1
  simp [putOk, hw, h]

theorem rec_fits {r : Record} (ok : RecOk r) : ∀ (i : Nat) (k n : Int), rWidths[i]? = some k → (rNums r)[i]? = some n → fitsB n k = true := by
  have m6 : mostN (6 : Int).toNat = 1099511627776 := by decide
  have m2 : mostN (2 : Int).toNat = 65535 := by decide
  have m1 : mostN (1 : Int).toNat = 255 := by decide
  obtain ⟨a1, a2, a3, a4, a5, _⟩ := ok
  intro i k n hk hn
  match i with
  | 0 => cases hk; cases hn; rw [fitsB, m6]; simp [widthB]; omega
  | 1 => cases hk; cases hn; rw [fitsB, m6]; simp [widthB]; omega
  | 2 => cases hk; cases hn; rw [fitsB, m2]; simp [widthB]; omega
  | 3 => cases hk; cases hn; rw [fitsB, m1]; simp [widthB]; omega
  | 4 => cases hk; cases hn; rw [fitsB, m2]; simp [widthB]; omega
  | i + 5 => simp [rWidths] at hk

theorem pack_len : ∀ (ks ns : List Int), (packL ks ns).length ≤ (ks.map Int.toNat).sum
  | k :: ks, n :: ns => by
    have := pack_len ks ns
    simp only [packL, leB, List.length_append, leTake_len, List.map_cons, List.sum_cons]; omega
  | [], _ => by simp [packL]
  | _ :: _, [] => by simp [packL]

theorem rec_pack17 (r : Record) : (packL rWidths (rNums r)).length = 17 := by
  simp [packL, rWidths, rNums, leB, leTake_len]

theorem seal_rec {r : Record} (ok : RecOk r) : sealS 6 (strOf (packL rWidths (rNums r)) ++ r.text) = (recBytes r, 0) := by
  have h17 := rec_pack17 r
  have ht := ok.text
  rw [sealS, if_neg (by rw [ByteArray.size_append, strOf_size]; omega), recBytes]
  congr 3

def mkRec (r : Record) : ByteArray × Int := sealS 6 (strOf (packL rWidths (rNums r)) ++ r.text)

theorem recBytes_c (r : Record) (w : World) : Calls Try.prog 40 #[r.val] w fun e w' => e = .returned (.tuple #[S (bytesV r), I (bytesE r)]) ∧ Below w.heap.size w w' := by
  refine enter (E := E0) (O := []) (nl := 0) (V := vw w) [.a (.v r.val)] Try.func40 rfl rfl (mem0 E0 0 w) rfl rfl ?_
  refine c_seq ?_
  refine c_region ?_
  refine o_new tok rfl rfl rfl rfl ?_
  refine o_yield rfl rfl rfl (y_val tok rfl) ?_
  refine o_yield rfl rfl rfl (y_val tok rfl) ?_
  refine o_end [1] rfl ?_
  refine x_then ?_
  refine c_seq ?_
  refine c_region ?_
  refine o_yield rfl rfl rfl (y_val tok rfl) ?_
  refine o_yield rfl rfl rfl (y_val tok rfl) ?_
  refine o_new tok rfl rfl rfl rfl ?_
  refine o_yield rfl rfl rfl (y_val tok rfl) ?_
  refine o_end [4] rfl ?_
  refine x_then ?_
  refine c_seq ?_
  refine c_seq ?_
  refine c_region ?_
  refine o_yield rfl rfl rfl (y_val tok rfl) ?_
  refine o_call (.a (.v _)) rfl rfl fnok76 rfl rfl rfl (fun hg E w1 hm => by exact entryMay_c r _ _ (hm.lit 1 _ _ rfl)) ?_
  refine o_yield rfl rfl rfl (y_val tok rfl) ?_
  refine o_end [4, 10] rfl ?_
  refine x_then ?_
  refine c_cond rfl (fun h => ?_) (fun h => ?_)
  ·
    simp only [Bool.and_eq_true, Bool.or_eq_true, Bool.not_eq_true', Bool.or_eq_false_iff, Bool.and_eq_false_iff, decide_eq_true_eq, decide_eq_false_iff_not, beq_iff_eq, bne_iff_ne, Bool.not_eq_false', beq_eq_false_iff_ne, bne_eq_false_iff_eq, ne_eq, Decidable.not_not, Int.not_lt, Int.not_le] at h
    refine c_seq ?_
    refine c_region ?_
    refine o_yield rfl rfl rfl (y_val tok rfl) ?_
    refine o_yield rfl rfl rfl (y_val tok rfl) ?_
    refine o_end [2, 3] rfl ?_
    refine x_then ?_
    refine c_ret ?_
    refine x_then_ret ?_
    refine b_ret tok rfl ?_
    intro E w' hm _
    refine ⟨?_, hm.below (Vw.le.refl _)⟩
    rw [bytesV, bytesE, if_neg (by simp [h]), if_neg (by simp [h])]
    rfl
  ·
    simp only [Bool.and_eq_true, Bool.or_eq_true, Bool.not_eq_true', Bool.or_eq_false_iff, Bool.and_eq_false_iff, decide_eq_true_eq, decide_eq_false_iff_not, beq_iff_eq, bne_iff_ne, Bool.not_eq_false', beq_eq_false_iff_ne, bne_eq_false_iff_eq, ne_eq, Decidable.not_not, Int.not_lt, Int.not_le] at h
    refine c_skip ?_
    refine x_then ?_
    refine c_seq ?_
    have ok := recOk h
    have hmk : mkRec r = (recBytes r, 0) := seal_rec ok
    have htx := ok.text
    have hle : ∀ i : Nat, (packL (rWidths.take i) ((rNums r).take i)).length ≤ 505 := fun i => by
      have h1 := pack_len (rWidths.take i) ((rNums r).take i)
      have h2 : ((rWidths.take i).map Int.toNat).sum ≤ 17 := by
        match i with
        | 0 => decide
        | 1 => decide
        | 2 => decide
        | 3 => decide
        | 4 => decide
        | i + 5 => rw [List.take_of_length_le (by simp [rWidths])]; decide
      omega
    refine c_heldM (σ := Unit) (fun _ => [(2, .a (.v (S (mkRec r).1))), (3, .a (.v (I (mkRec r).2)))]) (fun _ => []) (2) (fun _ => vw w) (fun _ => True) mixed ?_ ?_
    ·
      refine t_take 0 rfl (by kernel_rfl) rfl rfl rfl (y_val tok rfl) rfl ?_
      refine t_take 1 rfl (by kernel_rfl) rfl rfl rfl (y_val tok rfl) rfl ?_
      refine t_take 2 rfl (by kernel_rfl) rfl rfl rfl (y_val tok rfl) rfl ?_
      refine t_take 3 rfl (by kernel_rfl) rfl rfl rfl (y_val tok rfl) rfl ?_
      refine t_take 4 rfl (by kernel_rfl) rfl rfl rfl (y_val tok rfl) rfl ?_
      refine t_take 5 rfl (by kernel_rfl) rfl rfl rfl (y_val tok rfl) rfl ?_
      refine t_take 7 rfl (by kernel_rfl) rfl rfl rfl (y_val tok rfl) rfl ?_
      refine t_take 8 rfl (by kernel_rfl) rfl rfl rfl (y_val tok rfl) rfl ?_
      refine t_take 9 rfl (by kernel_rfl) rfl rfl rfl (y_val tok rfl) rfl ?_
      refine t_take 10 rfl (by kernel_rfl) rfl rfl rfl (y_val tok rfl) rfl ?_
      refine t_take 11 rfl (by kernel_rfl) rfl rfl rfl (y_val tok rfl) rfl ?_
      refine t_take 12 rfl (by kernel_rfl) rfl rfl rfl (y_val tok rfl) rfl ?_
      refine t_take 13 rfl (by kernel_rfl) rfl rfl rfl (y_val tok rfl) rfl ?_
      refine t_take 14 rfl (by kernel_rfl) rfl rfl rfl (y_val tok rfl) rfl ?_
      refine t_take 15 rfl (by kernel_rfl) rfl rfl rfl (y_val tok rfl) rfl ?_
      refine t_take 16 rfl (by kernel_rfl) rfl rfl rfl (y_val tok rfl) rfl ?_
      refine t_take 17 rfl (by kernel_rfl) rfl rfl rfl (y_val tok rfl) rfl ?_
      refine t_take 18 rfl (by kernel_rfl) rfl rfl rfl (y_val tok rfl) rfl ?_
      refine t_take 19 rfl (by kernel_rfl) rfl rfl rfl (y_val tok rfl) rfl ?_
      refine t_take 20 rfl (by kernel_rfl) rfl rfl rfl (y_val tok rfl) rfl ?_
      refine t_take 21 rfl (by kernel_rfl) rfl rfl rfl (y_val tok rfl) rfl ?_
      refine t_take 22 rfl (by kernel_rfl) rfl rfl rfl (y_val tok rfl) rfl ?_
      refine t_take 23 rfl (by kernel_rfl) rfl rfl rfl (y_val tok rfl) rfl ?_
      refine t_take 24 rfl (by kernel_rfl) rfl rfl rfl (y_val tok rfl) rfl ?_
      refine t_take 25 rfl (by kernel_rfl) rfl rfl rfl (y_val tok rfl) rfl ?_
      refine t_take 26 rfl (by kernel_rfl) rfl rfl rfl (y_val tok rfl) rfl ?_
      refine t_take 27 rfl (by kernel_rfl) rfl rfl rfl (y_val tok rfl) rfl ?_
      refine t_take 28 rfl (by kernel_rfl) rfl rfl rfl (y_val tok rfl) rfl ?_
      refine t_take 29 rfl (by kernel_rfl) rfl rfl rfl (y_val tok rfl) rfl ?_
      refine t_take 30 rfl (by kernel_rfl) rfl rfl rfl (y_val tok rfl) rfl ?_
      refine t_take 31 rfl (by kernel_rfl) rfl rfl rfl (y_val tok rfl) rfl ?_
      refine t_go ?_
      refine h_two 6 32 (by kernel_rfl) ?_ ?_
      ·
        refine h_to 6 rfl rfl rfl rfl rfl rfl (s_callRow 3 1 rWidths.length (rWidths.flatMap encI64) rfl fnok75 (fun E w1 hm => widths_cR _ w1)) (.inr fun _ _ => ⟨(by repeat (first | exact SubO.nil | refine SubO.cons rfl ?_)), rfl, Vw.le.refl _⟩) (fun _ _ => ?_)
        refine h_one 32 (by kernel_rfl) ?_
        refine h_to 32 rfl rfl rfl rfl rfl rfl (s_bs tok 1 rfl rfl rfl) (.inr fun _ _ => ⟨(by repeat (first | exact SubO.nil | refine SubO.cons rfl ?_)), rfl, Vw.le.refl _⟩) (fun _ _ => ?_)
        refine h_one 33 (by kernel_rfl) ?_
        refine h_call 33 (.tup [.v (S (mkRec r).1), .v (I (mkRec r).2)]) rfl rfl rfl fnok93 rfl rfl rfl (fun hg E w1 hm => by first|exact make_c 6 (by unfold R8; omega) r.text (vw w1) _ _ rWidths (rNums r) w1 (by omega) (Vw.le.refl _) (hm.rowOf 2 rfl (fun _ => rfl)) (hm.rowOf (enc := encI64) (L := rNums r) 3 rfl (fun _ => rfl)) rfl (by simp [rNums]) (fun i k n hk hn => putOk_of (rec_fits ok i k n hk hn)) hle|exact make_c 6 (by unfold R8; omega) r.text (vw w1) _ _ rWidths (rNums r) w1 (by omega) (Vw.le.refl _) (hm.rowOf 3 rfl (fun _ => rfl)) (hm.rowOf (enc := encI64) (L := rNums r) 2 rfl (fun _ => rfl)) rfl (by simp [rNums]) (fun i k n hk hn => putOk_of (rec_fits ok i k n hk hn)) hle) ?_
        refine h_two 34 35 (by kernel_rfl) ?_ ?_
        ·
          refine h_yield 34 rfl rfl rfl rfl (y_val tok rfl) ?_
          refine h_one 35 (by kernel_rfl) ?_
          refine h_yield 35 rfl rfl rfl rfl (y_val tok rfl) ?_
          refine h_one 36 (by kernel_rfl) ?_
          refine h_yield 36 rfl rfl rfl rfl (y_val tok rfl) ?_
          refine h_one 37 (by kernel_rfl) ?_
          refine h_yield 37 rfl rfl rfl rfl (y_val tok rfl) ?_
          refine h_done [2, 3] (by kernel_rfl) rfl ?_
          exact x_meet () trivial (by repeat (first | exact SubF.nil | refine SubF.cons rfl ?_)) (by repeat (first | exact SubO.nil | refine SubO.cons rfl ?_)) rfl (Vw.le.refl _)
        ·
          refine h_yield 35 rfl rfl rfl rfl (y_val tok rfl) ?_
          refine h_one 34 (by kernel_rfl) ?_
          refine h_yield 34 rfl rfl rfl rfl (y_val tok rfl) ?_
          refine h_one 36 (by kernel_rfl) ?_
          refine h_yield 36 rfl rfl rfl rfl (y_val tok rfl) ?_
          refine h_one 37 (by kernel_rfl) ?_
          refine h_yield 37 rfl rfl rfl rfl (y_val tok rfl) ?_
          refine h_done [2, 3] (by kernel_rfl) rfl ?_
          exact x_meet () trivial (by repeat (first | exact SubF.nil | refine SubF.cons rfl ?_)) (by repeat (first | exact SubO.nil | refine SubO.cons rfl ?_)) rfl (Vw.le.refl _)
      ·
        refine h_to 32 rfl rfl rfl rfl rfl rfl (s_bs tok 1 rfl rfl rfl) (.inr fun _ _ => ⟨(by repeat (first | exact SubO.nil | refine SubO.cons rfl ?_)), rfl, Vw.le.refl _⟩) (fun _ _ => ?_)
        refine h_one 6 (by kernel_rfl) ?_
        refine h_to 6 rfl rfl rfl rfl rfl rfl (s_callRow 3 1 rWidths.length (rWidths.flatMap encI64) rfl fnok75 (fun E w1 hm => widths_cR _ w1)) (.inr fun _ _ => ⟨(by repeat (first | exact SubO.nil | refine SubO.cons rfl ?_)), rfl, Vw.le.refl _⟩) (fun _ _ => ?_)
        refine h_one 33 (by kernel_rfl) ?_
        refine h_call 33 (.tup [.v (S (mkRec r).1), .v (I (mkRec r).2)]) rfl rfl rfl fnok93 rfl rfl rfl (fun hg E w1 hm => by first|exact make_c 6 (by unfold R8; omega) r.text (vw w1) _ _ rWidths (rNums r) w1 (by omega) (Vw.le.refl _) (hm.rowOf 2 rfl (fun _ => rfl)) (hm.rowOf (enc := encI64) (L := rNums r) 3 rfl (fun _ => rfl)) rfl (by simp [rNums]) (fun i k n hk hn => putOk_of (rec_fits ok i k n hk hn)) hle|exact make_c 6 (by unfold R8; omega) r.text (vw w1) _ _ rWidths (rNums r) w1 (by omega) (Vw.le.refl _) (hm.rowOf 3 rfl (fun _ => rfl)) (hm.rowOf (enc := encI64) (L := rNums r) 2 rfl (fun _ => rfl)) rfl (by simp [rNums]) (fun i k n hk hn => putOk_of (rec_fits ok i k n hk hn)) hle) ?_
        refine h_two 34 35 (by kernel_rfl) ?_ ?_
        ·
          refine h_yield 34 rfl rfl rfl rfl (y_val tok rfl) ?_
          refine h_one 35 (by kernel_rfl) ?_
          refine h_yield 35 rfl rfl rfl rfl (y_val tok rfl) ?_
          refine h_one 36 (by kernel_rfl) ?_
          refine h_yield 36 rfl rfl rfl rfl (y_val tok rfl) ?_
          refine h_one 37 (by kernel_rfl) ?_
          refine h_yield 37 rfl rfl rfl rfl (y_val tok rfl) ?_
          refine h_done [2, 3] (by kernel_rfl) rfl ?_
          exact x_meet () trivial (by repeat (first | exact SubF.nil | refine SubF.cons rfl ?_)) (by repeat (first | exact SubO.nil | refine SubO.cons rfl ?_)) rfl (Vw.le.refl _)
        ·
          refine h_yield 35 rfl rfl rfl rfl (y_val tok rfl) ?_
          refine h_one 34 (by kernel_rfl) ?_
          refine h_yield 34 rfl rfl rfl rfl (y_val tok rfl) ?_
          refine h_one 36 (by kernel_rfl) ?_
          refine h_yield 36 rfl rfl rfl rfl (y_val tok rfl) ?_
          refine h_one 37 (by kernel_rfl) ?_
          refine h_yield 37 rfl rfl rfl rfl (y_val tok rfl) ?_
          refine h_done [2, 3] (by kernel_rfl) rfl ?_
          exact x_meet () trivial (by repeat (first | exact SubF.nil | refine SubF.cons rfl ?_)) (by repeat (first | exact SubO.nil | refine SubO.cons rfl ?_)) rfl (Vw.le.refl _)
    rintro ⟨⟩ -
    refine x_then ?_
    refine c_ret ?_
    refine b_ret tok rfl ?_
    intro E w' hm _
    refine ⟨?_, hm.below (Vw.le.refl _)⟩
    rw [bytesV, bytesE, if_pos h, if_pos h, hmk]
    rfl
end Go.Proofs.Ytlcpfhjbhogdiaa
