/- A transaction's records: the walk of record.Of. -/
import Derived.Test.YtlcpfhjbhogdiaaOf
set_option linter.unusedVariables false
set_option linter.unusedSimpArgs false
set_option maxRecDepth 100000
namespace Go.Proofs.Ytlcpfhjbhogdiaa
open Go Go.Eng Go.RowKit

def restAt (t : ByteArray) : Nat → ByteArray
  | 0 => t
  | k + 1 => tailOf (restAt t k)

def blkAt (l : List Block) (i : Nat) : Block := l.getD i ⟨0, ByteArray.empty⟩

theorem blkAt_eq {l : List Block} {i : Nat} {b : Block} (h : l[i]? = some b) : blkAt l i = b := by simp [blkAt, List.getD, h]

def recAt (key lsn : Int) (per : Nat) (l : List Block) (j : Nat) : Record :=
  ⟨key, lsn + j, (blkAt l (j / per)).n, (j % per : Nat), headOf (restAt (blkAt l (j / per)).text (j % per)), 0⟩

def recs (key lsn : Int) (per : Nat) (l : List Block) (j : Nat) : List Record := (List.range j).map (recAt key lsn per l)

theorem recs_len (key lsn : Int) (per : Nat) (l : List Block) (j : Nat) : (recs key lsn per l j).length = j := by simp [recs]

theorem recs_succ (key lsn : Int) (per : Nat) (l : List Block) (j : Nat) : recs key lsn per l (j + 1) = recs key lsn per l j ++ [recAt key lsn per l j] := by
  simp [recs, List.range_succ]

theorem recAt_at (key lsn : Int) (per : Nat) (l : List Block) {i k : Nat} {b : Block} (hb : l[i]? = some b) (hk : k < per) :
    recAt key lsn per l (i * per + k) = ⟨key, lsn + (i * per + k : Nat), b.n, (k : Nat), headOf (restAt b.text k), 0⟩ := by
  have h1 : (i * per + k) / per = i := by
    rw [Nat.add_comm, Nat.add_mul_div_right _ _ (by omega), Nat.div_eq_of_lt hk, Nat.zero_add]
  have h2 : (i * per + k) % per = k := by rw [Nat.add_comm, Nat.add_mul_mod_self_right, Nat.mod_eq_of_lt hk]
  simp only [recAt, h1, h2, blkAt_eq hb]

def commitOf (key lsn : Int) (m : Nat) : Record := ⟨key, lsn + m, 0, 0, ByteArray.empty, m⟩

def lastN (l : List Block) : Nat → Int
  | 0 => -1
  | i + 1 => (blkAt l i).n

structure BlkOk (g : Geo) (l : List Block) (i : Nat) (b : Block) : Prop where
  last : lastN l i < b.n
  blocks : b.n < g.blocks
  size : (b.text.size : Int) ≤ g.per * 256

/-- When a transaction has records. -/
structure OfOk (g : Geo) (key lsn : Int) (l : List Block) : Prop where
  geo : geoB g = true
  some_ : l ≠ []
  few : (l.length : Int) ≤ g.blocks
  lsnB : belowB lsn 1099511627777 = true
  blks : ∀ i b, l[i]? = some b → BlkOk g l i b
  recsB : ∀ j, j < l.length * g.per.toNat → recB (recAt key lsn g.per.toNat l j) = true
  commitB : recB (commitOf key lsn (l.length * g.per.toNat)) = true

def allRecs (g : Geo) (key lsn : Int) (l : List Block) : List Record := recs key lsn g.per.toNat l (l.length * g.per.toNat) ++ [commitOf key lsn (l.length * g.per.toNat)]

def OfPost (g : Geo) (key lsn : Int) (l : List Block) (w : World) (e : Ending) (w' : World) : Prop :=
  ((OfOk g key lsn l ∧ ∃ v, e = .returned (.tuple #[v, I 0]) ∧ w'.ownsRow w.heap.size 37 6 v (allRecs g key lsn l).length ((allRecs g key lsn l).flatMap Record.cells)) ∨
    (¬ OfOk g key lsn l ∧ e = .returned (.tuple #[.slice none 0 0, I 2]))) ∧ Below w.heap.size w w'

theorem of_c (V : Vw) (g : Geo) (ok : g.Ok) (key lsn : Int) (sv : Value) (l : List Block) (w : World) (hV : V.le (vw w)) (hs : SlOf V Block.cells 2 sv l) (hn : l.length ≤ lim) :
    Calls Try.prog 18 #[g.val, I key, I lsn, sv] w (OfPost g key lsn l w) := by
  have hs' := hs.mono hV
  refine enter (E := E0) (O := []) (nl := 0) (V := vw w) [.a (.v g.val), .a (.v (I key)), .a (.v (I lsn)), .a (.v sv)] Try.func18 rfl rfl (mem0 E0 0 w) rfl rfl ?_
  refine c_seq ?_
  refine c_region ?_
  refine o_new tok rfl rfl rfl rfl ?_
  refine o_new tok rfl rfl rfl rfl ?_
  refine o_new tok rfl rfl rfl rfl ?_
  refine o_new tok rfl rfl rfl rfl ?_
  refine o_yield rfl rfl rfl (y_val tok rfl) ?_
  refine o_end [3, 4, 5, 6, 8] rfl ?_
  refine x_then ?_
  refine c_seq ?_
  refine c_seq ?_
  refine c_region ?_
  refine o_yield rfl rfl rfl (y_val tok rfl) ?_
  refine o_call (.a (.v _)) rfl rfl fnok70 rfl rfl rfl (fun hg E w1 hm => by exact geoMay_c g ok _) ?_
  refine o_yield rfl rfl rfl (y_val tok rfl) ?_
  refine o_yield rfl rfl rfl (y_val tok rfl) ?_
  refine o_yield rfl rfl rfl (y_val tok rfl) ?_
  refine o_yield rfl rfl rfl (y_len tok rfl (fun hg => hs'.sl)) ?_
  refine o_yield rfl rfl rfl (y_val tok rfl) ?_
  refine o_yield rfl rfl rfl (y_val tok rfl) ?_
  refine o_yield rfl rfl rfl (y_val tok rfl) ?_
  refine o_yield rfl rfl rfl (y_val tok rfl) ?_
  refine o_yield rfl rfl rfl (y_len tok rfl (fun hg => hs'.sl)) ?_
  refine o_yield rfl rfl rfl (y_val tok rfl) ?_
  refine o_yield rfl rfl rfl (y_val tok rfl) ?_
  refine o_yield rfl rfl rfl (y_val tok rfl) ?_
  refine o_yield rfl rfl rfl (y_val tok rfl) ?_
  refine o_yield rfl rfl rfl (y_val tok rfl) ?_
  refine o_yield rfl rfl rfl (y_val tok rfl) ?_
  refine o_call (.a (.v _)) rfl rfl fnok71 rfl rfl rfl (fun hg E w1 hm => by exact below_c _ _ _) ?_
  refine o_yield rfl rfl rfl (y_val tok rfl) ?_
  refine o_yield rfl rfl rfl (y_val tok rfl) ?_
  refine o_end [3, 4, 5, 6, 8, 36] rfl ?_
  refine x_then ?_
  refine c_cond rfl (fun h => ?_) (fun h => ?_)
  ·
    refine c_seq ?_
    refine c_region ?_
    refine o_store tok rfl rfl rfl (by first | exact ⟨trivial, trivial⟩ | simp [onesP, oneP, lk, Value.oneCell']) ?_
    refine o_yield rfl rfl rfl (y_val tok rfl) ?_
    refine o_end [8, 9] rfl ?_
    refine x_then ?_
    refine c_ret ?_
    refine x_then_ret ?_
    refine b_ret tok rfl ?_
    intro E w' hm _
    refine ⟨.inr ⟨fun hok => ?_, rfl⟩, hm.below (Vw.le.refl _)⟩
    have h1 := hok.geo
    have h2 := hok.some_
    have h3 := hok.few
    have h4 := hok.lsnB
    have h5 : l.length ≠ 0 := fun h => h2 (List.eq_nil_of_length_eq_zero h)
    simp only [h1, h4, Bool.not_true, Bool.false_or, Bool.or_false, Bool.or_eq_true, decide_eq_true_eq, beq_iff_eq] at h
    omega
  ·
    refine c_skip ?_
    refine x_then ?_
    refine c_seq ?_
    refine c_region ?_
    refine o_yield rfl rfl rfl (y_val tok rfl) ?_
    refine o_end [3, 4, 5, 6, 8, 10] rfl ?_
    refine x_then ?_
    refine c_seq ?_
    refine c_region ?_
    refine o_yield rfl rfl rfl (y_val tok rfl) ?_
    refine o_yield rfl rfl rfl (y_val tok rfl) ?_
    refine o_end [3, 4, 8, 10, 11] rfl ?_
    refine x_then ?_
    refine c_seq ?_
    refine c_seq ?_
    refine c_region ?_
    refine o_yield rfl rfl rfl (y_val tok rfl) ?_
    have hpre := h
    clear h
    simp only [Bool.or_eq_false_iff, Bool.not_eq_false', decide_eq_false_iff_not, beq_eq_false_iff_ne] at hpre
    obtain ⟨⟨⟨hgeo, hne⟩, hfew⟩, hlsn⟩ := hpre
    have hgeo' := hgeo
    simp only [geoB, decide_eq_true_eq] at hgeo'
    have hlsn' := hlsn
    simp only [belowB, Bool.and_eq_true, decide_eq_true_eq] at hlsn'
    obtain ⟨per, hper⟩ : ∃ per : Nat, g.per = per := ⟨g.per.toNat, by omega⟩
    have hpn : g.per.toNat = per := by omega
    have hlen : l.length ≤ 64 := by omega
    refine o_yield rfl rfl rfl (y_len tok rfl (fun hg => hs'.sl)) ?_
    refine o_yield rfl rfl rfl (y_val tok rfl) ?_
    refine o_end [4, 8, 10, 11, 38, 39, 40] rfl ?_
    refine x_then ?_
    refine c_block ?_
    refine k_nilO 3 0 37 6 rfl rfl ?_
    refine c_loop (σ := Nat) (fun i => [(4, .a (.ptr 0 0)), (8, .a (.ptr 3 0)), (10, .a (.v (I (lastN l i)))), (11, .a (.fn 72 [(1, 0), (2, 0), (3, 0)])), (38, .a (.v sv)), (39, .a (.v (I l.length))), (40, .a (.v (I i)))])
      (fun i => [(0, .lit [.v (I g.nodes), .v (I g.slots), .v (I g.blocks), .v (I g.per), .v (I g.journal), .v (I g.log), .v (I g.lease), .v (I g.wait)] 23), (1, .lit [.v (I key)] 3), (2, .lit [.v (I lsn)] 3), (3, .lit [.row 4] 27),
        (4, .row 37 6 (recs key lsn per l (i * per)).length ((recs key lsn per l (i * per)).flatMap Record.cells))]) 5 (fun _ => vw w)
      (fun i => i ≤ l.length ∧ (∀ i' b, i' < i → l[i']? = some b → BlkOk g l i' b) ∧ ∀ j, j < i * per → recB (recAt key lsn per l j) = true) (fun i => l.length - i) 0
      ⟨by omega, by omega, by omega⟩ ⟨rfl, rfl, rfl, rfl, rfl, rfl, rfl, trivial⟩ ⟨rfl, rfl, rfl, rfl, by rw [Nat.zero_mul]; rfl, trivial⟩ rfl (Vw.le.refl _) ?_
    rintro i ⟨hi, hblk, hrec⟩
    refine c_seq ?_
    refine c_region ?_
    refine o_yield rfl rfl rfl (y_val tok rfl) ?_
    refine o_end [4, 8, 10, 11, 38, 39, 40, 41] rfl ?_
    refine x_then ?_
    refine c_seq ?_
    refine c_cond rfl (fun h => ?_) (fun h => ?_)
    ·
      refine c_skip ?_
      refine x_then ?_
      refine c_seq ?_
      refine c_block ?_
      refine c_seq ?_
      refine c_region ?_
      have hlt : i < l.length := by simp at h; omega
      obtain ⟨b, hb⟩ : ∃ b, l[i]? = some b := ⟨l[i], by simp [hlt]⟩
      refine o_yield rfl rfl rfl (y_idx tok rfl (fun hg => hs'.sl) (fun hg => ⟨by omega, by omega⟩)) ?_
      refine o_yield rfl rfl rfl (y_lel tok (i) 0 (b) rfl (fun hg => hs') (fun hg => hb) rfl rfl) ?_
      refine o_new tok rfl rfl rfl rfl ?_
      refine o_store tok rfl rfl rfl (by first | exact ⟨trivial, trivial⟩ | simp [onesP, oneP, lk, Value.oneCell']) ?_
      refine o_end [4, 8, 10, 11, 13, 38, 39, 40] rfl ?_
      refine x_then ?_
      refine c_seq ?_
      refine c_seq ?_
      refine c_region ?_
      refine o_yield rfl rfl rfl (y_val tok rfl) ?_
      refine o_yield rfl rfl rfl (y_val tok rfl) ?_
      refine o_yield rfl rfl rfl (y_val tok rfl) ?_
      refine o_yield rfl rfl rfl (y_val tok rfl) ?_
      refine o_yield rfl rfl rfl (y_val tok rfl) ?_
      refine o_yield rfl rfl rfl (y_val tok rfl) ?_
      refine o_yield rfl rfl rfl (y_val tok rfl) ?_
      refine o_yield rfl rfl rfl (y_val tok rfl) ?_
      refine o_yield rfl rfl rfl (y_val tok rfl) ?_
      refine o_yield rfl rfl rfl (y_val tok rfl) ?_
      refine o_yield rfl rfl rfl (y_val tok rfl) ?_
      refine o_yield rfl rfl rfl (y_val tok rfl) ?_
      refine o_yield rfl rfl rfl (y_val tok rfl) ?_
      refine o_yield rfl rfl rfl (y_val tok rfl) ?_
      refine o_yield rfl rfl rfl (y_val tok rfl) ?_
      refine o_yield rfl rfl rfl (y_val tok rfl) ?_
      refine o_yield rfl rfl rfl (y_val tok rfl) ?_
      refine o_yield rfl rfl rfl (y_val tok rfl) ?_
      refine o_yield rfl rfl rfl (y_val tok rfl) ?_
      refine o_yield rfl rfl rfl (y_val tok rfl) ?_
      refine o_end [4, 8, 11, 13, 38, 39, 40, 63] rfl ?_
      refine x_then ?_
      refine c_cond rfl (fun h => ?_) (fun h => ?_)
      ·
        refine c_seq ?_
        refine c_region ?_
        refine o_store tok rfl rfl rfl (by first | exact ⟨trivial, trivial⟩ | simp [onesP, oneP, lk, Value.oneCell']) ?_
        refine o_yield rfl rfl rfl (y_val tok rfl) ?_
        refine o_end [8, 9] rfl ?_
        refine x_then ?_
        refine c_ret ?_
        refine x_then_ret ?_
        refine x_block_ret ?_
        refine x_then_ret ?_
        refine x_then_ret ?_
        refine x_block_ret ?_
        refine x_then_ret ?_
        refine b_ret tok rfl ?_
        intro E w' hm _
        refine ⟨.inr ⟨fun hok => ?_, rfl⟩, hm.below (Vw.le.refl _)⟩
        obtain ⟨h1, h2, h3⟩ := hok.blks i b hb
        rw [hper, wrapI (by omega) (by omega)] at h
        rw [hper] at h3
        simp at h
        omega
      ·
        refine c_skip ?_
        refine x_then ?_
        refine c_seq ?_
        refine c_region ?_
        refine o_yield rfl rfl rfl (y_val tok rfl) ?_
        refine o_yield rfl rfl rfl (y_val tok rfl) ?_
        refine o_yield rfl rfl rfl (y_val tok rfl) ?_
        refine o_end [4, 8, 10, 11, 13, 38, 39, 40] rfl ?_
        refine x_then ?_
        refine c_seq ?_
        refine c_region ?_
        refine o_yield rfl rfl rfl (y_val tok rfl) ?_
        refine o_yield rfl rfl rfl (y_val tok rfl) ?_
        have hbo : BlkOk g l i b := by
          rw [hper, wrapI (by omega) (by omega)] at h
          simp at h
          exact ⟨by omega, by omega, by rw [hper]; omega⟩
        clear h
        refine o_call (.a (.v _)) rfl rfl fnok73 rfl rfl rfl (fun hg E w1 hm => by exact cut_c _ _) ?_
        refine o_yield rfl rfl rfl (y_val tok rfl) ?_
        refine o_yield rfl rfl rfl (y_val tok rfl) ?_
        refine o_yield rfl rfl rfl (y_val tok rfl) ?_
        refine o_yield rfl rfl rfl (y_val tok rfl) ?_
        refine o_yield rfl rfl rfl (y_val tok rfl) ?_
        refine o_end [4, 8, 10, 11, 13, 14, 15, 38, 39, 40] rfl ?_
        refine x_then ?_
        refine c_seq ?_
        refine c_region ?_
        refine o_yield rfl rfl rfl (y_val tok rfl) ?_
        refine o_yield rfl rfl rfl (y_val tok rfl) ?_
        refine o_yield rfl rfl rfl (y_val tok rfl) ?_
        refine o_end [4, 8, 10, 11, 13, 14, 15, 38, 39, 40, 73, 74] rfl ?_
        refine x_then ?_
        refine c_block ?_
        refine c_loop (σ := Nat) (fun k => [(4, .a (.ptr 0 0)), (8, .a (.ptr 3 0)), (10, .a (.v (I b.n))), (11, .a (.fn 72 [(1, 0), (2, 0), (3, 0)])), (13, .a (.ptr 5 0)), (14, .a (.v (S (headOf (restAt b.text k))))), (15, .a (.v (S (restAt b.text (k + 1))))), (38, .a (.v sv)), (39, .a (.v (I l.length))), (40, .a (.v (I i))), (73, .a (.v (I g.per))), (74, .a (.v (I k)))])
          (fun k => [(0, .lit [.v (I g.nodes), .v (I g.slots), .v (I g.blocks), .v (I g.per), .v (I g.journal), .v (I g.log), .v (I g.lease), .v (I g.wait)] 23), (1, .lit [.v (I key)] 3), (2, .lit [.v (I lsn)] 3), (3, .lit [.row 4] 27),
            (4, .row 37 6 (recs key lsn per l (i * per + k)).length ((recs key lsn per l (i * per + k)).flatMap Record.cells)), (5, .lit [.v (I b.n), .v (S b.text)] 39)]) 6 (fun _ => vw w)
          (fun k => k ≤ per ∧ ∀ j, j < i * per + k → recB (recAt key lsn per l j) = true) (fun k => per - k) 0
          ⟨by omega, hrec⟩ ⟨rfl, rfl, rfl, rfl, rfl, rfl, rfl, rfl, rfl, rfl, rfl, rfl, trivial⟩ ⟨rfl, rfl, rfl, rfl, rfl, rfl, trivial⟩ rfl (Vw.le.refl _) ?_
        rintro k ⟨hk, hrec'⟩
        refine c_seq ?_
        refine c_region ?_
        refine o_yield rfl rfl rfl (y_val tok rfl) ?_
        refine o_end [4, 8, 10, 11, 13, 14, 15, 38, 39, 40, 73, 74, 75] rfl ?_
        refine x_then ?_
        refine c_seq ?_
        refine c_cond rfl (fun h => ?_) (fun h => ?_)
        ·
          refine c_skip ?_
          refine x_then ?_
          refine c_seq ?_
          refine c_block ?_
          refine c_seq ?_
          refine c_region ?_
          refine o_yield rfl rfl rfl (y_val tok rfl) ?_
          refine o_yield rfl rfl rfl (y_val tok rfl) ?_
          refine o_end [4, 8, 10, 11, 13, 14, 15, 16, 38, 39, 40, 73, 74] rfl ?_
          refine x_then ?_
          refine c_seq ?_
          refine c_seq ?_
          refine c_region ?_
          refine o_yield rfl rfl rfl (y_val tok rfl) ?_
          refine o_yield rfl rfl rfl (y_val tok rfl) ?_
          refine o_yield rfl rfl rfl (y_val tok rfl) ?_
          refine o_yield rfl rfl rfl (y_val tok rfl) ?_
          refine o_yield rfl rfl rfl (y_val tok rfl) ?_
          refine o_yield rfl rfl rfl (y_val tok rfl) ?_
          have hklt : k < per := by simp at h; omega
          have hrat := recAt_at key lsn per l hb hklt
          have hjl : i * per + k ≤ 512 := by
            have h1 : i * per ≤ 63 * per := Nat.mul_le_mul_right _ (by omega)
            omega
          have hwr : IntKind.i64.wrap (lsn + ((recs key lsn per l (i * per + k)).length : Int)) = lsn + (i * per + k : Nat) := by
            rw [recs_len, wrapI (by omega) (by omega)]
          have hr' : (⟨0, 0, b.n, (k : Nat), headOf (restAt b.text k), 0⟩ : Record).at key (IntKind.i64.wrap (lsn + ((recs key lsn per l (i * per + k)).length : Int))) = recAt key lsn per l (i * per + k) := by
            rw [hwr, hrat]; rfl
          have hl1 : (recs key lsn per l (i * per + k)).length + 1 = (recs key lsn per l (i * per + (k + 1))).length := by rw [recs_len, recs_len]; omega
          refine o_step rfl rfl rfl rfl rfl (s_put 1 2 3 4 ⟨0, 0, b.n, (k : Nat), headOf (restAt b.text k), 0⟩ key lsn (recs key lsn per l (i * per + k)) _ (fun E => rfl) rfl rfl rfl rfl rfl (by rw [recs_len]; omega) (by omega) (by omega)) (fun _ _ => ?_)
          refine o_yield rfl rfl rfl (y_val tok rfl) ?_
          refine o_end [4, 8, 10, 11, 13, 15, 38, 39, 40, 73, 74, 84] rfl ?_
          refine x_then ?_
          refine c_cond rfl (fun h => ?_) (fun h => ?_)
          have hjlt : i * per + k < l.length * g.per.toNat := by
            rw [hpn]
            have h1 : (i + 1) * per ≤ l.length * per := Nat.mul_le_mul_right _ (by omega)
            rw [Nat.add_mul] at h1
            omega
          ·
            refine c_seq ?_
            refine c_region ?_
            refine o_store tok rfl rfl rfl (by first | exact ⟨trivial, trivial⟩ | simp [onesP, oneP, lk, Value.oneCell']) ?_
            refine o_yield rfl rfl rfl (y_val tok rfl) ?_
            refine o_end [8, 9] rfl ?_
            refine x_then ?_
            refine c_ret ?_
            refine x_then_ret ?_
            refine x_block_ret ?_
            refine x_then_ret ?_
            refine x_then_ret ?_
            refine x_block_ret ?_
            refine x_block_ret ?_
            refine x_then_ret ?_
            refine x_then_ret ?_
            refine x_block_ret ?_
            refine x_then_ret ?_
            refine b_ret tok rfl ?_
            intro E w' hm _
            refine ⟨.inr ⟨fun hok => ?_, rfl⟩, hm.below (Vw.le.refl _)⟩
            have h1 := hok.recsB _ hjlt
            rw [hpn] at h1
            rw [hr', h1] at h
            cases h
          ·
            refine c_skip ?_
            refine x_then ?_
            refine c_region ?_
            refine o_yield rfl rfl rfl (y_val tok rfl) ?_
            have hrb : recB (recAt key lsn per l (i * per + k)) = true := by rw [hr'] at h; simpa using h
            clear h
            rw [hr', ← recs_succ, hl1]
            refine o_call (.a (.v _)) rfl rfl fnok73 rfl rfl rfl (fun hg E w1 hm => by exact cut_c _ _) ?_
            refine o_yield rfl rfl rfl (y_val tok rfl) ?_
            refine o_yield rfl rfl rfl (y_val tok rfl) ?_
            refine o_yield rfl rfl rfl (y_val tok rfl) ?_
            refine o_yield rfl rfl rfl (y_val tok rfl) ?_
            refine o_yield rfl rfl rfl (y_val tok rfl) ?_
            refine o_end [4, 8, 10, 11, 13, 14, 15, 38, 39, 40, 73, 74] rfl ?_
            refine x_block ?_
            refine x_then ?_
            refine c_region ?_
            refine o_yield rfl rfl rfl (y_val tok rfl) ?_
            refine o_yield rfl rfl rfl (y_val tok rfl) ?_
            refine o_end [4, 8, 10, 11, 13, 14, 15, 38, 39, 40, 73, 74] rfl ?_
            refine x_then ?_
            rw [wrapI (by omega) (by omega)]
            refine k_swap 4 6 rfl ?_
            refine x_round (k + 1) ⟨by omega, fun j hj => ?_⟩ (by omega) ⟨rfl, rfl, rfl, rfl, rfl, rfl, rfl, rfl, rfl, rfl, rfl, rfl, trivial⟩ ⟨rfl, rfl, rfl, rfl, rfl, rfl, trivial⟩ rfl (Vw.le.refl _)
            by_cases hjj : j < i * per + k
            · exact hrec' j hjj
            · have : j = i * per + k := by omega
              rw [this]; exact hrb
        ·
          refine c_exit ?_
          refine x_then_exit ?_
          refine x_then_exit ?_
          refine x_block_hit ?_
          refine x_block ?_
          refine x_then ?_
          refine c_region ?_
          refine o_yield rfl rfl rfl (y_val tok rfl) ?_
          refine o_yield rfl rfl rfl (y_val tok rfl) ?_
          refine o_end [4, 8, 10, 11, 38, 39, 40] rfl ?_
          refine x_then ?_
          have hkper : k = per := by simp at h; omega
          subst hkper
          rw [wrapI (by omega) (by omega)]
          rw [show i * k + k = (i + 1) * k by rw [Nat.add_mul, Nat.one_mul]] at hrec' ⊢
          refine x_round (i + 1) ⟨by omega, fun i' b' hi' hb' => ?_, hrec'⟩ (by omega) ⟨rfl, rfl, ?_, rfl, rfl, rfl, rfl, trivial⟩ ⟨rfl, rfl, rfl, rfl, rfl, trivial⟩ rfl (Vw.le.refl _)
          · by_cases hii : i' < i
            · exact hblk i' b' hii hb'
            · have : i' = i := by omega
              subst this
              rw [hb] at hb'
              cases hb'
              exact hbo
          · show _ = some (SV.a (A.v (I (blkAt l i).n)))
            rw [blkAt_eq hb]
            rfl
    ·
      refine c_exit ?_
      refine x_then_exit ?_
      refine x_then_exit ?_
      refine x_block_hit ?_
      refine x_then ?_
      refine c_seq ?_
      refine c_seq ?_
      refine c_region ?_
      refine o_yield rfl rfl rfl (y_val tok rfl) ?_
      refine o_yield rfl rfl rfl (y_val tok rfl) ?_
      have hil : i = l.length := by simp at h; omega
      subst hil
      clear h
      refine o_yield rfl rfl rfl (y_val tok rfl) ?_
      refine o_yield rfl rfl rfl (y_val tok rfl) ?_
      have hjl : l.length * per ≤ 512 := by
        have h1 : l.length * per ≤ 64 * per := Nat.mul_le_mul_right _ (by omega)
        omega
      have hwr : IntKind.i64.wrap (lsn + ((recs key lsn per l (l.length * per)).length : Int)) = lsn + (l.length * per : Nat) := by
        rw [recs_len, wrapI (by omega) (by omega)]
      have hr' : (⟨0, 0, 0, 0, ByteArray.empty, ((recs key lsn per l (l.length * per)).length : Int)⟩ : Record).at key (IntKind.i64.wrap (lsn + ((recs key lsn per l (l.length * per)).length : Int))) = commitOf key lsn (l.length * g.per.toNat) := by
        rw [hwr, hpn]
        simp only [Record.at, commitOf, recs_len]
      refine o_step rfl rfl rfl rfl rfl (s_put 1 2 3 4 ⟨0, 0, 0, 0, ByteArray.empty, ((recs key lsn per l (l.length * per)).length : Int)⟩ key lsn (recs key lsn per l (l.length * per)) _ (fun E => rfl) rfl rfl rfl rfl rfl (by rw [recs_len]; omega) (by omega) (by omega)) (fun _ _ => ?_)
      refine o_yield rfl rfl rfl (y_val tok rfl) ?_
      refine o_end [8, 97] rfl ?_
      refine x_then ?_
      refine c_cond rfl (fun h => ?_) (fun h => ?_)
      ·
        refine c_seq ?_
        refine c_region ?_
        refine o_store tok rfl rfl rfl (by first | exact ⟨trivial, trivial⟩ | simp [onesP, oneP, lk, Value.oneCell']) ?_
        refine o_yield rfl rfl rfl (y_val tok rfl) ?_
        refine o_end [8, 9] rfl ?_
        refine x_then ?_
        refine c_ret ?_
        refine x_then_ret ?_
        refine b_ret tok rfl ?_
        intro E w' hm _
        refine ⟨.inr ⟨fun hok => ?_, rfl⟩, hm.below (Vw.le.refl _)⟩
        have h1 := hok.commitB
        rw [hr', h1] at h
        cases h
      ·
        refine c_skip ?_
        refine x_then ?_
        refine c_seq ?_
        refine c_region ?_
        refine o_yield rfl rfl rfl (y_val tok rfl) ?_
        refine o_store tok rfl rfl rfl (by first | exact ⟨trivial, trivial⟩ | simp [onesP, oneP, lk, Value.oneCell']) ?_
        refine o_yield rfl rfl rfl (y_val tok rfl) ?_
        refine o_end [8, 9] rfl ?_
        refine x_then ?_
        refine c_ret ?_
        refine b_ret tok rfl ?_
        have hrb : recB (commitOf key lsn (l.length * g.per.toNat)) = true := by rw [hr'] at h; simpa using h
        clear h
        rw [hr']
        intro E w' hm _
        refine ⟨.inl ⟨⟨hgeo, fun h => hne (by rw [h]; rfl), by omega, hlsn, fun i b hb => hblk i b (List.getElem?_eq_some_iff.1 hb).1 hb, by rw [hpn]; exact hrec, hrb⟩, E.κ 5, rfl, ?_⟩, hm.below (Vw.le.refl _)⟩
        have hrow := hm.rowFresh (Vw.le.refl _) (l := 5) rfl
        have hall : allRecs g key lsn l = recs key lsn per l (l.length * per) ++ [commitOf key lsn (l.length * g.per.toNat)] := by rw [allRecs, hpn]
        rw [hall]
        simpa using hrow
end Go.Proofs.Ytlcpfhjbhogdiaa
