import Derived.Test.YtiapfhcimekdkaaData
/- Geometries that may be: the program and the document agree. -/
set_option linter.unusedVariables false
set_option linter.unusedSimpArgs false
set_option maxRecDepth 100000
namespace Go.Proofs.Ytiapfhcimekdkaa
open Go Go.Eng Go.RowKit

def inB (n a b : Int) : Bool := decide (a ≤ n) && decide (n ≤ b)

/-- A geometry that may be. -/
def geoB (g : Geo) : Bool := decide ((1 ≤ g.nodes ∧ g.nodes ≤ 16) ∧ (1 ≤ g.slots ∧ g.slots ≤ g.nodes) ∧ (1 ≤ g.blocks ∧ g.blocks ≤ 64) ∧ (1 ≤ g.per ∧ g.per ≤ 8) ∧ (g.per + 2 ≤ g.journal ∧ g.journal ≤ 64) ∧
  (8 * g.slots ≤ g.log ∧ g.log ≤ 512) ∧ (1 ≤ g.lease ∧ g.lease < g.wait ∧ g.wait ≤ 1048576))

/-! The program's. -/

abbrev encI (n : Int) : List Value := [I n]

def sortedB : List Int → Bool
  | a :: b :: r => decide (a ≤ b) && sortedB (b :: r)
  | _ => true

theorem sorted_iff : ∀ (l : List Int), sortedB l = true ↔ ∀ j x y, l[j]? = some x → l[j + 1]? = some y → x ≤ y
  | [] => by simp [sortedB]
  | [a] => by simp [sortedB]
  | a :: b :: r => by
    simp only [sortedB, Bool.and_eq_true, decide_eq_true_eq, sorted_iff (b :: r)]
    constructor
    · rintro ⟨h1, h2⟩ j x y hx hy
      cases j with
      | zero => simp at hx hy; subst hx hy; exact h1
      | succ j => exact h2 j x y (by simpa using hx) (by simpa using hy)
    · intro h
      exact ⟨h 0 a b rfl rfl, fun j x y hx hy => h (j + 1) x y (by simpa using hx) (by simpa using hy)⟩

theorem within_c (V : Vw) (sv : Value) (l : List Int) (w : World) (hV : V.le (vw w)) (hs : SlOf V encI 1 sv l) (hn : l.length ≤ lim) :
    Calls Try.prog 167 #[sv] w fun e w' => e = .returned (.bool (sortedB l)) ∧ Below w.heap.size w w' := by
  simp only [lim] at hn
  have hs' := hs.mono hV
  refine enter (E := E0) (O := []) (nl := 0) (V := vw w) [.a (.v sv)] Try.func167 rfl rfl (mem0 E0 0 w) rfl rfl ?_
  refine c_seq ?_
  refine c_region ?_
  refine o_yield rfl rfl rfl (y_val tok rfl) ?_
  refine o_end [0] rfl ?_
  refine x_then ?_
  refine c_seq ?_
  refine c_seq ?_
  refine c_region ?_
  refine o_yield rfl rfl rfl (y_val tok rfl) ?_
  refine o_end [0, 3] rfl ?_
  refine x_then ?_
  refine c_block ?_
  refine c_loop (σ := Nat) (fun k => [(0, .a (.v sv)), (3, .a (.v (I (k + 1 : Nat))))]) (fun _ => []) 0 (fun _ => vw w)
    (fun k => k + 1 ≤ l.length + 1 ∧ ∀ j x y, j < k → l[j]? = some x → l[j + 1]? = some y → x ≤ y) (fun k => l.length - k) 0 ⟨by omega, by omega⟩ ⟨rfl, rfl, trivial⟩ trivial rfl (Vw.le.refl _) ?_
  rintro k ⟨hk, hall⟩
  refine c_seq ?_
  refine c_seq ?_
  refine c_region ?_
  refine o_yield rfl rfl rfl (y_val tok rfl) ?_
  refine o_yield rfl rfl rfl (y_val tok rfl) ?_
  refine o_yield rfl rfl rfl (y_len tok rfl (fun hg => hs'.sl)) ?_
  refine o_yield rfl rfl rfl (y_val tok rfl) ?_
  refine o_end [0, 3, 7] rfl ?_
  refine x_then ?_
  refine c_cond rfl (fun h => ?_) (fun h => ?_)
  ·
    refine c_skip ?_
    refine x_then ?_
    refine c_seq ?_
    refine c_block ?_
    refine c_seq ?_
    refine c_draw mixed (by kernel_rfl) ?_
    refine d_yield rfl rfl rfl (y_val tok rfl) rfl ?_
    refine d_yield rfl rfl rfl (y_val tok rfl) rfl ?_
    refine d_yield rfl rfl rfl (y_val tok rfl) rfl ?_
    have hlt : k + 1 < l.length := by simp at h; omega
    have hx : l[k]? = some (l[k]'(by omega)) := by simp
    have hy : l[k + 1]? = some l[k + 1] := by simp [hlt]
    have hw : IntKind.i64.wrap (((k + 1 : Nat) : Int) - 1) = (k : Int) := by rw [wrapI (by omega) (by omega)]; omega
    rw [hw]
    refine d_yield rfl rfl rfl (y_idx tok rfl (fun hg => hs'.sl) (fun hg => ⟨by omega, by omega⟩)) rfl ?_
    refine d_yield rfl rfl rfl (y_lel tok (k) 0 ((l[k]'(by omega))) rfl (fun hg => hs') (fun hg => hx) rfl rfl) rfl ?_
    refine d_yield rfl rfl rfl (y_val tok rfl) rfl ?_
    refine d_yield rfl rfl rfl (y_val tok rfl) rfl ?_
    refine d_yield rfl rfl rfl (y_idx tok rfl (fun hg => hs'.sl) (fun hg => ⟨by omega, by omega⟩)) rfl ?_
    refine d_yield rfl rfl rfl (y_lel tok (k + 1) 0 (l[k + 1]) rfl (fun hg => hs') (fun hg => hy) rfl rfl) rfl ?_
    refine d_yield rfl rfl rfl (y_val tok rfl) rfl ?_
    refine d_end [0, 3, 19] rfl ?_
    refine x_then ?_
    refine c_cond rfl (fun h => ?_) (fun h => ?_)
    ·
      refine c_seq ?_
      refine c_region ?_
      refine o_yield rfl rfl rfl (y_val tok rfl) ?_
      refine o_end [2] rfl ?_
      refine x_then ?_
      refine c_ret ?_
      refine x_block_ret ?_
      refine x_then_ret ?_
      refine x_then_ret ?_
      refine x_block_ret ?_
      refine x_then_ret ?_
      refine b_ret tok rfl ?_
      intro E w' hm _
      refine ⟨?_, hm.below (Vw.le.refl _)⟩
      have : sortedB l = false := by
        rw [Bool.eq_false_iff]
        intro hc
        have := (sorted_iff l).1 hc k _ _ hx hy
        simp at h; omega
      rw [this]; rfl
    ·
      refine c_skip ?_
      refine x_block ?_
      refine x_then ?_
      refine c_region ?_
      refine o_yield rfl rfl rfl (y_val tok rfl) ?_
      refine o_yield rfl rfl rfl (y_val tok rfl) ?_
      refine o_yield rfl rfl rfl (y_val tok rfl) ?_
      refine o_end [0, 3] rfl ?_
      refine x_then ?_
      have hwr : IntKind.i64.wrap (((k + 1 : Nat) : Int) + 1) = ((k + 1 + 1 : Nat) : Int) := by rw [wrapI (by omega) (by omega)]; omega
      rw [hwr]
      refine x_round (k + 1) ⟨by omega, fun j x y hj hx' hy' => ?_⟩ (by omega) ⟨rfl, rfl, trivial⟩ trivial rfl (Vw.le.refl _)
      by_cases hjk : j = k
      · subst hjk
        rw [hx] at hx'; rw [hy] at hy'
        cases hx'; cases hy'
        simp at h; omega
      · exact hall j x y (by omega) hx' hy'
  ·
    refine c_exit ?_
    refine x_then_exit ?_
    refine x_then_exit ?_
    refine x_block_hit ?_
    refine x_then ?_
    refine c_seq ?_
    refine c_region ?_
    refine o_yield rfl rfl rfl (y_val tok rfl) ?_
    refine o_end [2] rfl ?_
    refine x_then ?_
    refine c_ret ?_
    refine b_ret tok rfl ?_
    intro E w' hm _
    refine ⟨?_, hm.below (Vw.le.refl _)⟩
    have : sortedB l = true := by
      rw [sorted_iff]
      intro j x y hx hy
      have := (List.getElem?_eq_some_iff.1 hy).1
      simp at h
      exact hall j x y (by omega) hx hy
    rw [this]; rfl

theorem geoMay_c (g : Geo) (ok : g.Ok) (w : World) : Calls Try.prog 164 #[g.val] w fun e w' => e = .returned (.bool (geoB g)) ∧ Below w.heap.size w w' := by
  refine enter (E := E0) (O := []) (nl := 0) (V := vw w) [.a (.v g.val)] Try.func164 rfl rfl (mem0 E0 0 w) rfl rfl ?_
  refine c_seq ?_
  refine c_region ?_
  refine o_new tok rfl rfl rfl rfl ?_
  refine o_yield rfl rfl rfl (y_val tok rfl) ?_
  refine o_end [1] rfl ?_
  refine x_then ?_
  refine c_seq ?_
  refine c_region ?_
  refine o_yield rfl rfl rfl (y_val tok rfl) ?_
  refine o_yield rfl rfl rfl (y_val tok rfl) ?_
  refine o_yield rfl rfl rfl (y_val tok rfl) ?_
  refine o_yield rfl rfl rfl (y_val tok rfl) ?_
  refine o_bs tok rfl rfl rfl rfl (fun b1 V1 hle1 hb1 => ?_)
  refine o_call (.a (.v _)) rfl rfl fnok167 rfl rfl rfl (fun hg E w1 hm => by exact within_c V1 _ [1, g.slots, g.nodes, 16] _ hm.leV (SlOf.ofBlock (enc := encI) (sz := 1) (l := [1, g.slots, g.nodes, 16]) (hb1 hg) rfl (fun _ => rfl) (Nat.le_refl _)) (by simp [lim])) ?_
  refine o_yield rfl rfl rfl (y_val tok rfl) ?_
  refine o_yield rfl rfl rfl (y_val tok rfl) ?_
  refine o_yield rfl rfl rfl (y_val tok rfl) ?_
  refine o_bs tok rfl rfl rfl rfl (fun b2 V2 hle2 hb2 => ?_)
  refine o_call (.a (.v _)) rfl rfl fnok167 rfl rfl rfl (fun hg E w1 hm => by exact within_c V2 _ [1, g.blocks, 64] _ hm.leV (SlOf.ofBlock (enc := encI) (sz := 1) (l := [1, g.blocks, 64]) (hb2 hg) rfl (fun _ => rfl) (Nat.le_refl _)) (by simp [lim])) ?_
  refine o_yield rfl rfl rfl (y_val tok rfl) ?_
  refine o_yield rfl rfl rfl (y_val tok rfl) ?_
  refine o_yield rfl rfl rfl (y_val tok rfl) ?_
  refine o_yield rfl rfl rfl (y_val tok rfl) ?_
  refine o_bs tok rfl rfl rfl rfl (fun b3 V3 hle3 hb3 => ?_)
  refine o_call (.a (.v _)) rfl rfl fnok167 rfl rfl rfl (fun hg E w1 hm => by exact within_c V3 _ [1, g.per, 8] _ hm.leV (SlOf.ofBlock (enc := encI) (sz := 1) (l := [1, g.per, 8]) (hb3 hg) rfl (fun _ => rfl) (Nat.le_refl _)) (by simp [lim])) ?_
  refine o_yield rfl rfl rfl (y_val tok rfl) ?_
  refine o_yield rfl rfl rfl (y_val tok rfl) ?_
  refine o_yield rfl rfl rfl (y_val tok rfl) ?_
  refine o_yield rfl rfl rfl (y_val tok rfl) ?_
  refine o_yield rfl rfl rfl (y_val tok rfl) ?_
  refine o_yield rfl rfl rfl (y_val tok rfl) ?_
  refine o_yield rfl rfl rfl (y_val tok rfl) ?_
  refine o_bs tok rfl rfl rfl rfl (fun b4 V4 hle4 hb4 => ?_)
  refine o_call (.a (.v _)) rfl rfl fnok167 rfl rfl rfl (fun hg E w1 hm => by exact within_c V4 _ [IntKind.i64.wrap (g.per + 2), g.journal, 64] _ hm.leV (SlOf.ofBlock (enc := encI) (sz := 1) (l := [IntKind.i64.wrap (g.per + 2), g.journal, 64]) (hb4 hg) rfl (fun _ => rfl) (Nat.le_refl _)) (by simp [lim])) ?_
  refine o_yield rfl rfl rfl (y_val tok rfl) ?_
  refine o_yield rfl rfl rfl (y_val tok rfl) ?_
  refine o_yield rfl rfl rfl (y_val tok rfl) ?_
  refine o_yield rfl rfl rfl (y_val tok rfl) ?_
  refine o_yield rfl rfl rfl (y_val tok rfl) ?_
  refine o_yield rfl rfl rfl (y_val tok rfl) ?_
  refine o_yield rfl rfl rfl (y_val tok rfl) ?_
  refine o_bs tok rfl rfl rfl rfl (fun b5 V5 hle5 hb5 => ?_)
  refine o_call (.a (.v _)) rfl rfl fnok167 rfl rfl rfl (fun hg E w1 hm => by exact within_c V5 _ [IntKind.i64.wrap (8 * g.slots), g.log, 512] _ hm.leV (SlOf.ofBlock (enc := encI) (sz := 1) (l := [IntKind.i64.wrap (8 * g.slots), g.log, 512]) (hb5 hg) rfl (fun _ => rfl) (Nat.le_refl _)) (by simp [lim])) ?_
  refine o_yield rfl rfl rfl (y_val tok rfl) ?_
  refine o_yield rfl rfl rfl (y_val tok rfl) ?_
  refine o_yield rfl rfl rfl (y_val tok rfl) ?_
  refine o_yield rfl rfl rfl (y_val tok rfl) ?_
  refine o_yield rfl rfl rfl (y_val tok rfl) ?_
  refine o_yield rfl rfl rfl (y_val tok rfl) ?_
  refine o_yield rfl rfl rfl (y_val tok rfl) ?_
  refine o_bs tok rfl rfl rfl rfl (fun b6 V6 hle6 hb6 => ?_)
  refine o_call (.a (.v _)) rfl rfl fnok167 rfl rfl rfl (fun hg E w1 hm => by exact within_c V6 _ [1, g.lease, IntKind.i64.wrap (g.wait - 1), 1048575] _ hm.leV (SlOf.ofBlock (enc := encI) (sz := 1) (l := [1, g.lease, IntKind.i64.wrap (g.wait - 1), 1048575]) (hb6 hg) rfl (fun _ => rfl) (Nat.le_refl _)) (by simp [lim])) ?_
  refine o_yield rfl rfl rfl (y_val tok rfl) ?_
  refine o_yield rfl rfl rfl (y_val tok rfl) ?_
  refine o_end [2] rfl ?_
  refine x_then ?_
  refine c_ret ?_
  refine b_ret tok rfl ?_
  intro E w' hm _
  refine ⟨?_, hm.below (((((hle1.trans hle2).trans hle3).trans hle4).trans hle5).trans hle6)⟩
  show Ending.returned (.bool (((((sortedB [1, g.slots, g.nodes, 16] && sortedB [1, g.blocks, 64]) && sortedB [1, g.per, 8]) && sortedB [IntKind.i64.wrap (g.per + 2), g.journal, 64]) && sortedB [IntKind.i64.wrap (8 * g.slots), g.log, 512]) &&
    sortedB [1, g.lease, IntKind.i64.wrap (g.wait - 1), 1048575])) = _
  congr 2
  have hw := ok.wait
  simp only [R64] at hw
  by_cases h : (1 ≤ g.nodes ∧ g.nodes ≤ 16) ∧ (1 ≤ g.slots ∧ g.slots ≤ g.nodes) ∧ (1 ≤ g.per ∧ g.per ≤ 8)
  · rw [wrapI (n := g.per + 2) (by omega) (by omega), wrapI (n := 8 * g.slots) (by omega) (by omega)]
    by_cases hwait : g.wait = -9223372036854775808
    · have : geoB g = false := by
        simp only [geoB, decide_eq_false_iff_not]
        omega
      rw [this, hwait]
      simp [sortedB]
      intros
      decide
    · rw [wrapI (n := g.wait - 1) (by omega) (by omega), Bool.eq_iff_iff]
      simp only [sortedB, geoB, Bool.and_eq_true, decide_eq_true_eq, and_true]
      omega
  · have : geoB g = false := by
      simp only [geoB, decide_eq_false_iff_not]
      omega
    rw [this, Bool.eq_false_iff]
    simp only [sortedB, ne_eq, Bool.and_eq_true, decide_eq_true_eq]
    omega
end Go.Proofs.Ytiapfhcimekdkaa

/- Records: which may be. -/
set_option linter.unusedVariables false
set_option linter.unusedSimpArgs false
set_option maxRecDepth 100000
namespace Go.Proofs.Ytiapfhcimekdkaa
open Go Go.Eng Go.RowKit

def belowB (n m : Int) : Bool := decide (0 ≤ n) && decide (n < m)

def keyB (n : Int) : Bool := decide (16 ≤ n) && decide (n ≤ 1099511627776)

theorem key_c (n : Int) (w : World) : Calls Try.prog 101 #[I n] w fun e w' => e = .returned (.bool (keyB n)) ∧ Below w.heap.size w w' := by
  refine enter (E := E0) (O := []) (nl := 0) (V := vw w) [.a (.v (I n))] Try.func101 rfl rfl (mem0 E0 0 w) rfl rfl ?_
  refine c_seq ?_
  refine c_region ?_
  refine o_yield rfl rfl rfl (y_val tok rfl) ?_
  refine o_end [0] rfl ?_
  refine x_then ?_
  refine c_seq ?_
  refine c_region ?_
  refine o_yield rfl rfl rfl (y_val tok rfl) ?_
  refine o_yield rfl rfl rfl (y_val tok rfl) ?_
  refine o_yield rfl rfl rfl (y_val tok rfl) ?_
  refine o_yield rfl rfl rfl (y_val tok rfl) ?_
  refine o_yield rfl rfl rfl (y_val tok rfl) ?_
  refine o_yield rfl rfl rfl (y_val tok rfl) ?_
  refine o_yield rfl rfl rfl (y_val tok rfl) ?_
  refine o_end [2] rfl ?_
  refine x_then ?_
  refine c_ret ?_
  refine b_ret tok rfl ?_
  intro E w' hm _
  exact ⟨rfl, hm.below (Vw.le.refl _)⟩

end Go.Proofs.Ytiapfhcimekdkaa

/- Numbers as bytes: widths, what fits, what stands somewhere. -/
set_option linter.unusedVariables false
set_option linter.unusedSimpArgs false
set_option maxRecDepth 100000
namespace Go.Proofs.Ytiapfhcimekdkaa
open Go Go.Eng Go.RowKit

def widthB (w : Int) : Bool := decide (1 ≤ w) && decide (w ≤ 6)

/-- The greatest number of a width. -/
def mostN (k : Nat) : Nat := min (256 ^ k - 1) 1099511627776

def fitsB (n w : Int) : Bool := widthB w && decide (0 ≤ n) && decide (n ≤ mostN w.toNat)

/-- A width's greatest number; -1: it is none. -/
def mostI (k : Int) : Int := if widthB k = true then mostN k.toNat else -1

/-- A power of 256. -/
def pw (k : Nat) : Nat := 256 ^ k
theorem pw_succ (k : Nat) : pw (k + 1) = pw k * 256 := by simp [pw, Nat.pow_succ]
theorem pw_pos (k : Nat) : 1 ≤ pw k := Nat.pow_pos (by omega)
/-- Digits to the base of 256, the least first. -/
def leTo (f : Nat → Nat) : Nat → Nat
  | 0 => 0
  | k + 1 => leTo f k + f k * pw k

def digit (s : ByteArray) (at_ j : Nat) : Nat := (byteAt s (at_ + j)).toNat

/-- The number that stands at a place, or why there is none. -/
def getSpec (s : ByteArray) (at_ k : Int) : Int × Int :=
  if widthB k = false then (0, 2)
  else if at_ < 0 ∨ (s.size : Int) < at_ ∨ (s.size : Int) - at_ < k then (0, 10)
  else if 1099511627776 < leTo (digit s at_.toNat) k.toNat then (0, 10)
  else ((leTo (digit s at_.toNat) k.toNat : Nat), 0)

end Go.Proofs.Ytiapfhcimekdkaa

/- Sums of bytes: the program's table and the document's steps. -/
set_option linter.unusedVariables false
set_option linter.unusedSimpArgs false
set_option maxRecDepth 100000
namespace Go.Proofs.Ytiapfhcimekdkaa
open Go Go.Eng Go.RowKit

def crcStep (x : Nat) : Nat := if x % 2 = 1 then x / 2 ^^^ 2197175160 else x / 2

def stepN : Nat → Nat → Nat
  | 0, x => x
  | k + 1, x => crcStep (stepN k x)

abbrev U (n : Nat) : Value := .int .u32 (n : Int)

/-- A sum's bytes, one by one. -/
def crcFold (x : Nat) (l : List UInt8) : Nat := l.foldl (fun x b => stepN 8 (x ^^^ b.toNat)) x

def crcOf (l : List UInt8) : Nat := crcFold 4294967295 l ^^^ 4294967295

/-- The table as it is filled, behind the register. -/
def tabC (i : Nat) : List Value := (List.range 16).map fun j => U (if j < i then stepN 4 j else 0)
def regC (x : Nat) (i : Nat) : List Value := U x :: tabC i

/-! The document's steps. -/

/-! A sum tells one byte that was turned. -/

end Go.Proofs.Ytiapfhcimekdkaa

/- Numbers' bytes put behind others. -/
set_option linter.unusedVariables false
set_option linter.unusedSimpArgs false
set_option maxRecDepth 100000
namespace Go.Proofs.Ytiapfhcimekdkaa
open Go Go.Eng Go.RowKit

/-- A number's bytes, the least first. -/
def leTake (n j : Nat) : List UInt8 := (List.range j).map fun i => UInt8.ofNat (n / pw i % 256)
def leB (k n : Int) : List UInt8 := leTake n.toNat k.toNat

theorem leTake_len (n j : Nat) : (leTake n j).length = j := by simp [leTake]

theorem ofNat_mod (n : Nat) : (UInt8.ofNat (n % 256)).toNat = n % 256 := by
  rw [UInt8.toNat_ofNat']
  omega

def putOk (k : Int) (ls : List Int) : Bool := widthB k && ls.all fun n => fitsB n k
def putL (bl : List UInt8) (k : Int) (ls : List Int) : List UInt8 := bl ++ ls.flatMap (leB k)

/-- What putting comes to. -/
def PutPost (bl : List UInt8) (k : Int) (ls : List Int) (w : World) (e : Ending) (w' : World) : Prop :=
  ((putOk k ls = true ∧ ∃ v, e = .returned (.tuple #[v, I 0]) ∧ w'.ownsRow w.heap.size 5 1 v (putL bl k ls).length ((putL bl k ls).flatMap encByte)) ∨
    (putOk k ls = false ∧ e = .returned (.tuple #[.slice none 0 0, I 2]))) ∧ Below w.heap.size w w'

end Go.Proofs.Ytiapfhcimekdkaa

/- Sectors that are sealed: the document's. -/
set_option linter.unusedVariables false
set_option linter.unusedSimpArgs false
set_option maxRecDepth 100000
namespace Go.Proofs.Ytiapfhcimekdkaa
open Go Go.Eng Go.RowKit

def body (k : UInt8) (load : List UInt8) : List UInt8 := putL [k] 2 [(load.length : Int)] ++ load
def sealL (k : UInt8) (load : List UInt8) : List UInt8 := body k load ++ leTake (crcOf (body k load)) 4

def kindOf8 (kind : Int) : UInt8 := UInt8.ofNat kind.toNat

/-- Sealing: the sector, or why there is none. -/
def sealS (kind : Int) (s : ByteArray) : ByteArray × Int :=
  if kind < 1 ∨ 505 < s.size then (ByteArray.empty, 2) else (strOf (sealL (kindOf8 kind) s.data.toList), 0)

theorem str_ext {a b : ByteArray} (h : a.data.toList = b.data.toList) : a = b := by
  apply ByteArray.ext
  apply Array.ext'
  exact h

theorem size_list (s : ByteArray) : s.data.toList.length = s.size := by rw [Array.length_toList]; rfl

section
variable {o : Oper} {n : Nat} {F : Frame0} {C : List Nat} {O : Own} {nl : Nat} {V : Vw}

end

/-- What was sealed. -/
def loadOf (s : ByteArray) : ByteArray := s.extract 3 (s.size - 4)

/-- Whether a sector is sealed. -/
def openB (s : ByteArray) : Bool := decide (7 ≤ s.size) && decide (s.size ≤ 512) && decide (1 ≤ (byteAt s 0).toNat) && decide ((byteAt s 0).toNat ≤ 127) && decide (sealL (byteAt s 0) (loadOf s).data.toList = s.data.toList)

def openK (s : ByteArray) : Int := if openB s = true then ((byteAt s 0).toNat : Int) else 0
def openL (s : ByteArray) : ByteArray := if openB s = true then loadOf s else ByteArray.empty
def openE (s : ByteArray) : Int := if openB s = true then 0 else 30

/-- The load of a sector of a kind. -/
def ofB (kind : Int) (s : ByteArray) : Bool := openB s && decide (((byteAt s 0).toNat : Int) = kind)
def ofL (kind : Int) (s : ByteArray) : ByteArray := if ofB kind s = true then loadOf s else ByteArray.empty
def ofE (kind : Int) (s : ByteArray) : Int := if ofB kind s = true then 0 else 30

/-! The program's. -/

theorem byteAt_list (s : ByteArray) (i : Nat) : byteAt s i = s.data.toList.getD i 0 := by
  simp [byteAt, List.getD]

/-- Whether a sector is sealed, as the program asks it. -/
def openP (s : ByteArray) : Bool :=
  decide (3 ≤ s.size) && decide (s.size = 7 + (digit s 1 0 + digit s 1 1 * 256)) && decide (digit s 1 0 + digit s 1 1 * 256 ≤ 505) && decide (1 ≤ (byteAt s 0).toNat) && decide ((byteAt s 0).toNat ≤ 127) &&
    decide (digit s (s.size - 4) 0 + digit s (s.size - 4) 1 * 256 + digit s (s.size - 4) 2 * 65536 + digit s (s.size - 4) 3 * 16777216 = crcOf (s.data.toList.take (s.size - 4)))

end Go.Proofs.Ytiapfhcimekdkaa

/- A sealed sector's numbers, and what is left. -/
set_option linter.unusedVariables false
set_option linter.unusedSimpArgs false
set_option maxRecDepth 100000
namespace Go.Proofs.Ytiapfhcimekdkaa
open Go Go.Eng Go.RowKit

def restOf (s : ByteArray) (k : Nat) : ByteArray := s.extract k s.size

theorem restOf_list (s : ByteArray) (k : Nat) : (restOf s k).data.toList = s.data.toList.drop k := by
  rw [restOf, ByteArray.data_extract, Array.toList_extract, List.extract_eq_take_drop]
  rw [List.take_of_length_le (by rw [List.length_drop, size_list]; omega)]

theorem restOf_size (s : ByteArray) (k : Nat) : (restOf s k).size = s.size - k := by
  rw [← size_list, restOf_list, List.length_drop, size_list]

theorem restOf_add (s : ByteArray) (a b : Nat) : restOf (restOf s a) b = restOf s (a + b) := by
  apply str_ext
  rw [restOf_list, restOf_list, restOf_list, List.drop_drop]

theorem digit_rest (s : ByteArray) (a j : Nat) : digit (restOf s a) 0 j = digit s a j := by
  rw [digit, digit, byteAt_list, byteAt_list, restOf_list]
  simp [List.getD]

theorem leTo_congr {f g : Nat → Nat} (h : ∀ j, f j = g j) (k : Nat) : leTo f k = leTo g k := by
  rw [funext h]

theorem getSpec_rest (s : ByteArray) {a : Nat} (ha : a ≤ s.size) (k : Int) : getSpec (restOf s a) 0 k = getSpec s a k := by
  have hd : leTo (digit (restOf s a) (0 : Int).toNat) k.toNat = leTo (digit s ((a : Int)).toNat) k.toNat := leTo_congr (fun j => by rw [Int.toNat_natCast]; exact digit_rest s a j) _
  unfold getSpec
  rw [hd, restOf_size]
  by_cases h : widthB k = false
  · rw [if_pos h, if_pos h]
  · rw [if_neg h, if_neg h]
    by_cases h2 : (s.size : Int) - a < k
    · rw [if_pos (by omega), if_pos (by omega)]
    · rw [if_neg (show ¬ ((0 : Int) < 0 ∨ ((s.size - a : Nat) : Int) < 0 ∨ ((s.size - a : Nat) : Int) - 0 < k) by omega), if_neg (show ¬ ((a : Int) < 0 ∨ (s.size : Int) < a ∨ (s.size : Int) - a < k) by omega)]

/-- The numbers that stand one behind the other, and what is left. -/
def fldA (acc : List Int) (rest : ByteArray) : List Int → Option (List Int × ByteArray)
  | [] => some (acc, rest)
  | k :: ks => if (getSpec rest 0 k).2 ≠ 0 then none else fldA (acc ++ [(getSpec rest 0 k).1]) (restOf rest k.toNat) ks

def fieldsR (kind : Int) (s : ByteArray) (ks : List Int) : Option (List Int × ByteArray) := if ofB kind s = true then fldA [] (loadOf s) ks else none

def FPost (kind : Int) (s : ByteArray) (ks : List Int) (w : World) (e : Ending) (w' : World) : Prop :=
  ((∃ l r v, fieldsR kind s ks = some (l, r) ∧ e = .returned (.tuple #[v, S r, I 0]) ∧ w'.ownsRow w.heap.size 3 1 v l.length (l.flatMap encI64)) ∨
    (fieldsR kind s ks = none ∧ e = .returned (.tuple #[.slice none 0 0, S ByteArray.empty, I 30]))) ∧ Below w.heap.size w w'

structure FInv (ks acc : List Int) (load rest : ByteArray) (i : Nat) : Prop where
  le : i ≤ ks.length
  eq : fldA [] load ks = fldA acc rest (ks.drop i)
  len : acc.length = i
  size : rest.size ≤ 505

/-- The fields' rows as ones that nobody writes. -/
def FVal (kind : Int) (s : ByteArray) (ks : List Int) (x : Value) (V' : Vw) : Prop :=
  (∃ l r v, fieldsR kind s ks = some (l, r) ∧ x = .tuple #[v, S r, I 0] ∧ SlOf V' encI64 1 v l) ∨ (fieldsR kind s ks = none ∧ x = .tuple #[.slice none 0 0, S ByteArray.empty, I 30])

end Go.Proofs.Ytiapfhcimekdkaa

/- The program's putting of numbers' bytes. -/
set_option linter.unusedVariables false
set_option linter.unusedSimpArgs false
set_option maxRecDepth 100000
namespace Go.Proofs.Ytiapfhcimekdkaa
open Go Go.Eng Go.RowKit

section
variable {o : Oper} {n : Nat} {F : Frame0} {C : List Nat} {O : Own} {nl : Nat} {V : Vw}

end
end Go.Proofs.Ytiapfhcimekdkaa

/- Sectors that are sealed: the program's. -/
set_option linter.unusedVariables false
set_option linter.unusedSimpArgs false
set_option maxRecDepth 100000
namespace Go.Proofs.Ytiapfhcimekdkaa
open Go Go.Eng Go.RowKit

section
variable {o : Oper} {n : Nat} {F : Frame0} {C : List Nat} {O : Own} {nl : Nat} {V : Vw}

end

/-- Numbers put one behind the other. -/
def packL : List Int → List Int → List UInt8
  | k :: ks, n :: ns => leB k n ++ packL ks ns
  | _, _ => []

end Go.Proofs.Ytiapfhcimekdkaa

/- Sealed numbers are read back; a sector of which one byte was turned is none: plain law. -/
set_option linter.unusedVariables false
set_option linter.unusedSimpArgs false
set_option maxRecDepth 100000
namespace Go.Proofs.Ytiapfhcimekdkaa
open Go Go.Eng Go.RowKit

theorem leTo_congr_lt {f g : Nat → Nat} : ∀ {k : Nat}, (∀ j, j < k → f j = g j) → leTo f k = leTo g k
  | 0, _ => rfl
  | k + 1, h => by rw [leTo, leTo, leTo_congr_lt (fun j hj => h j (by omega)), h k (by omega)]

theorem leTo_digits (q : Nat) : ∀ k, leTo (fun j => q / pw j % 256) k = q % pw k
  | 0 => by simp [leTo, pw, Nat.mod_one]
  | k + 1 => by
    rw [leTo, leTo_digits q k, pw_succ, Nat.mod_mul, Nat.mul_comm (pw k)]

theorem fits_nat {n k : Int} (h : fitsB n k = true) : ∃ q m : Nat, n = q ∧ k = m ∧ 1 ≤ m ∧ m ≤ 6 ∧ q < pw m ∧ q ≤ 1099511627776 := by
  simp only [fitsB, widthB, Bool.and_eq_true, decide_eq_true_eq] at h
  obtain ⟨⟨⟨h1, h2⟩, h3⟩, h4⟩ := h
  refine ⟨n.toNat, k.toNat, by omega, by omega, by omega, by omega, ?_, ?_⟩
  · have := pw_pos k.toNat
    unfold mostN at h4
    unfold pw
    unfold pw at this
    omega
  · unfold mostN at h4; omega

/-- A number that fits is read back. -/
theorem getSpec_pack {n k : Int} (h : fitsB n k = true) (R : List UInt8) : getSpec (strOf (leB k n ++ R)) 0 k = (n, 0) := by
  have hw : widthB k = true := by
    simp only [fitsB, Bool.and_eq_true] at h; exact h.1.1
  obtain ⟨q, m, rfl, rfl, h1, h2, h3, h4⟩ := fits_nat h
  have hd : leTo (digit (strOf (leB m q ++ R)) (0 : Int).toNat) (m : Int).toNat = q := by
    rw [Int.toNat_natCast, leTo_congr_lt (g := fun j => q / pw j % 256) (fun j hj => ?_), leTo_digits, Nat.mod_eq_of_lt h3]
    rw [digit, byteAt_list, strOf_list]
    have hlen : j < (leB (m : Int) (q : Int)).length := by rw [leB, leTake_len]; exact hj
    rw [List.getD, List.getElem?_append_left (by simpa using hlen)]
    simp only [leB, leTake, Int.toNat_natCast, Int.toNat_zero, Nat.zero_add, List.getElem?_map, List.getElem?_range hj, Option.map_some, Option.getD_some]
    exact ofNat_mod _
  rw [getSpec, if_neg (by simp [hw]), hd, if_neg (by rw [strOf_size, List.length_append, leB, leTake_len]; omega), if_neg (by omega)]

end Go.Proofs.Ytiapfhcimekdkaa

/- Commands: which may be, their bytes. -/
set_option linter.unusedVariables false
set_option linter.unusedSimpArgs false
set_option maxRecDepth 100000
namespace Go.Proofs.Ytiapfhcimekdkaa
open Go Go.Eng Go.RowKit

def spanB (lo hi : Int) : Bool := (decide (0 ≤ lo) && decide (lo ≤ hi)) && decide (hi < 64)

/-- Whether a command has nothing but what its kind names. -/
def onlyB (c : Cmd) (sp mo de wa : Bool) : Bool :=
  ((((sp && spanB c.lo c.hi) || (!sp && (c.lo == 0 && c.hi == 0))) && ((mo && (c.mode == 1 || c.mode == 2)) || (!mo && c.mode == 0))) && ((de && keyB c.dead) || (!de && c.dead == 0))) && (c.was == 0 || (wa && keyB c.was))

/-- Whether a command may be. -/
def cmdB (c : Cmd) : Bool := ((keyB c.by_ && decide (1 ≤ c.serial)) && decide (c.serial ≤ 2147483648)) &&
  (if c.kind = 0 ∨ c.kind = 1 then onlyB c false false false false else if c.kind = 2 then onlyB c true true false false else if c.kind = 3 then onlyB c true false false false
    else if c.kind = 4 then onlyB c false false true true else if c.kind = 5 then onlyB c false false true false else false)

theorem eqF_cons {P : Program} {w : World} {d : Nat} {xs ys : Array Value} {f : Field} {fs : List Field} {a b : Value} {r rest : Bool} (hn : (f.name ≠ "_") = True) (ha : (part f.type xs f.offset).run P w = .ok a w)
    (hb : (part f.type ys f.offset).run P w = .ok b w) (hr : (Op.equalIn d f.type a b).run P w = .ok r w) (hrest : (Op.eqFields d xs ys fs).run P w = .ok rest w) : (Op.eqFields d xs ys (f :: fs)).run P w = .ok (r && rest) w := by
  rw [Op.eqFields, if_pos (by rw [hn]; trivial)]
  simp only [Sem.run_bind, ha, hb, hr, Result.andThen_ok]
  cases r <;> simp [hrest, Sem.run_pure]

theorem eqF_nil {P : Program} {w : World} {d : Nat} {xs ys : Array Value} : (Op.eqFields d xs ys []).run P w = .ok true w := by simp [Op.eqFields, Sem.run_pure]

theorem spanEq {op : BinOp} {ox oy : Operand} (a b c d : Int) (w : World) (hop : op = .eql ∨ op = .neq) :
    (do eqGuard op 34 ox oy (.agg #[I a, I b]) (.agg #[I c, I d]); binOp op 34 (.agg #[I a, I b]) (.agg #[I c, I d]) : Sem Value).run Try.prog w = .ok (.bool (if op = .eql then (a == c && b == d) else !(a == c && b == d))) w := by
  have hS : Try.prog.underlying 34 = some (.struct (Try.prog.fieldsOf 34)) := by kernel_rfl
  have hp : Try.prog.stoodInHeld 34 = false := by kernel_rfl
  have hg : Try.prog.eqGuardType Try.prog.depth 34 = false := by kernel_rfl
  have key : (Op.equalIn 10000 34 (.agg #[I a, I b]) (.agg #[I c, I d])).run Try.prog w = .ok (a == c && b == d) w := by
    have u3 := Try.underlying3
    have a3 := Try.isAgg3
    have z3 := Try.sizeOf3
    rw [show (10000 : Nat) = 9999 + 1 from rfl, run_equalIn_agg w 9999 34 _ _ hS hp]
    simp only [Program.fieldsOf, Try.underlying34]
    go_simp
    by_cases h1 : a = c <;> by_cases h2 : b = d <;> simp [h1, h2]
  rw [Sem.run_bind, run_eqGuard_agg w _ _ _ _ _ _ hg]
  rcases hop with rfl | rfl
  · simp only [Result.andThen_ok, run_eql_struct, key]; rfl
  · simp only [Result.andThen_ok, run_neq_struct, key]; rfl

def Cmd.eqB (a b : Cmd) : Bool := a.kind == b.kind && (a.by_ == b.by_ && (a.serial == b.serial && (a.dead == b.dead && (a.was == b.was && ((a.lo == b.lo && a.hi == b.hi) && a.mode == b.mode)))))

theorem cmdEq {op : BinOp} {ox oy : Operand} (a b : Cmd) (w : World) (hop : op = .eql ∨ op = .neq) :
    (do eqGuard op 36 ox oy a.val b.val; binOp op 36 a.val b.val : Sem Value).run Try.prog w = .ok (.bool (if op = .eql then a.eqB b else !(a.eqB b))) w := by
  have hS : Try.prog.underlying 36 = some (.struct (Try.prog.fieldsOf 36)) := by kernel_rfl
  have hp : Try.prog.stoodInHeld 36 = false := by kernel_rfl
  have hg : Try.prog.eqGuardType Try.prog.depth 36 = false := by kernel_rfl
  have hS2 : Try.prog.underlying 34 = some (.struct (Try.prog.fieldsOf 34)) := by kernel_rfl
  have hp2 : Try.prog.stoodInHeld 34 = false := by kernel_rfl
  have key2 : ∀ a b c d : Int, (Op.equalIn 9999 34 (.agg #[I a, I b]) (.agg #[I c, I d])).run Try.prog w = .ok (a == c && b == d) w := by
    intro a b c d
    have u3 := Try.underlying3
    have a3 := Try.isAgg3
    have z3 := Try.sizeOf3
    rw [show (9999 : Nat) = 9998 + 1 from rfl, run_equalIn_agg w 9998 34 _ _ hS2 hp2]
    simp only [Program.fieldsOf, Try.underlying34]
    go_simp
    by_cases h1 : a = c <;> by_cases h2 : b = d <;> simp [h1, h2]
  have key : (Op.equalIn 10000 36 a.val b.val).run Try.prog w = .ok (a.eqB b) w := by
    have u3 := Try.underlying3
    have a3 := Try.isAgg3
    have z3 := Try.sizeOf3
    have u8 := Try.underlying32
    have a8 := Try.isAgg32
    have z8 := Try.sizeOf32
    have asp := Try.isAgg34
    have zsp := Try.sizeOf34
    rw [show (10000 : Nat) = 9999 + 1 from rfl, run_equalIn_agg w 9999 36 _ _ hS hp]
    simp only [Program.fieldsOf, Try.underlying36]
    have e := fun (k : IntKind) (x y : Int) (t : Nat) (hu : Try.prog.underlying t = some (.int k)) => run_equalIn_int (P := Try.prog) w 9998 t k k x y hu
    refine (eqF_cons (by simp) (by go_simp; rfl) (by go_simp; rfl) (e .i8 _ _ _ u8) <| eqF_cons (by simp) (by go_simp; rfl) (by go_simp; rfl) (e .i64 _ _ _ u3) <| eqF_cons (by simp) (by go_simp; rfl) (by go_simp; rfl) (e .i64 _ _ _ u3) <|
      eqF_cons (by simp) (by go_simp; rfl) (by go_simp; rfl) (e .i64 _ _ _ u3) <| eqF_cons (by simp) (by go_simp; rfl) (by go_simp; rfl) (e .i64 _ _ _ u3) <| eqF_cons (a := .agg #[I a.lo, I a.hi]) (b := .agg #[I b.lo, I b.hi]) (by simp) (by go_simp) (by go_simp) (key2 _ _ _ _) <|
      eqF_cons (by simp) (by go_simp; rfl) (by go_simp; rfl) (e .i8 _ _ _ u8) eqF_nil).trans ?_
    rw [Bool.and_true]
    rfl
  rw [Sem.run_bind, run_eqGuard_agg w _ _ _ _ _ _ hg]
  rcases hop with rfl | rfl
  · simp only [Result.andThen_ok, run_eql_struct, key]; rfl
  · simp only [Result.andThen_ok, run_neq_struct, key]; rfl

abbrev orderCells (c : Cmd) (bv : Value) : List Value := c.cells ++ [bv]
end Go.Proofs.Ytiapfhcimekdkaa

/- The bytes of commands: the program's. -/
set_option linter.unusedVariables false
set_option linter.unusedSimpArgs false
set_option maxRecDepth 100000
namespace Go.Proofs.Ytiapfhcimekdkaa
open Go Go.Eng Go.RowKit

section
variable {o : Oper} {n : Nat} {F : Frame0} {C : List Nat} {O : Own} {nl : Nat} {V : Vw}

abbrev orderAs (c : Cmd) (a : A) : List A := c.cells.map .v ++ [a]

end

def cmdL (c : Cmd) : List UInt8 :=
  if c.kind = 2 then putL (putL (putL (putL [] 1 [c.kind]) 6 [c.by_]) 4 [c.serial]) 1 [c.lo, c.hi, c.mode]
  else if c.kind = 3 then putL (putL (putL (putL [] 1 [c.kind]) 6 [c.by_]) 4 [c.serial]) 1 [c.lo, c.hi]
  else if c.kind = 4 then putL (putL (putL (putL [] 1 [c.kind]) 6 [c.by_]) 4 [c.serial]) 6 [c.dead, c.was]
  else if c.kind = 5 then putL (putL (putL (putL [] 1 [c.kind]) 6 [c.by_]) 4 [c.serial]) 6 [c.dead]
  else putL (putL (putL [] 1 [c.kind]) 6 [c.by_]) 4 [c.serial]

def cbV (c : Cmd) : ByteArray := if cmdB c = true then strOf (cmdL c) else ByteArray.empty
def cbE (c : Cmd) : Int := if cmdB c = true then 0 else 2

structure CmdOk (c : Cmd) : Prop where
  kind : 0 ≤ c.kind ∧ c.kind ≤ 5
  by_ : 16 ≤ c.by_ ∧ c.by_ ≤ 1099511627776
  serial : 1 ≤ c.serial ∧ c.serial ≤ 2147483648
  lo : 0 ≤ c.lo ∧ c.lo < 64
  hi : 0 ≤ c.hi ∧ c.hi < 64
  mode : 0 ≤ c.mode ∧ c.mode ≤ 2
  dead : 0 ≤ c.dead ∧ c.dead ≤ 1099511627776
  was : 0 ≤ c.was ∧ c.was ≤ 1099511627776
  span : c.kind ≠ 2 → c.kind ≠ 3 → c.lo = 0 ∧ c.hi = 0
  mode0 : c.kind ≠ 2 → c.mode = 0
  dead0 : c.kind ≠ 4 → c.kind ≠ 5 → c.dead = 0
  was0 : c.kind ≠ 4 → c.was = 0

theorem cmdOk {c : Cmd} (h : cmdB c = true) : CmdOk c := by
  simp only [cmdB, keyB, Bool.and_eq_true, decide_eq_true_eq] at h
  obtain ⟨⟨⟨h1, h2⟩, h3⟩, h4⟩ := h
  split at h4
  · simp [onlyB, spanB, keyB] at h4
    constructor <;> omega
  · split at h4
    · simp [onlyB, spanB, keyB] at h4
      constructor <;> omega
    · split at h4
      · simp [onlyB, spanB, keyB] at h4
        constructor <;> omega
      · split at h4
        · simp [onlyB, spanB, keyB] at h4
          constructor <;> omega
        · split at h4
          · simp [onlyB, spanB, keyB] at h4
            constructor <;> omega
          · cases h4

end Go.Proofs.Ytiapfhcimekdkaa

/- Keys: the document's. -/
set_option linter.unusedVariables false
set_option linter.unusedSimpArgs false
set_option maxRecDepth 100000
namespace Go.Proofs.Ytiapfhcimekdkaa
open Go Go.Eng Go.RowKit

theorem refKey_c (n : Int) (w : World) : Calls Try.prog 54 #[I n] w fun e w' => e = .returned (.bool (keyB n)) ∧ Below w.heap.size w w' := by
  refine enter (E := E0) (O := []) (nl := 0) (V := vw w) [.a (.v (I n))] Try.func54 rfl rfl (mem0 E0 0 w) rfl rfl ?_
  refine c_seq ?_
  refine c_region ?_
  refine o_yield rfl rfl rfl (y_val tok rfl) ?_
  refine o_end [0] rfl ?_
  refine x_then ?_
  refine c_seq ?_
  refine c_region ?_
  refine o_yield rfl rfl rfl (y_val tok rfl) ?_
  refine o_yield rfl rfl rfl (y_val tok rfl) ?_
  refine o_yield rfl rfl rfl (y_val tok rfl) ?_
  refine o_yield rfl rfl rfl (y_val tok rfl) ?_
  refine o_yield rfl rfl rfl (y_val tok rfl) ?_
  refine o_yield rfl rfl rfl (y_val tok rfl) ?_
  refine o_yield rfl rfl rfl (y_val tok rfl) ?_
  refine o_end [2] rfl ?_
  refine x_then ?_
  refine c_ret ?_
  refine b_ret tok rfl ?_
  intro E w' hm _
  exact ⟨rfl, hm.below (Vw.le.refl _)⟩

theorem sl_shape {V : Vw} {v : Value} {sz m : Nat} {xs : List Value} (h : IsSl V v sz m xs) : ∃ a n c, v = .slice a n c := by
  rcases h.2 with ⟨a, c, rfl, _⟩ | ⟨g, o, cap, cur, e, f, rfl, _⟩
  · exact ⟨_, _, _, rfl⟩
  · exact ⟨_, _, _, rfl⟩

theorem drop_at {α : Type} {l : List α} {k : Nat} {x : α} (h : l[k]? = some x) : l.drop k = x :: l.drop (k + 1) := by
  have hlt := (List.getElem?_eq_some_iff.1 h).1
  rw [List.drop_eq_getElem_cons hlt, (List.getElem?_eq_some_iff.1 h).2]

theorem take_succ_at' {α : Type} {l : List α} {i : Nat} {x : α} (h : l[i]? = some x) : l.take (i + 1) = l.take i ++ [x] := by
  rw [List.take_add_one, h]; rfl
end Go.Proofs.Ytiapfhcimekdkaa

/- Commands, the document's: which may be. -/
set_option linter.unusedVariables false
set_option linter.unusedSimpArgs false
set_option maxRecDepth 100000
namespace Go.Proofs.Ytiapfhcimekdkaa
open Go Go.Eng Go.RowKit

theorem cmdB_pre {c : Cmd} (h : ((keyB c.by_ && decide (1 ≤ c.serial)) && decide (c.serial ≤ 2147483648)) = false) : cmdB c = false := by rw [cmdB, h]; rfl

theorem only0 (c : Cmd) : c.eqB ⟨c.kind, c.by_, c.serial, 0, 0, 0, 0, 0⟩ = onlyB c false false false false := by
  rw [Bool.eq_iff_iff]
  simp [Cmd.eqB, onlyB, and_assoc, and_comm, and_left_comm]
theorem only2 (c : Cmd) : ((c.eqB ⟨c.kind, c.by_, c.serial, 0, 0, c.lo, c.hi, c.mode⟩ && spanB c.lo c.hi) && (c.mode == 1 || c.mode == 2)) = onlyB c true true false false := by
  rw [Bool.eq_iff_iff]
  simp [Cmd.eqB, onlyB, spanB]
  try omega
theorem only3 (c : Cmd) : (c.eqB ⟨c.kind, c.by_, c.serial, 0, 0, c.lo, c.hi, 0⟩ && spanB c.lo c.hi) = onlyB c true false false false := by
  rw [Bool.eq_iff_iff]
  simp [Cmd.eqB, onlyB, spanB]
  try omega
theorem only4 (c : Cmd) : ((c.eqB ⟨c.kind, c.by_, c.serial, c.dead, c.was, 0, 0, 0⟩ && keyB c.dead) && (c.was == 0 || keyB c.was)) = onlyB c false false true true := by
  rw [Bool.eq_iff_iff]
  simp [Cmd.eqB, onlyB, keyB]
  try omega
theorem only5 (c : Cmd) : (c.eqB ⟨c.kind, c.by_, c.serial, c.dead, 0, 0, 0, 0⟩ && keyB c.dead) = onlyB c false false true false := by
  rw [Bool.eq_iff_iff]
  simp [Cmd.eqB, onlyB, keyB]
  try omega

theorem refCmdMay_c (c : Cmd) (w : World) : Calls Try.prog 13 #[c.val] w fun e w' => e = .returned (.bool (cmdB c)) ∧ Below w.heap.size w w' := by
  refine enter (E := E0) (O := []) (nl := 0) (V := vw w) [.a (.v c.val)] Try.func13 rfl rfl (mem0 E0 0 w) rfl rfl ?_
  refine c_seq ?_
  refine c_region ?_
  refine o_new tok rfl rfl rfl rfl ?_
  refine o_yield rfl rfl rfl (y_val tok rfl) ?_
  refine o_end [1] rfl ?_
  refine x_then ?_
  refine c_seq ?_
  refine c_seq ?_
  refine c_region ?_
  refine o_yield rfl rfl rfl (y_val tok rfl) ?_
  refine o_yield rfl rfl rfl (y_val tok rfl) ?_
  refine o_call (.a (.v _)) rfl rfl fnok54 rfl rfl rfl (fun hg E w1 hm => by exact refKey_c c.by_ _) ?_
  refine o_yield rfl rfl rfl (y_val tok rfl) ?_
  refine o_yield rfl rfl rfl (y_val tok rfl) ?_
  refine o_yield rfl rfl rfl (y_val tok rfl) ?_
  refine o_yield rfl rfl rfl (y_val tok rfl) ?_
  refine o_yield rfl rfl rfl (y_val tok rfl) ?_
  refine o_yield rfl rfl rfl (y_val tok rfl) ?_
  refine o_yield rfl rfl rfl (y_val tok rfl) ?_
  refine o_yield rfl rfl rfl (y_val tok rfl) ?_
  refine o_yield rfl rfl rfl (y_val tok rfl) ?_
  refine o_yield rfl rfl rfl (y_val tok rfl) ?_
  refine o_yield rfl rfl rfl (y_val tok rfl) ?_
  refine o_end [1, 18] rfl ?_
  refine x_then ?_
  refine c_cond rfl (fun h => ?_) (fun h => ?_)
  ·
    simp only [Bool.and_eq_true, Bool.or_eq_true, Bool.not_eq_true', Bool.or_eq_false_iff, Bool.and_eq_false_iff, decide_eq_true_eq, decide_eq_false_iff_not, beq_iff_eq, bne_iff_ne, Bool.not_eq_false', beq_eq_false_iff_ne, bne_eq_false_iff_eq, ne_eq, Decidable.not_not, Int.not_lt, Int.not_le] at h
    refine c_seq ?_
    refine c_region ?_
    refine o_yield rfl rfl rfl (y_val tok rfl) ?_
    refine o_end [2] rfl ?_
    refine x_then ?_
    refine c_ret ?_
    refine x_then_ret ?_
    refine b_ret tok rfl ?_
    intro E w' hm _
    refine ⟨?_, hm.below (Vw.le.refl _)⟩
    rw [cmdB_pre]
    · rfl
    · rcases h with (h | h) | h
      · rw [h]; rfl
      · rw [decide_eq_false (show ¬ 1 ≤ c.serial by omega), Bool.and_false]; rfl
      · rw [decide_eq_false (show ¬ c.serial ≤ 2147483648 by omega), Bool.and_false]
  ·
    simp only [Bool.and_eq_true, Bool.or_eq_true, Bool.not_eq_true', Bool.or_eq_false_iff, Bool.and_eq_false_iff, decide_eq_true_eq, decide_eq_false_iff_not, beq_iff_eq, bne_iff_ne, Bool.not_eq_false', beq_eq_false_iff_ne, bne_eq_false_iff_eq, ne_eq, Decidable.not_not, Int.not_lt, Int.not_le] at h
    obtain ⟨⟨g1, g2⟩, g3⟩ := h
    have hpre : ((keyB c.by_ && decide (1 ≤ c.serial)) && decide (c.serial ≤ 2147483648)) = true := by
      rw [g1, decide_eq_true (show 1 ≤ c.serial by omega), decide_eq_true (show c.serial ≤ 2147483648 by omega)]; rfl
    refine c_skip ?_
    refine x_then ?_
    refine c_seq ?_
    refine c_region ?_
    refine o_yield rfl rfl rfl (y_val tok rfl) ?_
    refine o_yield rfl rfl rfl (y_val tok rfl) ?_
    refine o_yield rfl rfl rfl (y_val tok rfl) ?_
    refine o_yield rfl rfl rfl (y_val tok rfl) ?_
    refine o_yield rfl rfl rfl (y_val tok rfl) ?_
    refine o_yield rfl rfl rfl (y_val tok rfl) ?_
    refine o_yield rfl rfl rfl (y_val tok rfl) ?_
    refine o_new tok rfl rfl rfl rfl ?_
    refine o_store tok rfl rfl rfl (by first | exact ⟨trivial, trivial⟩ | (repeat' first | exact trivial | exact rfl | apply And.intro); done | simp [onesP, oneP, lk, Value.oneCell']) ?_
    refine o_end [1, 3] rfl ?_
    refine x_then ?_
    refine c_seq ?_
    refine c_region ?_
    refine o_yield rfl rfl rfl (y_val tok rfl) ?_
    refine o_yield rfl rfl rfl (y_val tok rfl) ?_
    refine o_yield rfl rfl rfl (y_val tok rfl) ?_
    refine o_yield rfl rfl rfl (y_val tok rfl) ?_
    refine o_yield rfl rfl rfl (y_val tok rfl) ?_
    refine o_yield rfl rfl rfl (y_val tok rfl) ?_
    refine o_yield rfl rfl rfl (y_val tok rfl) ?_
    refine o_yield rfl rfl rfl (y_val tok rfl) ?_
    refine o_yield rfl rfl rfl (y_val tok rfl) ?_
    refine o_yield rfl rfl rfl (y_val tok rfl) ?_
    refine o_yield rfl rfl rfl (y_val tok rfl) ?_
    refine o_yield rfl rfl rfl (y_val tok rfl) ?_
    refine o_yield rfl rfl rfl (y_val tok rfl) ?_
    refine o_yield rfl rfl rfl (y_val tok rfl) ?_
    refine o_yield rfl rfl rfl (y_val tok rfl) ?_
    refine o_yield rfl rfl rfl (y_val tok rfl) ?_
    refine o_yield rfl rfl rfl (y_val tok rfl) ?_
    refine o_yield rfl rfl rfl (y_val tok rfl) ?_
    refine o_yield rfl rfl rfl (y_val tok rfl) ?_
    refine o_yield rfl rfl rfl (y_val tok rfl) ?_
    refine o_end [1, 3, 4] rfl ?_
    refine x_then ?_
    refine c_seq ?_
    refine c_seq ?_
    refine c_region ?_
    refine o_yield rfl rfl rfl (y_val tok rfl) ?_
    refine o_yield rfl rfl rfl (y_val tok rfl) ?_
    refine o_end [1, 3, 4, 46] rfl ?_
    refine x_then ?_
    refine c_block ?_
    refine c_seq ?_
    refine c_seq ?_
    refine c_region ?_
    refine o_yield rfl rfl rfl (y_val tok rfl) ?_
    refine o_yield rfl rfl rfl (y_val tok rfl) ?_
    refine o_end [1, 3, 4, 46, 47] rfl ?_
    refine x_then ?_
    refine c_cond rfl (fun h => ?_) (fun h => ?_)
    ·
      refine c_skip ?_
      refine x_then ?_
      refine c_cond rfl (fun h2 => ?_) (fun h2 => ?_)
      ·
        refine c_seq ?_
        refine c_region ?_
        refine o_yield rfl rfl rfl (y_val tok rfl) ?_
        refine o_yield rfl rfl rfl (y_val tok rfl) ?_
        have e : c.kind = 0 := by simpa using h
        refine o_yield rfl rfl rfl (y_seq (.bool (c.eqB ⟨c.kind, c.by_, c.serial, 0, 0, 0, 0, 0⟩)) rfl (fun E w => cmdEq c ⟨c.kind, c.by_, c.serial, 0, 0, 0, 0, 0⟩ w (.inl rfl))) ?_
        refine o_yield rfl rfl rfl (y_val tok rfl) ?_
        refine o_end [2] rfl ?_
        refine x_then ?_
        refine c_ret ?_
        refine x_block_ret ?_
        refine x_then_ret ?_
        refine b_ret tok rfl ?_
        intro E w' hm _
        refine ⟨?_, hm.below (Vw.le.refl _)⟩
        rw [cmdB, hpre, Bool.true_and, if_pos (.inl e), ← only0]
        rfl
      ·
        exact absurd (h.symm.trans h2) (by decide)
    ·
      refine c_region ?_
      refine o_yield rfl rfl rfl (y_val tok rfl) ?_
      refine o_yield rfl rfl rfl (y_val tok rfl) ?_
      refine o_end [1, 3, 4, 46, 47] rfl ?_
      refine x_then ?_
      refine c_cond rfl (fun h2 => ?_) (fun h2 => ?_)
      ·
        refine c_seq ?_
        refine c_region ?_
        refine o_yield rfl rfl rfl (y_val tok rfl) ?_
        refine o_yield rfl rfl rfl (y_val tok rfl) ?_
        have e : c.kind = 1 := by simpa using h2
        refine o_yield rfl rfl rfl (y_seq (.bool (c.eqB ⟨c.kind, c.by_, c.serial, 0, 0, 0, 0, 0⟩)) rfl (fun E w => cmdEq c ⟨c.kind, c.by_, c.serial, 0, 0, 0, 0, 0⟩ w (.inl rfl))) ?_
        refine o_yield rfl rfl rfl (y_val tok rfl) ?_
        refine o_end [2] rfl ?_
        refine x_then ?_
        refine c_ret ?_
        refine x_block_ret ?_
        refine x_then_ret ?_
        refine b_ret tok rfl ?_
        intro E w' hm _
        refine ⟨?_, hm.below (Vw.le.refl _)⟩
        rw [cmdB, hpre, Bool.true_and, if_pos (.inr e), ← only0]
        rfl
      ·
        refine c_seq ?_
        refine c_region ?_
        refine o_yield rfl rfl rfl (y_val tok rfl) ?_
        refine o_yield rfl rfl rfl (y_val tok rfl) ?_
        refine o_end [1, 3, 4, 46, 53] rfl ?_
        refine x_then ?_
        refine c_cond rfl (fun h3 => ?_) (fun h3 => ?_)
        ·
          refine c_seq ?_
          refine c_region ?_
          refine o_yield rfl rfl rfl (y_val tok rfl) ?_
          refine o_yield rfl rfl rfl (y_val tok rfl) ?_
          refine o_yield rfl rfl rfl (y_val tok rfl) ?_
          refine o_store tok rfl rfl rfl (by first | exact ⟨trivial, trivial⟩ | (repeat' first | exact trivial | exact rfl | apply And.intro); done | simp [onesP, oneP, lk, Value.oneCell']) ?_
          refine o_end [1, 3, 4] rfl ?_
          refine x_then ?_
          refine c_seq ?_
          refine c_region ?_
          refine o_yield rfl rfl rfl (y_val tok rfl) ?_
          refine o_yield rfl rfl rfl (y_val tok rfl) ?_
          refine o_yield rfl rfl rfl (y_val tok rfl) ?_
          refine o_store tok rfl rfl rfl (by first | exact ⟨trivial, trivial⟩ | (repeat' first | exact trivial | exact rfl | apply And.intro); done | simp [onesP, oneP, lk, Value.oneCell']) ?_
          refine o_end [1, 3, 4] rfl ?_
          refine x_then ?_
          refine c_seq ?_
          refine c_region ?_
          refine o_yield rfl rfl rfl (y_val tok rfl) ?_
          refine o_yield rfl rfl rfl (y_val tok rfl) ?_
          have e : c.kind = 2 := by simpa using h3
          have f : ¬ (c.kind = 0 ∨ c.kind = 1) := by omega
          refine o_yield rfl rfl rfl (y_seq (.bool (c.eqB ⟨c.kind, c.by_, c.serial, 0, 0, c.lo, c.hi, c.mode⟩)) rfl (fun E w => cmdEq c ⟨c.kind, c.by_, c.serial, 0, 0, c.lo, c.hi, c.mode⟩ w (.inl rfl))) ?_
          refine o_yield rfl rfl rfl (y_val tok rfl) ?_
          refine o_yield rfl rfl rfl (y_val tok rfl) ?_
          refine o_yield rfl rfl rfl (y_val tok rfl) ?_
          refine o_yield rfl rfl rfl (y_val tok rfl) ?_
          refine o_yield rfl rfl rfl (y_val tok rfl) ?_
          refine o_yield rfl rfl rfl (y_val tok rfl) ?_
          refine o_yield rfl rfl rfl (y_val tok rfl) ?_
          refine o_yield rfl rfl rfl (y_val tok rfl) ?_
          refine o_yield rfl rfl rfl (y_val tok rfl) ?_
          refine o_yield rfl rfl rfl (y_val tok rfl) ?_
          refine o_yield rfl rfl rfl (y_val tok rfl) ?_
          refine o_yield rfl rfl rfl (y_val tok rfl) ?_
          refine o_yield rfl rfl rfl (y_val tok rfl) ?_
          refine o_yield rfl rfl rfl (y_val tok rfl) ?_
          refine o_end [2] rfl ?_
          refine x_then ?_
          refine c_ret ?_
          refine x_block_ret ?_
          refine x_then_ret ?_
          refine b_ret tok rfl ?_
          intro E w' hm _
          refine ⟨?_, hm.below (Vw.le.refl _)⟩
          rw [cmdB, hpre, Bool.true_and, if_neg f, if_pos e, ← only2]
          rfl
        ·
          refine c_seq ?_
          refine c_region ?_
          refine o_yield rfl rfl rfl (y_val tok rfl) ?_
          refine o_yield rfl rfl rfl (y_val tok rfl) ?_
          refine o_end [1, 3, 4, 46, 77] rfl ?_
          refine x_then ?_
          refine c_cond rfl (fun h4 => ?_) (fun h4 => ?_)
          ·
            refine c_seq ?_
            refine c_region ?_
            refine o_yield rfl rfl rfl (y_val tok rfl) ?_
            refine o_yield rfl rfl rfl (y_val tok rfl) ?_
            refine o_yield rfl rfl rfl (y_val tok rfl) ?_
            refine o_store tok rfl rfl rfl (by first | exact ⟨trivial, trivial⟩ | (repeat' first | exact trivial | exact rfl | apply And.intro); done | simp [onesP, oneP, lk, Value.oneCell']) ?_
            refine o_end [1, 3, 4] rfl ?_
            refine x_then ?_
            refine c_seq ?_
            refine c_region ?_
            refine o_yield rfl rfl rfl (y_val tok rfl) ?_
            refine o_yield rfl rfl rfl (y_val tok rfl) ?_
            have e : c.kind = 3 := by simpa using h4
            have f : ¬ (c.kind = 0 ∨ c.kind = 1) := by omega
            refine o_yield rfl rfl rfl (y_seq (.bool (c.eqB ⟨c.kind, c.by_, c.serial, 0, 0, c.lo, c.hi, 0⟩)) rfl (fun E w => cmdEq c ⟨c.kind, c.by_, c.serial, 0, 0, c.lo, c.hi, 0⟩ w (.inl rfl))) ?_
            refine o_yield rfl rfl rfl (y_val tok rfl) ?_
            refine o_yield rfl rfl rfl (y_val tok rfl) ?_
            refine o_yield rfl rfl rfl (y_val tok rfl) ?_
            refine o_yield rfl rfl rfl (y_val tok rfl) ?_
            refine o_end [2] rfl ?_
            refine x_then ?_
            refine c_ret ?_
            refine x_block_ret ?_
            refine x_then_ret ?_
            refine b_ret tok rfl ?_
            intro E w' hm _
            refine ⟨?_, hm.below (Vw.le.refl _)⟩
            rw [cmdB, hpre, Bool.true_and, if_neg f, if_neg (by omega), if_pos e, ← only3]
            rfl
          ·
            refine c_seq ?_
            refine c_region ?_
            refine o_yield rfl rfl rfl (y_val tok rfl) ?_
            refine o_yield rfl rfl rfl (y_val tok rfl) ?_
            refine o_end [1, 3, 46, 88] rfl ?_
            refine x_then ?_
            refine c_cond rfl (fun h5 => ?_) (fun h5 => ?_)
            ·
              refine c_seq ?_
              refine c_region ?_
              refine o_yield rfl rfl rfl (y_val tok rfl) ?_
              refine o_yield rfl rfl rfl (y_val tok rfl) ?_
              refine o_yield rfl rfl rfl (y_val tok rfl) ?_
              refine o_store tok rfl rfl rfl (by first | exact ⟨trivial, trivial⟩ | (repeat' first | exact trivial | exact rfl | apply And.intro); done | simp [onesP, oneP, lk, Value.oneCell']) ?_
              refine o_end [1, 3] rfl ?_
              refine x_then ?_
              refine c_seq ?_
              refine c_region ?_
              refine o_yield rfl rfl rfl (y_val tok rfl) ?_
              refine o_yield rfl rfl rfl (y_val tok rfl) ?_
              refine o_yield rfl rfl rfl (y_val tok rfl) ?_
              refine o_store tok rfl rfl rfl (by first | exact ⟨trivial, trivial⟩ | (repeat' first | exact trivial | exact rfl | apply And.intro); done | simp [onesP, oneP, lk, Value.oneCell']) ?_
              refine o_end [1, 3] rfl ?_
              refine x_then ?_
              refine c_seq ?_
              refine c_region ?_
              refine o_yield rfl rfl rfl (y_val tok rfl) ?_
              refine o_yield rfl rfl rfl (y_val tok rfl) ?_
              have e : c.kind = 4 := by simpa using h5
              have f : ¬ (c.kind = 0 ∨ c.kind = 1) := by omega
              refine o_yield rfl rfl rfl (y_seq (.bool (c.eqB ⟨c.kind, c.by_, c.serial, c.dead, c.was, 0, 0, 0⟩)) rfl (fun E w => cmdEq c ⟨c.kind, c.by_, c.serial, c.dead, c.was, 0, 0, 0⟩ w (.inl rfl))) ?_
              refine o_yield rfl rfl rfl (y_val tok rfl) ?_
              refine o_yield rfl rfl rfl (y_val tok rfl) ?_
              refine o_yield rfl rfl rfl (y_val tok rfl) ?_
              refine o_call (.a (.v _)) rfl rfl fnok54 rfl rfl rfl (fun hg E w1 hm => by exact refKey_c c.dead _) ?_
              refine o_yield rfl rfl rfl (y_val tok rfl) ?_
              refine o_yield rfl rfl rfl (y_val tok rfl) ?_
              refine o_yield rfl rfl rfl (y_val tok rfl) ?_
              refine o_yield rfl rfl rfl (y_val tok rfl) ?_
              refine o_yield rfl rfl rfl (y_val tok rfl) ?_
              refine o_yield rfl rfl rfl (y_val tok rfl) ?_
              refine o_yield rfl rfl rfl (y_val tok rfl) ?_
              refine o_yield rfl rfl rfl (y_val tok rfl) ?_
              refine o_call (.a (.v _)) rfl rfl fnok54 rfl rfl rfl (fun hg E w1 hm => by exact refKey_c c.was _) ?_
              refine o_yield rfl rfl rfl (y_val tok rfl) ?_
              refine o_yield rfl rfl rfl (y_val tok rfl) ?_
              refine o_yield rfl rfl rfl (y_val tok rfl) ?_
              refine o_end [2] rfl ?_
              refine x_then ?_
              refine c_ret ?_
              refine x_block_ret ?_
              refine x_then_ret ?_
              refine b_ret tok rfl ?_
              intro E w' hm _
              refine ⟨?_, hm.below (Vw.le.refl _)⟩
              rw [cmdB, hpre, Bool.true_and, if_neg f, if_neg (by omega), if_neg (by omega), if_pos e, ← only4]
              rfl
            ·
              refine c_seq ?_
              refine c_region ?_
              refine o_yield rfl rfl rfl (y_val tok rfl) ?_
              refine o_yield rfl rfl rfl (y_val tok rfl) ?_
              refine o_end [1, 3, 114] rfl ?_
              refine x_then ?_
              refine c_cond rfl (fun h6 => ?_) (fun h6 => ?_)
              ·
                refine c_seq ?_
                refine c_region ?_
                refine o_yield rfl rfl rfl (y_val tok rfl) ?_
                refine o_yield rfl rfl rfl (y_val tok rfl) ?_
                refine o_yield rfl rfl rfl (y_val tok rfl) ?_
                refine o_store tok rfl rfl rfl (by first | exact ⟨trivial, trivial⟩ | (repeat' first | exact trivial | exact rfl | apply And.intro); done | simp [onesP, oneP, lk, Value.oneCell']) ?_
                refine o_end [1, 3] rfl ?_
                refine x_then ?_
                refine c_seq ?_
                refine c_region ?_
                refine o_yield rfl rfl rfl (y_val tok rfl) ?_
                refine o_yield rfl rfl rfl (y_val tok rfl) ?_
                have e : c.kind = 5 := by simpa using h6
                have f : ¬ (c.kind = 0 ∨ c.kind = 1) := by omega
                refine o_yield rfl rfl rfl (y_seq (.bool (c.eqB ⟨c.kind, c.by_, c.serial, c.dead, 0, 0, 0, 0⟩)) rfl (fun E w => cmdEq c ⟨c.kind, c.by_, c.serial, c.dead, 0, 0, 0, 0⟩ w (.inl rfl))) ?_
                refine o_yield rfl rfl rfl (y_val tok rfl) ?_
                refine o_yield rfl rfl rfl (y_val tok rfl) ?_
                refine o_yield rfl rfl rfl (y_val tok rfl) ?_
                refine o_call (.a (.v _)) rfl rfl fnok54 rfl rfl rfl (fun hg E w1 hm => by exact refKey_c c.dead _) ?_
                refine o_yield rfl rfl rfl (y_val tok rfl) ?_
                refine o_yield rfl rfl rfl (y_val tok rfl) ?_
                refine o_end [2] rfl ?_
                refine x_then ?_
                refine c_ret ?_
                refine x_block_ret ?_
                refine x_then_ret ?_
                refine b_ret tok rfl ?_
                intro E w' hm _
                refine ⟨?_, hm.below (Vw.le.refl _)⟩
                rw [cmdB, hpre, Bool.true_and, if_neg f, if_neg (by omega), if_neg (by omega), if_neg (by omega), if_pos e, ← only5]
                rfl
              ·
                refine c_skip ?_
                refine x_block ?_
                refine x_then ?_
                refine c_seq ?_
                refine c_region ?_
                refine o_yield rfl rfl rfl (y_val tok rfl) ?_
                refine o_end [2] rfl ?_
                refine x_then ?_
                refine c_ret ?_
                refine b_ret tok rfl ?_
                intro E w' hm _
                refine ⟨?_, hm.below (Vw.le.refl _)⟩
                rw [cmdB, hpre, Bool.true_and]
                simp at h h2 h3 h4 h5 h6
                rw [if_neg (by omega), if_neg (by omega), if_neg (by omega), if_neg (by omega), if_neg (by omega)]
                rfl
end Go.Proofs.Ytiapfhcimekdkaa

/- Commands, the document's: their bytes. -/
set_option linter.unusedVariables false
set_option linter.unusedSimpArgs false
set_option maxRecDepth 100000
namespace Go.Proofs.Ytiapfhcimekdkaa
open Go Go.Eng Go.RowKit

theorem leB_one {n : Int} (h0 : 0 ≤ n) (h1 : n ≤ 255) : leB 1 n = [kindOf8 n] ∧ IntKind.u8.wrap n = (((kindOf8 n).toNat : Nat) : Int) := by
  have hk : (kindOf8 n).toNat = n.toNat := by
    rw [kindOf8, UInt8.toNat_ofNat']; omega
  refine ⟨?_, by rw [hk, IntKind.wrap_u8']; omega⟩
  have e : leB 1 n = [UInt8.ofNat (n.toNat / pw 0 % 256)] := rfl
  rw [e, kindOf8]
  congr 1
  apply UInt8.toNat.inj
  rw [UInt8.toNat_ofNat', UInt8.toNat_ofNat', show pw 0 = 1 from rfl]
  omega

end Go.Proofs.Ytiapfhcimekdkaa

/- Spans: the functions of package span. -/
set_option linter.unusedVariables false
set_option linter.unusedSimpArgs false
set_option maxRecDepth 100000
namespace Go.Proofs.Ytiapfhcimekdkaa
open Go Go.Eng Go.RowKit

theorem spNone_c (lo hi : Int) (w : World) : Calls Try.prog 127 #[.agg #[I lo, I hi]] w fun e w' => e = .returned (.bool (decide (hi < lo))) ∧ Below w.heap.size w w' := by
  refine enter (E := E0) (O := []) (nl := 0) (V := vw w) [.a (.v (.agg #[I lo, I hi]))] Try.func127 rfl rfl (mem0 E0 0 w) rfl rfl ?_
  refine c_seq ?_
  refine c_region ?_
  refine o_new tok rfl rfl rfl rfl ?_
  refine o_yield rfl rfl rfl (y_val tok rfl) ?_
  refine o_end [1] rfl ?_
  refine x_then ?_
  refine c_seq ?_
  refine c_region ?_
  refine o_yield rfl rfl rfl (y_val tok rfl) ?_
  refine o_yield rfl rfl rfl (y_val tok rfl) ?_
  refine o_yield rfl rfl rfl (y_val tok rfl) ?_
  refine o_yield rfl rfl rfl (y_val tok rfl) ?_
  refine o_yield rfl rfl rfl (y_val tok rfl) ?_
  refine o_yield rfl rfl rfl (y_val tok rfl) ?_
  refine o_yield rfl rfl rfl (y_val tok rfl) ?_
  refine o_yield rfl rfl rfl (y_val tok rfl) ?_
  refine o_end [2] rfl ?_
  refine x_then ?_
  refine c_ret ?_
  refine b_ret tok rfl ?_
  intro E w' hm _
  exact ⟨rfl, hm.below (Vw.le.refl _)⟩

def hasB (lo hi n : Int) : Bool := decide (lo ≤ n) && decide (n ≤ hi)

theorem spHas_c (lo hi n : Int) (w : World) : Calls Try.prog 153 #[.agg #[I lo, I hi], I n] w fun e w' => e = .returned (.bool (hasB lo hi n)) ∧ Below w.heap.size w w' := by
  refine enter (E := E0) (O := []) (nl := 0) (V := vw w) [.a (.v (.agg #[I lo, I hi])), .a (.v (I n))] Try.func153 rfl rfl (mem0 E0 0 w) rfl rfl ?_
  refine c_seq ?_
  refine c_region ?_
  refine o_new tok rfl rfl rfl rfl ?_
  refine o_yield rfl rfl rfl (y_val tok rfl) ?_
  refine o_end [1, 2] rfl ?_
  refine x_then ?_
  refine c_seq ?_
  refine c_region ?_
  refine o_yield rfl rfl rfl (y_val tok rfl) ?_
  refine o_yield rfl rfl rfl (y_val tok rfl) ?_
  refine o_yield rfl rfl rfl (y_val tok rfl) ?_
  refine o_yield rfl rfl rfl (y_val tok rfl) ?_
  refine o_yield rfl rfl rfl (y_val tok rfl) ?_
  refine o_yield rfl rfl rfl (y_val tok rfl) ?_
  refine o_yield rfl rfl rfl (y_val tok rfl) ?_
  refine o_yield rfl rfl rfl (y_val tok rfl) ?_
  refine o_yield rfl rfl rfl (y_val tok rfl) ?_
  refine o_yield rfl rfl rfl (y_val tok rfl) ?_
  refine o_yield rfl rfl rfl (y_val tok rfl) ?_
  refine o_yield rfl rfl rfl (y_val tok rfl) ?_
  refine o_yield rfl rfl rfl (y_val tok rfl) ?_
  refine o_end [4] rfl ?_
  refine x_then ?_
  refine c_ret ?_
  refine b_ret tok rfl ?_
  intro E w' hm _
  exact ⟨rfl, hm.below (Vw.le.refl _)⟩

def meets (lo hi lo' hi' : Int) : Bool := (!decide (hi < lo) && !decide (hi' < lo')) && (hasB lo hi lo' || hasB lo' hi' lo)

theorem spMeets_c (lo hi lo' hi' : Int) (w : World) : Calls Try.prog 140 #[.agg #[I lo, I hi], .agg #[I lo', I hi']] w fun e w' => e = .returned (.bool (meets lo hi lo' hi')) ∧ Below w.heap.size w w' := by
  refine enter (E := E0) (O := []) (nl := 0) (V := vw w) [.a (.v (.agg #[I lo, I hi])), .a (.v (.agg #[I lo', I hi']))] Try.func140 rfl rfl (mem0 E0 0 w) rfl rfl ?_
  refine c_seq ?_
  refine c_region ?_
  refine o_new tok rfl rfl rfl rfl ?_
  refine o_new tok rfl rfl rfl rfl ?_
  refine o_yield rfl rfl rfl (y_val tok rfl) ?_
  refine o_end [2, 3] rfl ?_
  refine x_then ?_
  refine c_seq ?_
  refine c_region ?_
  refine o_yield rfl rfl rfl (y_val tok rfl) ?_
  refine o_call (.a (.v _)) rfl rfl fnok127 rfl rfl rfl (fun hg E w1 hm => by exact spNone_c _ _ _) ?_
  refine o_yield rfl rfl rfl (y_val tok rfl) ?_
  refine o_yield rfl rfl rfl (y_val tok rfl) ?_
  refine o_yield rfl rfl rfl (y_val tok rfl) ?_
  refine o_call (.a (.v _)) rfl rfl fnok127 rfl rfl rfl (fun hg E w1 hm => by exact spNone_c _ _ _) ?_
  refine o_yield rfl rfl rfl (y_val tok rfl) ?_
  refine o_yield rfl rfl rfl (y_val tok rfl) ?_
  refine o_yield rfl rfl rfl (y_val tok rfl) ?_
  refine o_yield rfl rfl rfl (y_val tok rfl) ?_
  refine o_yield rfl rfl rfl (y_val tok rfl) ?_
  refine o_yield rfl rfl rfl (y_val tok rfl) ?_
  refine o_yield rfl rfl rfl (y_val tok rfl) ?_
  refine o_call (.a (.v _)) rfl rfl fnok153 rfl rfl rfl (fun hg E w1 hm => by exact spHas_c _ _ _ _) ?_
  refine o_yield rfl rfl rfl (y_val tok rfl) ?_
  refine o_yield rfl rfl rfl (y_val tok rfl) ?_
  refine o_yield rfl rfl rfl (y_val tok rfl) ?_
  refine o_yield rfl rfl rfl (y_val tok rfl) ?_
  refine o_yield rfl rfl rfl (y_val tok rfl) ?_
  refine o_call (.a (.v _)) rfl rfl fnok153 rfl rfl rfl (fun hg E w1 hm => by exact spHas_c _ _ _ _) ?_
  refine o_yield rfl rfl rfl (y_val tok rfl) ?_
  refine o_yield rfl rfl rfl (y_val tok rfl) ?_
  refine o_yield rfl rfl rfl (y_val tok rfl) ?_
  refine o_end [4] rfl ?_
  refine x_then ?_
  refine c_ret ?_
  refine b_ret tok rfl ?_
  intro E w' hm _
  exact ⟨rfl, hm.below (Vw.le.refl _)⟩

theorem spOverlap_c (lo hi lo' hi' : Int) (w : World) : Calls Try.prog 115 #[.agg #[I lo, I hi], .agg #[I lo', I hi']] w fun e w' => e = .returned (.bool (meets lo hi lo' hi')) ∧ Below w.heap.size w w' := by
  refine enter (E := E0) (O := []) (nl := 0) (V := vw w) [.a (.v (.agg #[I lo, I hi])), .a (.v (.agg #[I lo', I hi']))] Try.func115 rfl rfl (mem0 E0 0 w) rfl rfl ?_
  refine c_seq ?_
  refine c_region ?_
  refine o_new tok rfl rfl rfl rfl ?_
  refine o_new tok rfl rfl rfl rfl ?_
  refine o_yield rfl rfl rfl (y_val tok rfl) ?_
  refine o_end [2, 3] rfl ?_
  refine x_then ?_
  refine c_seq ?_
  refine c_region ?_
  refine o_yield rfl rfl rfl (y_val tok rfl) ?_
  refine o_yield rfl rfl rfl (y_val tok rfl) ?_
  refine o_yield rfl rfl rfl (y_val tok rfl) ?_
  refine o_yield rfl rfl rfl (y_val tok rfl) ?_
  refine o_call (.a (.v _)) rfl rfl fnok140 rfl rfl rfl (fun hg E w1 hm => by exact spMeets_c _ _ _ _ _) ?_
  refine o_yield rfl rfl rfl (y_val tok rfl) ?_
  refine o_end [4] rfl ?_
  refine x_then ?_
  refine c_ret ?_
  refine b_ret tok rfl ?_
  intro E w' hm _
  exact ⟨rfl, hm.below (Vw.le.refl _)⟩

theorem spOf_c (h : Hold) (w : World) : Calls Try.prog 145 #[h.val] w fun e w' => e = .returned (.agg #[I h.lo, I h.hi, I h.key, I8 h.mode]) ∧ Below w.heap.size w w' := by
  refine enter (E := E0) (O := []) (nl := 0) (V := vw w) [.a (.v h.val)] Try.func145 rfl rfl (mem0 E0 0 w) rfl rfl ?_
  refine c_seq ?_
  refine c_region ?_
  refine o_new tok rfl rfl rfl rfl ?_
  refine o_new tok rfl rfl rfl rfl ?_
  refine o_end [1, 2] rfl ?_
  refine x_then ?_
  refine c_seq ?_
  refine c_region ?_
  refine o_yield rfl rfl rfl (y_val tok rfl) ?_
  refine o_yield rfl rfl rfl (y_val tok rfl) ?_
  refine o_yield rfl rfl rfl (y_val tok rfl) ?_
  refine o_yield rfl rfl rfl (y_val tok rfl) ?_
  refine o_yield rfl rfl rfl (y_val tok rfl) ?_
  refine o_yield rfl rfl rfl (y_val tok rfl) ?_
  refine o_yield rfl rfl rfl (y_val tok rfl) ?_
  refine o_yield rfl rfl rfl (y_val tok rfl) ?_
  refine o_store tok rfl rfl rfl (by first | exact ⟨trivial, trivial⟩ | (repeat' first | exact trivial | exact rfl | apply And.intro); done | simp [onesP, oneP, lk, Value.oneCell']) ?_
  refine o_end [2] rfl ?_
  refine x_then ?_
  refine c_ret ?_
  refine b_ret tok rfl ?_
  intro E w' hm _
  exact ⟨rfl, hm.below (Vw.le.refl _)⟩

def together (a b : Hold) : Bool := ((a.key == b.key) || !meets a.lo a.hi b.lo b.hi) || ((a.mode == 1) && (b.mode == 1))

theorem spLets_c (a b : Hold) (w : World) : Calls Try.prog 146 #[.agg #[I a.lo, I a.hi, I a.key, I8 a.mode], .agg #[I b.lo, I b.hi, I b.key, I8 b.mode]] w fun e w' => e = .returned (.bool (together a b)) ∧ Below w.heap.size w w' := by
  refine enter (E := E0) (O := []) (nl := 0) (V := vw w) [.a (.v (.agg #[I a.lo, I a.hi, I a.key, I8 a.mode])), .a (.v (.agg #[I b.lo, I b.hi, I b.key, I8 b.mode]))] Try.func146 rfl rfl (mem0 E0 0 w) rfl rfl ?_
  refine c_seq ?_
  refine c_region ?_
  refine o_new tok rfl rfl rfl rfl ?_
  refine o_new tok rfl rfl rfl rfl ?_
  refine o_yield rfl rfl rfl (y_val tok rfl) ?_
  refine o_end [2, 3] rfl ?_
  refine x_then ?_
  refine c_seq ?_
  refine c_region ?_
  refine o_yield rfl rfl rfl (y_val tok rfl) ?_
  refine o_yield rfl rfl rfl (y_val tok rfl) ?_
  refine o_yield rfl rfl rfl (y_val tok rfl) ?_
  refine o_yield rfl rfl rfl (y_val tok rfl) ?_
  refine o_yield rfl rfl rfl (y_val tok rfl) ?_
  refine o_yield rfl rfl rfl (y_val tok rfl) ?_
  refine o_yield rfl rfl rfl (y_val tok rfl) ?_
  refine o_yield rfl rfl rfl (y_val tok rfl) ?_
  refine o_yield rfl rfl rfl (y_val tok rfl) ?_
  refine o_yield rfl rfl rfl (y_val tok rfl) ?_
  refine o_call (.a (.v _)) rfl rfl fnok140 rfl rfl rfl (fun hg E w1 hm => by exact spMeets_c _ _ _ _ _) ?_
  refine o_yield rfl rfl rfl (y_val tok rfl) ?_
  refine o_yield rfl rfl rfl (y_val tok rfl) ?_
  refine o_yield rfl rfl rfl (y_val tok rfl) ?_
  refine o_yield rfl rfl rfl (y_val tok rfl) ?_
  refine o_yield rfl rfl rfl (y_val tok rfl) ?_
  refine o_yield rfl rfl rfl (y_val tok rfl) ?_
  refine o_yield rfl rfl rfl (y_val tok rfl) ?_
  refine o_yield rfl rfl rfl (y_val tok rfl) ?_
  refine o_yield rfl rfl rfl (y_val tok rfl) ?_
  refine o_yield rfl rfl rfl (y_val tok rfl) ?_
  refine o_yield rfl rfl rfl (y_val tok rfl) ?_
  refine o_yield rfl rfl rfl (y_val tok rfl) ?_
  refine o_yield rfl rfl rfl (y_val tok rfl) ?_
  refine o_end [4] rfl ?_
  refine x_then ?_
  refine c_ret ?_
  refine b_ret tok rfl ?_
  intro E w' hm _
  exact ⟨rfl, hm.below (Vw.le.refl _)⟩

theorem spTogether_c (a b : Hold) (w : World) : Calls Try.prog 122 #[a.val, b.val] w fun e w' => e = .returned (.bool (together a b)) ∧ Below w.heap.size w w' := by
  refine enter (E := E0) (O := []) (nl := 0) (V := vw w) [.a (.v a.val), .a (.v b.val)] Try.func122 rfl rfl (mem0 E0 0 w) rfl rfl ?_
  refine c_seq ?_
  refine c_region ?_
  refine o_new tok rfl rfl rfl rfl ?_
  refine o_new tok rfl rfl rfl rfl ?_
  refine o_yield rfl rfl rfl (y_val tok rfl) ?_
  refine o_end [2, 3] rfl ?_
  refine x_then ?_
  refine c_seq ?_
  refine c_draw mixed (by kernel_rfl) ?_
  refine d_yield rfl rfl rfl (y_val tok rfl) rfl ?_
  refine d_call (.a (.v _)) rfl rfl fnok145 rfl rfl rfl (fun hg E w1 hm => by exact spOf_c a _) ?_
  refine d_yield rfl rfl rfl (y_val tok rfl) rfl ?_
  refine d_call (.a (.v _)) rfl rfl fnok145 rfl rfl rfl (fun hg E w1 hm => by exact spOf_c b _) ?_
  refine d_call (.a (.v _)) rfl rfl fnok146 rfl rfl rfl (fun hg E w1 hm => by exact spLets_c a b _) ?_
  refine d_yield rfl rfl rfl (y_val tok rfl) rfl ?_
  refine d_end [4] rfl ?_
  refine x_then ?_
  refine c_ret ?_
  refine b_ret tok rfl ?_
  intro E w' hm _
  exact ⟨rfl, hm.below (Vw.le.refl _)⟩

def may (blocks lo hi : Int) : Bool := (!decide (hi < lo) && decide (0 ≤ lo)) && decide (hi < blocks)



theorem spMay_c (g : Geo) (lo hi : Int) (w : World) : Calls Try.prog 89 #[g.val, .agg #[I lo, I hi]] w fun e w' => e = .returned (.bool (may g.blocks lo hi)) ∧ Below w.heap.size w w' := by
  refine enter (E := E0) (O := []) (nl := 0) (V := vw w) [.a (.v g.val), .a (.v (.agg #[I lo, I hi]))] Try.func89 rfl rfl (mem0 E0 0 w) rfl rfl ?_
  refine c_seq ?_
  refine c_region ?_
  refine o_new tok rfl rfl rfl rfl ?_
  refine o_new tok rfl rfl rfl rfl ?_
  refine o_yield rfl rfl rfl (y_val tok rfl) ?_
  refine o_end [2, 3] rfl ?_
  refine x_then ?_
  refine c_seq ?_
  refine c_region ?_
  refine o_yield rfl rfl rfl (y_val tok rfl) ?_
  refine o_yield rfl rfl rfl (y_val tok rfl) ?_
  refine o_call (.a (.v _)) rfl rfl fnok127 rfl rfl rfl (fun hg E w1 hm => by exact spNone_c _ _ _) ?_
  refine o_yield rfl rfl rfl (y_val tok rfl) ?_
  refine o_yield rfl rfl rfl (y_val tok rfl) ?_
  refine o_yield rfl rfl rfl (y_val tok rfl) ?_
  refine o_yield rfl rfl rfl (y_val tok rfl) ?_
  refine o_yield rfl rfl rfl (y_val tok rfl) ?_
  refine o_yield rfl rfl rfl (y_val tok rfl) ?_
  refine o_yield rfl rfl rfl (y_val tok rfl) ?_
  refine o_yield rfl rfl rfl (y_val tok rfl) ?_
  refine o_yield rfl rfl rfl (y_val tok rfl) ?_
  refine o_yield rfl rfl rfl (y_val tok rfl) ?_
  refine o_yield rfl rfl rfl (y_val tok rfl) ?_
  refine o_yield rfl rfl rfl (y_val tok rfl) ?_
  refine o_yield rfl rfl rfl (y_val tok rfl) ?_
  refine o_yield rfl rfl rfl (y_val tok rfl) ?_
  refine o_end [4] rfl ?_
  refine x_then ?_
  refine c_ret ?_
  refine b_ret tok rfl ?_
  intro E w' hm _
  exact ⟨rfl, hm.below (Vw.le.refl _)⟩

def holdB (blocks : Int) (h : Hold) : Bool := (decide (0 < h.key) && may blocks h.lo h.hi) && ((h.mode == 1) || (h.mode == 2))

theorem spHold_c (g : Geo) (h : Hold) (w : World) : Calls Try.prog 64 #[g.val, h.val] w fun e w' => e = .returned (.bool (holdB g.blocks h)) ∧ Below w.heap.size w w' := by
  refine enter (E := E0) (O := []) (nl := 0) (V := vw w) [.a (.v g.val), .a (.v h.val)] Try.func64 rfl rfl (mem0 E0 0 w) rfl rfl ?_
  refine c_seq ?_
  refine c_region ?_
  refine o_new tok rfl rfl rfl rfl ?_
  refine o_new tok rfl rfl rfl rfl ?_
  refine o_yield rfl rfl rfl (y_val tok rfl) ?_
  refine o_end [2, 3] rfl ?_
  refine x_then ?_
  refine c_seq ?_
  refine c_region ?_
  refine o_yield rfl rfl rfl (y_val tok rfl) ?_
  refine o_yield rfl rfl rfl (y_val tok rfl) ?_
  refine o_yield rfl rfl rfl (y_val tok rfl) ?_
  refine o_yield rfl rfl rfl (y_val tok rfl) ?_
  refine o_yield rfl rfl rfl (y_val tok rfl) ?_
  refine o_yield rfl rfl rfl (y_val tok rfl) ?_
  refine o_yield rfl rfl rfl (y_val tok rfl) ?_
  refine o_call (.a (.v _)) rfl rfl fnok89 rfl rfl rfl (fun hg E w1 hm => by exact spMay_c g _ _ _) ?_
  refine o_yield rfl rfl rfl (y_val tok rfl) ?_
  refine o_yield rfl rfl rfl (y_val tok rfl) ?_
  refine o_yield rfl rfl rfl (y_val tok rfl) ?_
  refine o_yield rfl rfl rfl (y_val tok rfl) ?_
  refine o_yield rfl rfl rfl (y_val tok rfl) ?_
  refine o_yield rfl rfl rfl (y_val tok rfl) ?_
  refine o_yield rfl rfl rfl (y_val tok rfl) ?_
  refine o_yield rfl rfl rfl (y_val tok rfl) ?_
  refine o_yield rfl rfl rfl (y_val tok rfl) ?_
  refine o_yield rfl rfl rfl (y_val tok rfl) ?_
  refine o_yield rfl rfl rfl (y_val tok rfl) ?_
  refine o_yield rfl rfl rfl (y_val tok rfl) ?_
  refine o_end [4] rfl ?_
  refine x_then ?_
  refine c_ret ?_
  refine b_ret tok rfl ?_
  intro E w' hm _
  exact ⟨rfl, hm.below (Vw.le.refl _)⟩

/-! slices.IndexFunc, ContainsFunc -/

def idxOf {α : Type} (pr : α → Bool) (l : List α) : Int := match l.findIdx? pr with
  | some k => k
  | none => -1

/-- A function value that tells pr, wherever V is read. -/
def Tells (V : Vw) (fv : Value) (pr : Hold → Bool) : Prop :=
  ∀ x w', V.le (vw w') → CallsFn Try.prog fv [x.val] w' fun e w'' => e = .returned (.bool (pr x)) ∧ Below w'.heap.size w' w''

theorem spIndexFunc_c (V : Vw) (fv sv : Value) (pr : Hold → Bool) (l : List Hold) (w : World) (hV : V.le (vw w)) (hs : SlOf V Hold.cells 4 sv l) (hn : l.length ≤ lim) (hf : Tells V fv pr) :
    Calls Try.prog 128 #[sv, fv] w fun e w' => e = .returned (I (idxOf pr l)) ∧ Below w.heap.size w w' := by
  unfold lim at hn
  have hs' := hs.mono hV
  refine enter (E := E0) (O := []) (nl := 0) (V := vw w) [.a (.v sv), .a (.v fv)] Try.func128 rfl rfl (mem0 E0 0 w) rfl rfl ?_
  refine c_seq ?_
  refine c_region ?_
  refine o_yield rfl rfl rfl (y_val tok rfl) ?_
  refine o_end [0, 1] rfl ?_
  refine x_then ?_
  refine c_seq ?_
  refine c_seq ?_
  refine c_region ?_
  refine o_yield rfl rfl rfl (y_val tok rfl) ?_
  refine o_yield rfl rfl rfl (y_len tok rfl (fun hg => hs'.sl)) ?_
  refine o_yield rfl rfl rfl (y_val tok rfl) ?_
  refine o_end [0, 1, 7, 8] rfl ?_
  refine x_then ?_
  refine c_block ?_
  refine c_loop (σ := Nat) (fun k => [(0, .a (.v sv)), (1, .a (.v fv)), (7, .a (.v (I l.length))), (8, .a (.v (I k)))]) (fun _ => []) 0 (fun _ => vw w)
    (fun k => k ≤ l.length ∧ ∀ j x, j < k → l[j]? = some x → pr x = false) (fun k => l.length - k) 0 ⟨by omega, by simp⟩ ⟨rfl, rfl, rfl, rfl, trivial⟩ trivial rfl (Vw.le.refl _) ?_
  rintro k ⟨hk, hall⟩
  refine c_seq ?_
  refine c_region ?_
  refine o_yield rfl rfl rfl (y_val tok rfl) ?_
  refine o_end [0, 1, 7, 8, 9] rfl ?_
  refine x_then ?_
  refine c_seq ?_
  refine c_cond rfl (fun h => ?_) (fun h => ?_)
  ·
    refine c_skip ?_
    refine x_then ?_
    refine c_seq ?_
    refine c_block ?_
    refine c_seq ?_
    refine c_region ?_
    refine o_yield rfl rfl rfl (y_val tok rfl) ?_
    refine o_yield rfl rfl rfl (y_val tok rfl) ?_
    refine o_end [0, 1, 5, 7, 8] rfl ?_
    refine x_then ?_
    refine c_seq ?_
    refine c_region ?_
    refine o_yield rfl rfl rfl (y_val tok rfl) ?_
    refine o_yield rfl rfl rfl (y_val tok rfl) ?_
    refine o_yield rfl rfl rfl (y_val tok rfl) ?_
    have hlt : k < l.length := by simp at h; exact h
    have hx : l[k]? = some l[k] := by simp [hlt]
    refine o_yield rfl rfl rfl (y_idx tok rfl (fun hg => hs'.sl) (fun hg => ⟨by omega, by omega⟩)) ?_
    refine o_yield rfl rfl rfl (y_lel tok (k) 0 (l[k]) rfl (fun hg => hs') (fun hg => hx) rfl rfl) ?_
    refine o_callF (.a (.v _)) rfl rfl rfl rfl rfl (fun hg E w1 hm => by exact hf l[k] w1 (hV.trans hm.leV)) ?_
    refine o_end [0, 1, 5, 7, 8, 16] rfl ?_
    refine x_then ?_
    refine c_cond rfl (fun h => ?_) (fun h => ?_)
    ·
      refine c_seq ?_
      refine c_region ?_
      refine o_yield rfl rfl rfl (y_val tok rfl) ?_
      refine o_yield rfl rfl rfl (y_val tok rfl) ?_
      refine o_end [4] rfl ?_
      refine x_then ?_
      refine c_ret ?_
      refine x_block_ret ?_
      refine x_then_ret ?_
      refine x_then_ret ?_
      refine x_block_ret ?_
      refine x_then_ret ?_
      refine b_ret tok rfl ?_
      intro E w' hm _
      refine ⟨?_, hm.below (Vw.le.refl _)⟩
      rw [idxOf, findIdx?_at hx h hall]; rfl
    ·
      refine c_skip ?_
      refine x_block ?_
      refine x_then ?_
      refine c_region ?_
      refine o_yield rfl rfl rfl (y_val tok rfl) ?_
      refine o_yield rfl rfl rfl (y_val tok rfl) ?_
      refine o_end [0, 1, 7, 8] rfl ?_
      refine x_then ?_
      rw [wrapI (by omega) (by omega)]
      exact x_round (k + 1) ⟨by omega, ahead_succ hx hall h⟩ (by omega) ⟨rfl, rfl, rfl, rfl, trivial⟩ trivial rfl (Vw.le.refl _)
  ·
    refine c_exit ?_
    refine x_then_exit ?_
    refine x_then_exit ?_
    refine x_block_hit ?_
    refine x_then ?_
    refine c_seq ?_
    refine c_region ?_
    refine o_yield rfl rfl rfl (y_val tok rfl) ?_
    refine o_end [4] rfl ?_
    refine x_then ?_
    refine c_ret ?_
    refine b_ret tok rfl ?_
    have hge : k = l.length := by simp at h; omega
    intro E w' hm _
    refine ⟨?_, hm.below (Vw.le.refl _)⟩
    rw [idxOf, findIdx?_no (hge ▸ hall)]; rfl

theorem spContainsFunc_c (V : Vw) (fv sv : Value) (pr : Hold → Bool) (l : List Hold) (w : World) (hV : V.le (vw w)) (hs : SlOf V Hold.cells 4 sv l) (hn : l.length ≤ lim) (hf : Tells V fv pr) :
    Calls Try.prog 90 #[sv, fv] w fun e w' => e = .returned (.bool (l.any pr)) ∧ Below w.heap.size w w' := by
  refine enter (E := E0) (O := []) (nl := 0) (V := vw w) [.a (.v sv), .a (.v fv)] Try.func90 rfl rfl (mem0 E0 0 w) rfl rfl ?_
  refine c_seq ?_
  refine c_region ?_
  refine o_yield rfl rfl rfl (y_val tok rfl) ?_
  refine o_end [0, 1] rfl ?_
  refine x_then ?_
  refine c_seq ?_
  refine c_region ?_
  refine o_yield rfl rfl rfl (y_val tok rfl) ?_
  refine o_yield rfl rfl rfl (y_val tok rfl) ?_
  refine o_call (.a (.v _)) rfl rfl fnok128 rfl rfl rfl (fun hg E w1 hm => by exact spIndexFunc_c V fv sv pr l _ (hV.trans hm.leV) hs hn hf) ?_
  refine o_yield rfl rfl rfl (y_val tok rfl) ?_
  refine o_yield rfl rfl rfl (y_val tok rfl) ?_
  refine o_end [4] rfl ?_
  refine x_then ?_
  refine c_ret ?_
  refine b_ret tok rfl ?_
  intro E w' hm _
  refine ⟨?_, hm.below (Vw.le.refl _)⟩
  have : decide (0 ≤ idxOf pr l) = l.any pr := by
    rw [← any_findIdx, idxOf]
    cases l.findIdx? pr <;> simp
  rw [← this]; rfl

/-- The function that 'every' hands on. -/
theorem spEveryFn_c (V : Vw) (fv : Value) (pr : Hold → Bool) (b : Nat) (hb : V.get b = some (.cells #[fv] 105 (0, 0))) (hf : Tells V fv pr) (x : Hold) (w : World) (hV : V.le (vw w)) :
    Calls Try.prog 139 #[x.val, .pointer (some ⟨b, 0, none⟩)] w fun e w' => e = .returned (.bool (!pr x)) ∧ Below w.heap.size w w' := by
  refine enter (E := E0) (O := []) (nl := 0) (V := vw w) [.a (.v x.val), .a (.v (.pointer (some ⟨b, 0, none⟩)))] Try.func139 rfl rfl (mem0 E0 0 w) rfl rfl ?_
  refine c_seq ?_
  refine c_region ?_
  refine o_new tok rfl rfl rfl rfl ?_
  refine o_yield rfl rfl rfl (y_val tok rfl) ?_
  refine o_end [1, 2] rfl ?_
  refine x_then ?_
  refine c_seq ?_
  refine c_region ?_
  refine o_yield rfl rfl rfl (y_ldp (cs := [fv]) tok rfl (fun hg => hV.get _ _ hb) rfl) ?_
  refine o_yield rfl rfl rfl (y_val tok rfl) ?_
  refine o_callF (.a (.v _)) rfl rfl rfl rfl rfl (fun hg E w1 hm => by exact hf x w1 (hV.trans hm.leV)) ?_
  refine o_yield rfl rfl rfl (y_val tok rfl) ?_
  refine o_yield rfl rfl rfl (y_val tok rfl) ?_
  refine o_end [3] rfl ?_
  refine x_then ?_
  refine c_ret ?_
  refine b_ret tok rfl ?_
  intro E w' hm _
  exact ⟨rfl, hm.below (Vw.le.refl _)⟩

theorem spEvery_c (V : Vw) (k : Nat) (caps : Array Value) (sv : Value) (pr : Hold → Bool) (l : List Hold) (w : World) (hV : V.le (vw w)) (hs : SlOf V Hold.cells 4 sv l) (hn : l.length ≤ lim)
    (hf : Tells V (.func (.func k) #[] caps) pr) :
    Calls Try.prog 113 #[.func (.func k) #[] caps, sv] w fun e w' => e = .returned (.bool (l.all pr)) ∧ Below w.heap.size w w' := by
  refine enter (E := E0) (O := []) (nl := 0) (V := vw w) [.a (.v (.func (.func k) #[] caps)), .a (.v sv)] Try.func113 rfl rfl (mem0 E0 0 w) rfl rfl ?_
  refine c_seq ?_
  refine c_region ?_
  refine o_new tok rfl rfl rfl rfl ?_
  refine o_yield rfl rfl rfl (y_val tok rfl) ?_
  refine o_end [1, 2] rfl ?_
  refine x_then ?_
  refine c_seq ?_
  refine c_region ?_
  refine o_yield rfl rfl rfl (y_val tok rfl) ?_
  refine o_yield rfl rfl rfl (y_val tok rfl) ?_
  refine o_call (.a (.v (.bool (l.any fun x => !pr x)))) rfl rfl fnok90 rfl rfl rfl (fun hg E w1 hm => ?_) ?_
  · have hle := hm.leV
    have hb := hm.lit 0 _ _ rfl
    refine spContainsFunc_c (vw w1) _ sv (fun x => !pr x) l w1 (Vw.le.refl _) (hs.mono (hV.trans hle)) hn ?_
    intro x w' hle'
    exact ⟨139, _, rfl, fnok139, spEveryFn_c (vw w1) _ pr (E.ρ 0) hb (fun x w' h => hf x w' ((hV.trans hle).trans h)) x w' hle'⟩
  refine o_yield rfl rfl rfl (y_val tok rfl) ?_
  refine o_yield rfl rfl rfl (y_val tok rfl) ?_
  refine o_end [4] rfl ?_
  refine x_then ?_
  refine c_ret ?_
  refine b_ret tok rfl ?_
  intro E w' hm _
  refine ⟨?_, hm.below (Vw.le.refl _)⟩
  show Ending.returned (.bool (!(l.any fun x => !pr x))) = _
  rw [List.all_eq_not_any_not]

/-! Fits -/

theorem spFitsFn_c (V : Vw) (h : Hold) (b : Nat) (hb : V.get b = some (.cells h.cells.toArray 43 (0, 0))) (x : Hold) (w : World) (hV : V.le (vw w)) :
    Calls Try.prog 121 #[x.val, .pointer (some ⟨b, 0, none⟩)] w fun e w' => e = .returned (.bool (together h x)) ∧ Below w.heap.size w w' := by
  refine enter (E := E0) (O := []) (nl := 0) (V := vw w) [.a (.v x.val), .a (.v (.pointer (some ⟨b, 0, none⟩)))] Try.func121 rfl rfl (mem0 E0 0 w) rfl rfl ?_
  refine c_seq ?_
  refine c_region ?_
  refine o_new tok rfl rfl rfl rfl ?_
  refine o_yield rfl rfl rfl (y_val tok rfl) ?_
  refine o_end [1, 2] rfl ?_
  refine x_then ?_
  refine c_seq ?_
  refine c_region ?_
  refine o_yield rfl rfl rfl (y_ldp (cs := h.cells) tok rfl (fun hg => hV.get _ _ hb) rfl) ?_
  refine o_yield rfl rfl rfl (y_val tok rfl) ?_
  refine o_call (.a (.v _)) rfl rfl fnok122 rfl rfl rfl (fun hg E w1 hm => by exact spTogether_c h x _) ?_
  refine o_yield rfl rfl rfl (y_val tok rfl) ?_
  refine o_end [3] rfl ?_
  refine x_then ?_
  refine c_ret ?_
  refine b_ret tok rfl ?_
  intro E w' hm _
  exact ⟨rfl, hm.below (Vw.le.refl _)⟩

def fits (h : Hold) (l : List Hold) : Bool := l.all (together h)

theorem spFits_c (V : Vw) (h : Hold) (sv : Value) (l : List Hold) (w : World) (hV : V.le (vw w)) (hs : SlOf V Hold.cells 4 sv l) (hn : l.length ≤ lim) :
    Calls Try.prog 77 #[h.val, sv] w fun e w' => e = .returned (.bool (fits h l)) ∧ Below w.heap.size w w' := by
  refine enter (E := E0) (O := []) (nl := 0) (V := vw w) [.a (.v h.val), .a (.v sv)] Try.func77 rfl rfl (mem0 E0 0 w) rfl rfl ?_
  refine c_seq ?_
  refine c_region ?_
  refine o_new tok rfl rfl rfl rfl ?_
  refine o_yield rfl rfl rfl (y_val tok rfl) ?_
  refine o_end [1, 2] rfl ?_
  refine x_then ?_
  refine c_seq ?_
  refine c_region ?_
  refine o_yield rfl rfl rfl (y_val tok rfl) ?_
  refine o_yield rfl rfl rfl (y_val tok rfl) ?_
  refine o_call (.a (.v (.bool (fits h l)))) rfl rfl fnok113 rfl rfl rfl (fun hg E w1 hm => ?_) ?_
  · refine spEvery_c (vw w1) 121 _ sv (together h) l w1 (Vw.le.refl _) (hs.mono (hV.trans hm.leV)) hn ?_
    intro x w' hle'
    exact ⟨121, _, rfl, fnok121, spFitsFn_c (vw w1) h (E.ρ 0) (hm.lit 0 _ _ rfl) x w' hle'⟩
  refine o_yield rfl rfl rfl (y_val tok rfl) ?_
  refine o_end [4] rfl ?_
  refine x_then ?_
  refine c_ret ?_
  refine b_ret tok rfl ?_
  intro E w' hm _
  exact ⟨rfl, hm.below (Vw.le.refl _)⟩

/-! Covers -/

def coversAt (key block mode : Int) (o : Hold) : Bool := ((o.key == key) && hasB o.lo o.hi block) && ((o.mode == mode) || (o.mode == 2))

def covers (l : List Hold) (key block mode : Int) : Bool := l.any (coversAt key block mode)

/-! Touches -/

def touchesAt (key lo hi : Int) (o : Hold) : Bool := (o.key == key) && meets o.lo o.hi lo hi

theorem spTouchesFn_c (V : Vw) (key lo hi : Int) (b1 b2 : Nat) (h1 : V.get b1 = some (.cells #[I key] 3 (0, 0))) (h2 : V.get b2 = some (.cells #[I lo, I hi] 34 (0, 0)))
    (o : Hold) (w : World) (hV : V.le (vw w)) :
    Calls Try.prog 114 #[o.val, .pointer (some ⟨b1, 0, none⟩), .pointer (some ⟨b2, 0, none⟩)] w fun e w' => e = .returned (.bool (!touchesAt key lo hi o)) ∧ Below w.heap.size w w' := by
  refine enter (E := E0) (O := []) (nl := 0) (V := vw w) [.a (.v o.val), .a (.v (.pointer (some ⟨b1, 0, none⟩))), .a (.v (.pointer (some ⟨b2, 0, none⟩)))] Try.func114 rfl rfl (mem0 E0 0 w) rfl rfl ?_
  refine c_seq ?_
  refine c_region ?_
  refine o_new tok rfl rfl rfl rfl ?_
  refine o_yield rfl rfl rfl (y_val tok rfl) ?_
  refine o_end [1, 2, 3] rfl ?_
  refine x_then ?_
  refine c_seq ?_
  refine c_region ?_
  refine o_yield rfl rfl rfl (y_val tok rfl) ?_
  refine o_yield rfl rfl rfl (y_val tok rfl) ?_
  refine o_yield rfl rfl rfl (y_ldp (cs := [I key]) tok rfl (fun hg => hV.get _ _ h1) rfl) ?_
  refine o_yield rfl rfl rfl (y_val tok rfl) ?_
  refine o_yield rfl rfl rfl (y_val tok rfl) ?_
  refine o_yield rfl rfl rfl (y_val tok rfl) ?_
  refine o_yield rfl rfl rfl (y_val tok rfl) ?_
  refine o_yield rfl rfl rfl (y_ldp (cs := [I lo, I hi]) tok rfl (fun hg => hV.get _ _ h2) rfl) ?_
  refine o_call (.a (.v _)) rfl rfl fnok115 rfl rfl rfl (fun hg E w1 hm => by exact spOverlap_c _ _ _ _ _) ?_
  refine o_yield rfl rfl rfl (y_val tok rfl) ?_
  refine o_yield rfl rfl rfl (y_val tok rfl) ?_
  refine o_yield rfl rfl rfl (y_val tok rfl) ?_
  refine o_end [4] rfl ?_
  refine x_then ?_
  refine c_ret ?_
  refine b_ret tok rfl ?_
  intro E w' hm _
  refine ⟨?_, hm.below (Vw.le.refl _)⟩
  show Ending.returned (.bool ((o.key != key) || !meets o.lo o.hi lo hi)) = _
  congr 2
  unfold touchesAt bne
  cases (o.key == key) <;> cases meets o.lo o.hi lo hi <;> rfl

def touches (l : List Hold) (key lo hi : Int) : Bool := l.any (touchesAt key lo hi)

theorem spTouches_c (V : Vw) (sv : Value) (l : List Hold) (key lo hi : Int) (w : World) (hV : V.le (vw w)) (hs : SlOf V Hold.cells 4 sv l) (hn : l.length ≤ lim) :
    Calls Try.prog 65 #[sv, I key, .agg #[I lo, I hi]] w fun e w' => e = .returned (.bool (touches l key lo hi)) ∧ Below w.heap.size w w' := by
  refine enter (E := E0) (O := []) (nl := 0) (V := vw w) [.a (.v sv), .a (.v (I key)), .a (.v (.agg #[I lo, I hi]))] Try.func65 rfl rfl (mem0 E0 0 w) rfl rfl ?_
  refine c_seq ?_
  refine c_region ?_
  refine o_new tok rfl rfl rfl rfl ?_
  refine o_new tok rfl rfl rfl rfl ?_
  refine o_yield rfl rfl rfl (y_val tok rfl) ?_
  refine o_end [0, 4, 5] rfl ?_
  refine x_then ?_
  refine c_seq ?_
  refine c_region ?_
  refine o_yield rfl rfl rfl (y_val tok rfl) ?_
  refine o_yield rfl rfl rfl (y_val tok rfl) ?_
  refine o_call (.a (.v (.bool (l.all fun o => !touchesAt key lo hi o)))) rfl rfl fnok113 rfl rfl rfl (fun hg E w1 hm => ?_) ?_
  · refine spEvery_c (vw w1) 114 _ sv (fun o => !touchesAt key lo hi o) l w1 (Vw.le.refl _) (hs.mono (hV.trans hm.leV)) hn ?_
    intro x w' hle'
    exact ⟨114, _, rfl, fnok114, spTouchesFn_c (vw w1) key lo hi (E.ρ 0) (E.ρ 1) (hm.lit 0 _ _ rfl) (hm.lit 1 _ _ rfl) x w' hle'⟩
  refine o_yield rfl rfl rfl (y_val tok rfl) ?_
  refine o_yield rfl rfl rfl (y_val tok rfl) ?_
  refine o_end [6] rfl ?_
  refine x_then ?_
  refine c_ret ?_
  refine b_ret tok rfl ?_
  intro E w' hm _
  refine ⟨?_, hm.below (Vw.le.refl _)⟩
  show Ending.returned (.bool (!(l.all fun o => !touchesAt key lo hi o))) = _
  rw [touches, List.any_eq_not_all_not]

/-! All -/

def allFrom : List Hold → Nat → List Hold → Bool
  | _, _, [] => true
  | l, i, h :: r => fits h (l.take i) && allFrom l (i + 1) r

def allB (l : List Hold) : Bool := allFrom l 0 l

end Go.Proofs.Ytiapfhcimekdkaa

/- Spans: the document's. -/
set_option linter.unusedVariables false
set_option linter.unusedSimpArgs false
set_option maxRecDepth 100000
namespace Go.Proofs.Ytiapfhcimekdkaa
open Go Go.Eng Go.RowKit


/-! What the document says of two holds -/

end Go.Proofs.Ytiapfhcimekdkaa

/- Spans: plain laws. -/
set_option linter.unusedVariables false
set_option linter.unusedSimpArgs false
set_option maxRecDepth 100000
namespace Go.Proofs.Ytiapfhcimekdkaa
open Go Go.Eng Go.RowKit

theorem meets_comm (lo hi lo' hi' : Int) : meets lo hi lo' hi' = meets lo' hi' lo hi := by
  simp only [meets]
  rw [Bool.and_comm (!decide (hi < lo)), Bool.or_comm]

theorem together_comm (a b : Hold) : together a b = together b a := by
  simp only [together]
  rw [meets_comm, show (a.key == b.key) = (b.key == a.key) by rw [Bool.eq_iff_iff]; simp; exact eq_comm, Bool.and_comm (a.mode == 1)]

theorem allFrom_iff (l : List Hold) : ∀ (r : List Hold) (i : Nat), l.drop i = r → (allFrom l i r = true ↔ ∀ j x, i ≤ j → l[j]? = some x → fits x (l.take j) = true)
  | [], i, hd => by
    have : l.length ≤ i := by simpa using hd
    simp only [allFrom, true_iff]
    intro j x hj hx
    have := (List.getElem?_eq_some_iff.1 hx).1
    omega
  | y :: r, i, hd => by
    have hlt : i < l.length := by
      rcases Nat.lt_or_ge i l.length with h | h
      · exact h
      · rw [List.drop_eq_nil_of_le h] at hd; cases hd
    have hy : l[i]? = some y := by
      have := congrArg (fun q : List Hold => q[0]?) hd
      simpa using this
    have hr : l.drop (i + 1) = r := by
      have := congrArg List.tail hd
      simpa using this
    have ih := allFrom_iff l r (i + 1) hr
    simp only [allFrom, Bool.and_eq_true, ih]
    constructor
    · rintro ⟨h1, h2⟩ j x hj hx
      by_cases e : j = i
      · subst e; rw [hy] at hx; cases hx; exact h1
      · exact h2 j x (by omega) hx
    · intro h
      exact ⟨h i y (Nat.le_refl _) hy, fun j x hj hx => h j x (by omega) hx⟩

theorem allB_iff (l : List Hold) : allB l = true ↔ ∀ j x, l[j]? = some x → fits x (l.take j) = true := by
  rw [allB, allFrom_iff l l 0 rfl]
  exact ⟨fun h j x hx => h j x (Nat.zero_le _) hx, fun h j x _ hx => h j x hx⟩

theorem allB_two {l : List Hold} (h : allB l = true) {i j : Nat} {x y : Hold} (hx : l[i]? = some x) (hy : l[j]? = some y) : together x y = true := by
  rw [allB_iff] at h
  have key : ∀ {i j : Nat} {x y : Hold}, i < j → l[i]? = some x → l[j]? = some y → together y x = true := by
    intro i j x y hij hx hy
    have := h j y hy
    rw [fits, List.all_eq_true] at this
    exact this x (List.mem_of_getElem? (by rw [List.getElem?_take_of_lt hij]; exact hx))
  rcases Nat.lt_trichotomy i j with hij | hij | hij
  · rw [together_comm]; exact key hij hx hy
  · subst hij
    rw [hx] at hy
    cases hy
    simp [together]
  · exact key hij hy hx

theorem allB_more (l : List Hold) (x : Hold) (h : allB l = true) : allB (l ++ [x]) = fits x l := by
  rw [Bool.eq_iff_iff, allB_iff]
  rw [allB_iff] at h
  constructor
  · intro h1
    have := h1 l.length x (by simp)
    simpa using this
  · intro h1 j y hy
    rcases Nat.lt_or_ge j l.length with hj | hj
    · rw [List.getElem?_append_left hj] at hy
      rw [List.take_append_of_le_length (by omega)]
      exact h j y hy
    · rw [List.getElem?_append_right hj] at hy
      have : j = l.length := by
        have := (List.getElem?_eq_some_iff.1 hy).1
        simp at this; omega
      subst this
      simp at hy
      subst hy
      simpa using h1

theorem hold_ones (l : List Hold) : ∀ u ∈ l.flatMap Hold.cells, u.oneCell' = true := by
  intro u hu
  obtain ⟨x, _, hx⟩ := List.mem_flatMap.1 hu
  simp only [Hold.cells, List.mem_cons, List.not_mem_nil, or_false] at hx
  rcases hx with rfl | rfl | rfl | rfl <;> rfl

end Go.Proofs.Ytiapfhcimekdkaa
