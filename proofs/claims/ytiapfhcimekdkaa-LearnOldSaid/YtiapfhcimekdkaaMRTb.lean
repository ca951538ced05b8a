import Derived.Test.YtiapfhcimekdkaaMTAsk
import Derived.Test.YtiapfhcimekdkaaEng36
/- Tables, the document's: which may be. -/
set_option linter.unusedVariables false
set_option linter.unusedSimpArgs false
set_option maxRecDepth 100000
namespace Go.Proofs.Ytiapfhcimekdkaa
open Go Go.Eng Go.RowKit

def slotGood (x : Slot) : Prop := 0 ≤ x.key ∧ 0 ≤ x.claim ∧ (x.key = 0 → x.claim = 0)

/-- What the document's Grant leaves. -/
abbrev grMakes (t : Tb) (w : World) : Ending → World → Prop := Makes w (fun _ : Unit => True) (fun _ => .agg [.row 7, .row 9, .row 13]) (fun _ => [(7, (slR t.S).cel), (9, (hoR t.grant.H).cel), (13, (hoR t.grant.Q).cel)]) 14

/-- A table of rows of one's own, read. -/
theorem TbIs.rows {E : Env} {O : Go.Eng.Own} {nl : Nat} {V : Vw} {w : World} (hm : Mem E O nl V w) (a b c : Nat) {t : Tb} (ha : lk O a = some (slR t.S).cel) (hb : lk O b = some (hoR t.H).cel) (hc : lk O c = some (hoR t.Q).cel) : TbIs (vw w) (.agg #[E.κ a, E.κ b, E.κ c]) t := by
  have s1 := hm.rowOf (enc := Slot.cells) (L := t.S) a ha (fun _ => rfl)
  have s2 := hm.rowOf (enc := Hold.cells) (L := t.H) b hb (fun _ => rfl)
  have s3 := hm.rowOf (enc := Hold.cells) (L := t.Q) c hc (fun _ => rfl)
  obtain ⟨x1, y1, z1, e1⟩ := sl_shape s1.sl
  obtain ⟨x2, y2, z2, e2⟩ := sl_shape s2.sl
  obtain ⟨x3, y3, z3, e3⟩ := sl_shape s3.sl
  exact ⟨x1, y1, z1, x2, y2, z2, x3, y3, z3, by rw [e1, e2, e3], e1 ▸ s1, e2 ▸ s2, e3 ▸ s3⟩
end Go.Proofs.Ytiapfhcimekdkaa

/- Tables, the document's: commands. -/
set_option linter.unusedVariables false
set_option linter.unusedSimpArgs false
set_option maxRecDepth 100000
namespace Go.Proofs.Ytiapfhcimekdkaa
open Go Go.Eng Go.RowKit

/-- What the document's free leaves. -/
abbrev frMakes (t : Tb) (w : World) : Ending → World → Prop := Makes w (fun _ : Unit => True) (fun _ => .agg [.row 23, .row 25, .row 29]) (fun _ => [(23, (slR t.S).cel), (25, (hoR t.H).cel), (29, (hoR t.Q).cel)]) 30

end Go.Proofs.Ytiapfhcimekdkaa

/- Tables, the document's: new, and what comes of commands. -/
set_option linter.unusedVariables false
set_option linter.unusedSimpArgs false
set_option maxRecDepth 100000
set_option linter.unusedSectionVars false
namespace Go.Proofs.Ytiapfhcimekdkaa
open Go Go.Eng Go.RowKit

/-- What a key has and waits for. -/
def allA (key : Int) (t : Tb) : List Hold := (t.H ++ t.Q).filter fun h => h.key == key

section
variable (V : Vw) (g : Geo) (tv : Value) (t : Tb) (c : Cmd) (w : World) (ht : t.Fit) (hq1 : t.Q.length + 1 ≤ 100000) (hV : V.le (vw w)) (h : TbIs V tv t)
include ht hq1 hV h

end
end Go.Proofs.Ytiapfhcimekdkaa

/- Commands read back: the program's. -/
set_option linter.unusedVariables false
set_option linter.unusedSimpArgs false
set_option maxRecDepth 100000
namespace Go.Proofs.Ytiapfhcimekdkaa
open Go Go.Eng Go.RowKit

/-- What is left, and whether something was lacking. -/
def tkS (t : ByteArray × Bool) (k : Nat) : ByteArray × Bool := if (getSpec t.1 0 k).2 ≠ 0 then (t.1, true) else (restOf t.1 k, t.2)

section
variable {o : Oper} {n : Nat} {F : Frame0} {C : List Nat} {O : Go.Eng.Own} {nl : Nat} {V : Vw}

end

def rdPre (s : ByteArray) : Cmd × (ByteArray × Bool) :=
  if min (getSpec s 0 1).1 127 = 2 then
    (⟨min (getSpec s 0 1).1 127, (getSpec (tkS (s, false) 1).1 0 6).1, (getSpec (tkS (tkS (s, false) 1) 6).1 0 4).1, 0, 0, (getSpec (tkS (tkS (tkS (s, false) 1) 6) 4).1 0 1).1, (getSpec (tkS (tkS (tkS (tkS (s, false) 1) 6) 4) 1).1 0 1).1,
      min (getSpec (tkS (tkS (tkS (tkS (tkS (s, false) 1) 6) 4) 1) 1).1 0 1).1 127⟩, tkS (tkS (tkS (tkS (tkS (tkS (s, false) 1) 6) 4) 1) 1) 1)
  else if min (getSpec s 0 1).1 127 = 3 then
    (⟨min (getSpec s 0 1).1 127, (getSpec (tkS (s, false) 1).1 0 6).1, (getSpec (tkS (tkS (s, false) 1) 6).1 0 4).1, 0, 0, (getSpec (tkS (tkS (tkS (s, false) 1) 6) 4).1 0 1).1, (getSpec (tkS (tkS (tkS (tkS (s, false) 1) 6) 4) 1).1 0 1).1, 0⟩,
      tkS (tkS (tkS (tkS (tkS (s, false) 1) 6) 4) 1) 1)
  else if min (getSpec s 0 1).1 127 = 4 then
    (⟨min (getSpec s 0 1).1 127, (getSpec (tkS (s, false) 1).1 0 6).1, (getSpec (tkS (tkS (s, false) 1) 6).1 0 4).1, (getSpec (tkS (tkS (tkS (s, false) 1) 6) 4).1 0 6).1, (getSpec (tkS (tkS (tkS (tkS (s, false) 1) 6) 4) 6).1 0 6).1, 0, 0, 0⟩,
      tkS (tkS (tkS (tkS (tkS (s, false) 1) 6) 4) 6) 6)
  else if min (getSpec s 0 1).1 127 = 5 then
    (⟨min (getSpec s 0 1).1 127, (getSpec (tkS (s, false) 1).1 0 6).1, (getSpec (tkS (tkS (s, false) 1) 6).1 0 4).1, (getSpec (tkS (tkS (tkS (s, false) 1) 6) 4).1 0 6).1, 0, 0, 0, 0⟩, tkS (tkS (tkS (tkS (s, false) 1) 6) 4) 6)
  else (⟨min (getSpec s 0 1).1 127, (getSpec (tkS (s, false) 1).1 0 6).1, (getSpec (tkS (tkS (s, false) 1) 6).1 0 4).1, 0, 0, 0, 0, 0⟩, tkS (tkS (tkS (s, false) 1) 6) 4)

/-- Whether what was read stands. -/
def rdB (x : Cmd × (ByteArray × Bool)) : Bool := !((x.2.2 || !(x.2.1.toList == ByteArray.empty.toList)) || !(cmdB x.1))
def cmd0 : Cmd := ⟨0, 0, 0, 0, 0, 0, 0, 0⟩
def crdV (s : ByteArray) : Cmd := if rdB (rdPre s) = true then (rdPre s).1 else cmd0
def crdE (s : ByteArray) : Int := if rdB (rdPre s) = true then 0 else 100

end Go.Proofs.Ytiapfhcimekdkaa

/- What a command is as bytes. -/
set_option linter.unusedVariables false
set_option linter.unusedSimpArgs false
set_option maxRecDepth 100000
namespace Go.Proofs.Ytiapfhcimekdkaa
open Go Go.Eng Go.RowKit

def cmdR (c : Cmd) : List UInt8 :=
  if c.kind = 2 then leB 1 c.lo ++ (leB 1 c.hi ++ (leB 1 c.mode ++ []))
  else if c.kind = 3 then leB 1 c.lo ++ (leB 1 c.hi ++ [])
  else if c.kind = 4 then leB 6 c.dead ++ (leB 6 c.was ++ [])
  else if c.kind = 5 then leB 6 c.dead ++ []
  else []

theorem cmd_shape (c : Cmd) : cmdL c = leB 1 c.kind ++ (leB 6 c.by_ ++ (leB 4 c.serial ++ cmdR c)) := by
  unfold cmdL cmdR
  split
  · simp [putL]
  · split
    · simp [putL]
    · split
      · simp [putL]
      · split <;> simp [putL]

theorem cmdR_len (c : Cmd) : (cmdR c).length ≤ 12 := by
  unfold cmdR
  split
  · simp [leB, leTake_len]
  · split
    · simp [leB, leTake_len]
    · split
      · simp [leB, leTake_len]
      · split <;> simp [leB, leTake_len]

theorem cmdL_len (c : Cmd) : 11 ≤ (cmdL c).length ∧ (cmdL c).length ≤ 23 := by
  have := cmdR_len c
  rw [cmd_shape]
  simp only [List.length_append, leB, leTake_len]
  omega

end Go.Proofs.Ytiapfhcimekdkaa

/- What is read of bytes was put there: the plain law. -/
set_option linter.unusedVariables false
set_option linter.unusedSimpArgs false
set_option maxRecDepth 100000
namespace Go.Proofs.Ytiapfhcimekdkaa
open Go Go.Eng Go.RowKit

end Go.Proofs.Ytiapfhcimekdkaa

/- A row of numbers, the document's. -/
set_option linter.unusedVariables false
set_option linter.unusedSimpArgs false
set_option maxRecDepth 100000
namespace Go.Proofs.Ytiapfhcimekdkaa
open Go Go.Eng Go.RowKit

/-- The numbers of six bytes each that make up a string. -/
def rowR : Nat → ByteArray → List Int → List Int × Int
  | 0, _, acc => (acc, 0)
  | f + 1, r, acc => if r.size = 0 then (acc, 0) else if (getSpec r 0 6).2 ≠ 0 then ([], (getSpec r 0 6).2) else rowR f (restOf r 6) (acc ++ [(getSpec r 0 6).1])

def RowPostI (r : List Int × Int) (w : World) (e : Ending) (w' : World) : Prop :=
  (∃ v, e = .returned (.tuple #[v, I r.2]) ∧ w'.ownsRow w.heap.size 3 1 v r.1.length (r.1.flatMap encI64)) ∧ Below w.heap.size w w'

end Go.Proofs.Ytiapfhcimekdkaa

/- Commands read back, the document's: what is none. -/
set_option linter.unusedVariables false
set_option linter.unusedSimpArgs false
set_option maxRecDepth 100000
namespace Go.Proofs.Ytiapfhcimekdkaa
open Go Go.Eng Go.RowKit

section
variable {o : Oper} {n : Nat} {F : Frame0} {C : List Nat} {O : Go.Eng.Own} {nl : Nat} {V : Vw}

end

end Go.Proofs.Ytiapfhcimekdkaa

/- Commands read back, the document's. -/
set_option linter.unusedVariables false
set_option linter.unusedSimpArgs false
set_option maxRecDepth 100000
namespace Go.Proofs.Ytiapfhcimekdkaa
open Go Go.Eng Go.RowKit

theorem rest_add (a b : List UInt8) : restOf (strOf (a ++ b)) a.length = strOf b := by
  apply str_ext
  rw [restOf_list, strOf_list, strOf_list, List.drop_left]

theorem leB_len (k n : Int) : (leB k n).length = k.toNat := by rw [leB, leTake_len]

theorem byte0 {n : Int} (h0 : 0 ≤ n) (h1 : n ≤ 255) (R : List UInt8) : (byteAt (strOf (leB 1 n ++ R)) 0).toNat = n.toNat := by
  rw [byteAt_list, strOf_list, (leB_one h0 h1).1, List.singleton_append]
  show (kindOf8 n).toNat = _
  rw [kindOf8, UInt8.toNat_ofNat']; omega

structure Facts (c : Cmd) (s r : ByteArray) : Prop where
  size : s.size = 11 + (cmdR c).length
  g1 : getSpec s 1 6 = (c.by_, 0)
  g2 : getSpec s 7 4 = (c.serial, 0)
  k0 : (byteAt s 0).toNat = c.kind.toNat
  rest : restOf s 11 = r

theorem facts {c : Cmd} (hc : cmdB c = true) : Facts c (strOf (cmdL c)) (strOf (cmdR c)) := by
  have ok := cmdOk hc
  have okk := ok.kind
  have oky := ok.by_
  have oks := ok.serial
  have m6 : mostN (6 : Int).toNat = 1099511627776 := by decide
  have m4 : mostN (4 : Int).toNat = 4294967295 := by decide
  have f6 : fitsB c.by_ 6 = true := by rw [fitsB, m6]; simp [widthB]; omega
  have f4 : fitsB c.serial 4 = true := by rw [fitsB, m4]; simp [widthB]; omega
  have e := cmd_shape c
  have l := cmdL_len c
  have r1 : restOf (strOf (cmdL c)) 1 = strOf (leB 6 c.by_ ++ (leB 4 c.serial ++ cmdR c)) := by
    rw [e]; exact rest_add (leB 1 c.kind) _
  have r7 : restOf (strOf (cmdL c)) 7 = strOf (leB 4 c.serial ++ cmdR c) := by
    rw [show 7 = 1 + 6 from rfl, ← restOf_add, r1]; exact rest_add (leB 6 c.by_) _
  have r11 : restOf (strOf (cmdL c)) 11 = strOf (cmdR c) := by
    rw [show 11 = 7 + 4 from rfl, ← restOf_add, r7]; exact rest_add (leB 4 c.serial) _
  have hs : (strOf (cmdL c)).size = 11 + (cmdR c).length := by
    rw [strOf_size, e]
    simp only [List.length_append, leB_len]
    omega
  refine ⟨hs, ?_, ?_, ?_, r11⟩
  · have := getSpec_rest (strOf (cmdL c)) (a := 1) (by omega) 6
    rw [r1, getSpec_pack f6] at this
    exact this.symm
  · have := getSpec_rest (strOf (cmdL c)) (a := 7) (by omega) 4
    rw [r7, getSpec_pack f4] at this
    exact this.symm
  · rw [e]; exact byte0 (by omega) (by omega) _

end Go.Proofs.Ytiapfhcimekdkaa

/- Commands read back, the document's: what is one. -/
set_option linter.unusedVariables false
set_option linter.unusedSimpArgs false
set_option maxRecDepth 100000
namespace Go.Proofs.Ytiapfhcimekdkaa
open Go Go.Eng Go.RowKit

end Go.Proofs.Ytiapfhcimekdkaa
