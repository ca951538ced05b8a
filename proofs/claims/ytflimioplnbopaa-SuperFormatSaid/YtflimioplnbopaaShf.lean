import Derived.Shelf.Strings.OnBuilder
import Derived.Test.YtflimioplnbopaaProg
/- The contract of strings.Join, laid at this program by the tools of the kit. -/
namespace Go.Proofs
open Go.Shelf
def Try.lays156_ren : Go.Shelf.Ren := ⟨fun | 156 => 129 | 165 => 202 | 166 => 203 | 169 => 204 | 240 => 255 | 241 => 256 | 276 => 291 | 277 => 292 | n => n, fun | 31 => 30 | 9 => 9 | 3 => 3 | 4 => 4 | 0 => 0 | 20 => 20 | 72 => 263 | 76 => 267 | 70 => 261 | 37 => 172 | 75 => 266 | 127 => 310 | 164 => 339 | 5 => 5 | 80 => 269 | n => n, fun | n => n⟩
theorem Try.lays156 : Go.Proofs.Lays.n156 Try.prog Try.lays156_ren := {
  mixed := by kernel_rfl
  f156 := Try.func129.trans (congrArg some (by kernel_rfl))
  f165 := Try.func202.trans (congrArg some (by kernel_rfl))
  f166 := Try.func203.trans (congrArg some (by kernel_rfl))
  f169 := Try.func204.trans (congrArg some (by kernel_rfl))
  f240 := Try.func255.trans (congrArg some (by kernel_rfl))
  f241 := Try.func256.trans (congrArg some (by kernel_rfl))
  f276 := Try.func291.trans (congrArg some (by kernel_rfl))
  f277 := Try.func292.trans (congrArg some (by kernel_rfl))
  t0 := Try.underlying0
  a0 := Try.isAgg0
  z0 := Try.sizeOf0
  v0 := Try.zeroValue0
  t3 := Try.underlying3
  a3 := Try.isAgg3
  z3 := Try.sizeOf3
  v3 := Try.zeroValue3
  t4 := Try.underlying4
  a4 := Try.isAgg4
  z4 := Try.sizeOf4
  v4 := Try.zeroValue4
  t9 := Try.underlying9
  a9 := Try.isAgg9
  z9 := Try.sizeOf9
  v9 := Try.zeroValue9
  t20 := Try.underlying20
  a20 := Try.isAgg20
  z20 := Try.sizeOf20
  v20 := Try.zeroValue20
  t31 := Try.underlying30
  a31 := Try.isAgg30
  z31 := Try.sizeOf30
  v31 := Try.zeroValue30
  t37 := Try.underlying172
  a37 := Try.isAgg172
  z37 := Try.sizeOf172
  v37 := Try.zeroValue172
  t70 := Try.underlying261
  a70 := Try.isAgg261
  z70 := Try.sizeOf261
  v70 := Try.zeroValue261
  t72 := Try.underlying263
  a72 := Try.isAgg263
  z72 := Try.sizeOf263
  v72 := Try.zeroValue263
  t75 := Try.underlying266
  a75 := Try.isAgg266
  z75 := Try.sizeOf266
  v75 := Try.zeroValue266
  t76 := Try.underlying267
  a76 := Try.isAgg267
  z76 := Try.sizeOf267
  v76 := Try.zeroValue267
  t127 := Try.underlying310
  a127 := Try.isAgg310
  z127 := Try.sizeOf310
  v127 := Try.zeroValue310
  t164 := Try.underlying339
  a164 := Try.isAgg339
  z164 := Try.sizeOf339
  v164 := Try.zeroValue339 }
theorem Try.Builder_Extra_156 : Builder.Extra Try.prog Try.lays156_ren := {
  sizeBuilder := by kernel_rfl
  liesBuilder := by kernel_rfl
  t5 := Try.underlying5
  a5 := Try.isAgg5
  z5 := Try.sizeOf5
  v5 := Try.zeroValue5
  infoByte := by kernel_rfl
  cellsByte := by kernel_rfl
  sizeByte := by kernel_rfl
  neB5 := by decide }
open Go.RowKit in
theorem Try.strings_Join_none (a : Option Addr) (c : Nat) (sep : ByteArray) (w : World) :
    Calls Try.prog 129 #[.slice a 0 c, .string sep] w fun e w' => e = .returned (.string ⟨#[]⟩) ∧ w' = w := Any.strings_Join_none Try.lays156 Try.Builder_Extra_156 a c sep w
open Go.RowKit in
theorem Try.strings_Join (bk o c : Nat) (xs : List ByteArray) (sep : ByteArray) (w : World) (hcells : ∀ (j : Nat) x, xs[j]? = some x → w.cell? ⟨bk, o + j, none⟩ = some (.string x)) (hbk : bk < w.heap.size) (hN : xs.length ≤ 140737488355328) (hcap : xs.length ≤ c) (hlen : (Lib.join (xs.map (·.data.toList)) sep.data.toList).length ≤ 140737488355328) :
    Calls Try.prog 129 #[.slice (some ⟨bk, o, none⟩) xs.length c, .string sep] w fun e w' => e = .returned (.string ⟨(Lib.join (xs.map (·.data.toList)) sep.data.toList).toArray⟩) ∧ Below w.heap.size w w' := Any.strings_Join Try.lays156 Try.Builder_Extra_156 bk o c xs sep w hcells hbk hN hcap hlen
end Go.Proofs
