import Derived.Test.YtiapfhcimekdkaaEng27
import Derived.Test.YtiapfhcimekdkaaProg
import Derived.KernelRfl
/- The types' table of this program, and that its functions have bodies. -/
set_option linter.unusedVariables false
namespace Go.Proofs.Ytiapfhcimekdkaa
open Go Go.Eng
def tt : List (Nat × TI) := [
  (1, ⟨1, 8, [.nilFunc], [], .other⟩),
  (2, ⟨1, 8, [.int .i64 0], [], .int .i64⟩),
  (3, ⟨1, 8, [.int .i64 0], [], .int .i64⟩),
  (4, ⟨1, 1, [.bool false], [], .bool⟩),
  (5, ⟨1, 1, [.int .u8 0], [], .int .u8⟩),
  (6, ⟨1, 1, [.int .u8 0], [], .int .u8⟩),
  (7, ⟨4, 24, [.int .i64 0, .int .i64 0, .bool false, .int .u8 0], [(0, 2, 1), (1, 3, 1), (2, 4, 1), (3, 6, 1)], .struct⟩),
  (9, ⟨1, 16, [.string ByteArray.empty], [], .str⟩),
  (23, ⟨8, 64, [.int .i64 0, .int .i64 0, .int .i64 0, .int .i64 0, .int .i64 0, .int .i64 0, .int .i64 0, .int .i64 0], [(0, 3, 1), (1, 3, 1), (2, 3, 1), (3, 3, 1), (4, 3, 1), (5, 3, 1), (6, 3, 1), (7, 3, 1)], .struct⟩),
  (24, ⟨1, 24, [.slice none 0 0], [], .slice 36⟩),
  (26, ⟨1, 24, [.slice none 0 0], [], .slice 48⟩),
  (27, ⟨1, 24, [.slice none 0 0], [], .slice 43⟩),
  (29, ⟨3, 72, [.slice none 0 0, .slice none 0 0, .slice none 0 0], [(0, 26, 1), (1, 27, 1), (2, 27, 1)], .struct⟩),
  (32, ⟨1, 1, [.int .i8 0], [], .int .i8⟩),
  (34, ⟨2, 16, [.int .i64 0, .int .i64 0], [(0, 3, 1), (1, 3, 1)], .struct⟩),
  (36, ⟨8, 64, [.int .i8 0, .int .i64 0, .int .i64 0, .int .i64 0, .int .i64 0, .int .i64 0, .int .i64 0, .int .i8 0], [(0, 32, 1), (1, 3, 1), (2, 3, 1), (3, 3, 1), (4, 3, 1), (5, 34, 2), (7, 32, 1)], .struct⟩),
  (43, ⟨4, 32, [.int .i64 0, .int .i64 0, .int .i64 0, .int .i8 0], [(0, 3, 1), (1, 34, 2), (3, 32, 1)], .struct⟩),
  (48, ⟨2, 16, [.int .i64 0, .int .i64 0], [(0, 3, 1), (1, 3, 1)], .struct⟩),
  (50, ⟨1, 24, [.slice none 0 0], [], .slice 34⟩),
  (61, ⟨1, 8, [.int .i64 0], [], .int .i64⟩),
  (72, ⟨1, 24, [.slice none 0 0], [], .slice 27⟩),
  (73, ⟨1, 24, [.slice none 0 0], [], .slice 3⟩),
  (84, ⟨1, 8, [.nilFunc], [], .other⟩),
  (85, ⟨1, 8, [.nilFunc], [], .other⟩),
  (86, ⟨6, 48, [.nilFunc, .nilFunc, .nilFunc, .nilFunc, .nilFunc, .nilFunc], [], .arr 6 85⟩),
  (88, ⟨1, 8, [.pointer none], [], .other⟩),
  (91, ⟨11, 136, [.slice none 0 0, .slice none 0 0, .slice none 0 0, .int .i64 0, .int .i64 0, .int .i64 0, .int .i64 0, .int .i64 0, .int .i64 0, .int .i64 0, .int .i64 0], [(0, 29, 3), (3, 23, 8)], .struct⟩),
  (96, ⟨1, 8, [.map none], [], .other⟩),
  (100, ⟨2, 16, [.int .i64 0, .int .i64 0], [(0, 3, 1), (1, 3, 1)], .struct⟩),
  (102, ⟨5, 88, [.int .i64 0, .int .i64 0, .slice none 0 0, .slice none 0 0, .slice none 0 0], [(0, 100, 2), (2, 29, 3)], .struct⟩),
  (105, ⟨1, 8, [.nilFunc], [], .other⟩),
  (122, ⟨4, 40, [.int .i8 0, .int .i64 0, .string ByteArray.empty, .int .i64 0], [(0, 32, 1), (1, 3, 1), (2, 9, 1), (3, 3, 1)], .struct⟩),
  (125, ⟨12, 144, [.slice none 0 0, .slice none 0 0, .slice none 0 0, .int .i64 0, .int .i64 0, .int .i64 0, .int .i64 0, .int .i64 0, .int .i64 0, .int .i64 0, .int .i64 0, .int .i64 0], [(0, 29, 3), (3, 23, 8), (11, 3, 1)], .struct⟩),
  (126, ⟨1, 8, [.pointer none], [], .other⟩),
  (135, ⟨1, 8, [.map none], [], .other⟩),
  (136, ⟨1, 8, [.pointer none], [], .other⟩),
  (140, ⟨1, 24, [.slice none 0 0], [], .slice 5⟩),
  (144, ⟨2, 16, [.int .i64 0, .int .i64 0], [(0, 34, 2)], .struct⟩),
  (148, ⟨1, 8, [.nilFunc], [], .other⟩),
  (150, ⟨1, 8, [.nilFunc], [], .other⟩),
  (155, ⟨1, 24, [.slice none 0 0], [], .slice 150⟩),
  (157, ⟨1, 8, [.nilFunc], [], .other⟩),
  (159, ⟨4, 32, [.int .i64 0, .int .i64 0, .int .i64 0, .int .i8 0], [(0, 144, 2), (2, 3, 1), (3, 32, 1)], .struct⟩),
  (162, ⟨1, 8, [.pointer none], [], .other⟩),
  (164, ⟨9, 88, [.int .i8 0, .int .i64 0, .int .i64 0, .int .i64 0, .int .i64 0, .int .i64 0, .int .i64 0, .int .i8 0, .slice none 0 0], [(0, 36, 8), (8, 140, 1)], .struct⟩),
  (171, ⟨2, 16, [.int .i64 0, .int .i64 0], [(0, 3, 1), (1, 3, 1)], .struct⟩),
  (173, ⟨4, 32, [.int .i64 0, .int .i64 0, .int .i8 0, .int .i64 0], [(0, 171, 2), (2, 32, 1), (3, 3, 1)], .struct⟩),
  (175, ⟨1, 8, [.int .i64 0], [], .int .i64⟩),
  (176, ⟨1, 24, [.slice none 0 0], [], .slice 173⟩),
  (181, ⟨1, 8, [.int .u64 0], [], .int .u64⟩),
  (182, ⟨1, 8, [.int .u64 0], [], .int .u64⟩)]

theorem ti1 : TIok Try.prog 1 ⟨1, 8, [.nilFunc], [], .other⟩ := ⟨by kernel_rfl, by kernel_rfl, by kernel_rfl, by kernel_rfl⟩   -- func()
theorem ti2 : TIok Try.prog 2 ⟨1, 8, [.int .i64 0], [], .int .i64⟩ := ⟨by kernel_rfl, by kernel_rfl, by kernel_rfl, by kernel_rfl⟩   -- int64
theorem ti3 : TIok Try.prog 3 ⟨1, 8, [.int .i64 0], [], .int .i64⟩ := ⟨by kernel_rfl, by kernel_rfl, by kernel_rfl, by kernel_rfl⟩   -- int
theorem ti4 : TIok Try.prog 4 ⟨1, 1, [.bool false], [], .bool⟩ := ⟨by kernel_rfl, by kernel_rfl, by kernel_rfl, by kernel_rfl⟩   -- bool
theorem ti5 : TIok Try.prog 5 ⟨1, 1, [.int .u8 0], [], .int .u8⟩ := ⟨by kernel_rfl, by kernel_rfl, by kernel_rfl, by kernel_rfl⟩   -- uint8
theorem ti6 : TIok Try.prog 6 ⟨1, 1, [.int .u8 0], [], .int .u8⟩ := ⟨by kernel_rfl, by kernel_rfl, by kernel_rfl, by kernel_rfl⟩   -- abi.BoundsErrorCode
theorem ti7 : TIok Try.prog 7 ⟨4, 24, [.int .i64 0, .int .i64 0, .bool false, .int .u8 0], [(0, 2, 1), (1, 3, 1), (2, 4, 1), (3, 6, 1)], .struct⟩ := ⟨by kernel_rfl, by kernel_rfl, by kernel_rfl, by kernel_rfl⟩   -- struct { x int64; y int; signed bool; code abi.BoundsErrorCode }
theorem ti9 : TIok Try.prog 9 ⟨1, 16, [.string ByteArray.empty], [], .str⟩ := ⟨by kernel_rfl, by kernel_rfl, by kernel_rfl, by kernel_rfl⟩   -- string
theorem ti23 : TIok Try.prog 23 ⟨8, 64, [.int .i64 0, .int .i64 0, .int .i64 0, .int .i64 0, .int .i64 0, .int .i64 0, .int .i64 0, .int .i64 0], [(0, 3, 1), (1, 3, 1), (2, 3, 1), (3, 3, 1), (4, 3, 1), (5, 3, 1), (6, 3, 1), (7, 3, 1)], .struct⟩ := ⟨by kernel_rfl, by kernel_rfl, by kernel_rfl, by kernel_rfl⟩   -- api.Geo
theorem ti24 : TIok Try.prog 24 ⟨1, 24, [.slice none 0 0], [], .slice 36⟩ := ⟨by kernel_rfl, by kernel_rfl, by kernel_rfl, by kernel_rfl⟩   -- []api.Cmd
theorem ti26 : TIok Try.prog 26 ⟨1, 24, [.slice none 0 0], [], .slice 48⟩ := ⟨by kernel_rfl, by kernel_rfl, by kernel_rfl, by kernel_rfl⟩   -- []api.Slot
theorem ti27 : TIok Try.prog 27 ⟨1, 24, [.slice none 0 0], [], .slice 43⟩ := ⟨by kernel_rfl, by kernel_rfl, by kernel_rfl, by kernel_rfl⟩   -- []api.Hold
theorem ti29 : TIok Try.prog 29 ⟨3, 72, [.slice none 0 0, .slice none 0 0, .slice none 0 0], [(0, 26, 1), (1, 27, 1), (2, 27, 1)], .struct⟩ := ⟨by kernel_rfl, by kernel_rfl, by kernel_rfl, by kernel_rfl⟩   -- api.Table
theorem ti32 : TIok Try.prog 32 ⟨1, 1, [.int .i8 0], [], .int .i8⟩ := ⟨by kernel_rfl, by kernel_rfl, by kernel_rfl, by kernel_rfl⟩   -- int8
theorem ti34 : TIok Try.prog 34 ⟨2, 16, [.int .i64 0, .int .i64 0], [(0, 3, 1), (1, 3, 1)], .struct⟩ := ⟨by kernel_rfl, by kernel_rfl, by kernel_rfl, by kernel_rfl⟩   -- api.Span
theorem ti36 : TIok Try.prog 36 ⟨8, 64, [.int .i8 0, .int .i64 0, .int .i64 0, .int .i64 0, .int .i64 0, .int .i64 0, .int .i64 0, .int .i8 0], [(0, 32, 1), (1, 3, 1), (2, 3, 1), (3, 3, 1), (4, 3, 1), (5, 34, 2), (7, 32, 1)], .struct⟩ := ⟨by kernel_rfl, by kernel_rfl, by kernel_rfl, by kernel_rfl⟩   -- api.Cmd
theorem ti43 : TIok Try.prog 43 ⟨4, 32, [.int .i64 0, .int .i64 0, .int .i64 0, .int .i8 0], [(0, 3, 1), (1, 34, 2), (3, 32, 1)], .struct⟩ := ⟨by kernel_rfl, by kernel_rfl, by kernel_rfl, by kernel_rfl⟩   -- api.Hold
theorem ti48 : TIok Try.prog 48 ⟨2, 16, [.int .i64 0, .int .i64 0], [(0, 3, 1), (1, 3, 1)], .struct⟩ := ⟨by kernel_rfl, by kernel_rfl, by kernel_rfl, by kernel_rfl⟩   -- api.Slot
theorem ti50 : TIok Try.prog 50 ⟨1, 24, [.slice none 0 0], [], .slice 34⟩ := ⟨by kernel_rfl, by kernel_rfl, by kernel_rfl, by kernel_rfl⟩   -- []api.Span
theorem ti61 : TIok Try.prog 61 ⟨1, 8, [.int .i64 0], [], .int .i64⟩ := ⟨by kernel_rfl, by kernel_rfl, by kernel_rfl, by kernel_rfl⟩   -- api.Errno
theorem ti72 : TIok Try.prog 72 ⟨1, 24, [.slice none 0 0], [], .slice 27⟩ := ⟨by kernel_rfl, by kernel_rfl, by kernel_rfl, by kernel_rfl⟩   -- [][]api.Hold
theorem ti73 : TIok Try.prog 73 ⟨1, 24, [.slice none 0 0], [], .slice 3⟩ := ⟨by kernel_rfl, by kernel_rfl, by kernel_rfl, by kernel_rfl⟩   -- []int
theorem ti84 : TIok Try.prog 84 ⟨1, 8, [.nilFunc], [], .other⟩ := ⟨by kernel_rfl, by kernel_rfl, by kernel_rfl, by kernel_rfl⟩   -- func(int) bool
theorem ti85 : TIok Try.prog 85 ⟨1, 8, [.nilFunc], [], .other⟩ := ⟨by kernel_rfl, by kernel_rfl, by kernel_rfl, by kernel_rfl⟩   -- func(*table.book, api.Cmd)
theorem ti86 : TIok Try.prog 86 ⟨6, 48, [.nilFunc, .nilFunc, .nilFunc, .nilFunc, .nilFunc, .nilFunc], [], .arr 6 85⟩ := ⟨by kernel_rfl, by kernel_rfl, by kernel_rfl, by kernel_rfl⟩   -- [6]func(*table.book, api.Cmd)
theorem ti88 : TIok Try.prog 88 ⟨1, 8, [.pointer none], [], .other⟩ := ⟨by kernel_rfl, by kernel_rfl, by kernel_rfl, by kernel_rfl⟩   -- *table.book
theorem ti91 : TIok Try.prog 91 ⟨11, 136, [.slice none 0 0, .slice none 0 0, .slice none 0 0, .int .i64 0, .int .i64 0, .int .i64 0, .int .i64 0, .int .i64 0, .int .i64 0, .int .i64 0, .int .i64 0], [(0, 29, 3), (3, 23, 8)], .struct⟩ := ⟨by kernel_rfl, by kernel_rfl, by kernel_rfl, by kernel_rfl⟩   -- table.book
theorem ti96 : TIok Try.prog 96 ⟨1, 8, [.map none], [], .other⟩ := ⟨by kernel_rfl, by kernel_rfl, by kernel_rfl, by kernel_rfl⟩   -- map[int]int
theorem ti100 : TIok Try.prog 100 ⟨2, 16, [.int .i64 0, .int .i64 0], [(0, 3, 1), (1, 3, 1)], .struct⟩ := ⟨by kernel_rfl, by kernel_rfl, by kernel_rfl, by kernel_rfl⟩   -- lock.owner
theorem ti102 : TIok Try.prog 102 ⟨5, 88, [.int .i64 0, .int .i64 0, .slice none 0 0, .slice none 0 0, .slice none 0 0], [(0, 100, 2), (2, 29, 3)], .struct⟩ := ⟨by kernel_rfl, by kernel_rfl, by kernel_rfl, by kernel_rfl⟩   -- lock.view
theorem ti105 : TIok Try.prog 105 ⟨1, 8, [.nilFunc], [], .other⟩ := ⟨by kernel_rfl, by kernel_rfl, by kernel_rfl, by kernel_rfl⟩   -- func(api.Hold) bool
theorem ti122 : TIok Try.prog 122 ⟨4, 40, [.int .i8 0, .int .i64 0, .string ByteArray.empty, .int .i64 0], [(0, 32, 1), (1, 3, 1), (2, 9, 1), (3, 3, 1)], .struct⟩ := ⟨by kernel_rfl, by kernel_rfl, by kernel_rfl, by kernel_rfl⟩   -- api.Act
theorem ti125 : TIok Try.prog 125 ⟨12, 144, [.slice none 0 0, .slice none 0 0, .slice none 0 0, .int .i64 0, .int .i64 0, .int .i64 0, .int .i64 0, .int .i64 0, .int .i64 0, .int .i64 0, .int .i64 0, .int .i64 0], [(0, 29, 3), (3, 23, 8), (11, 3, 1)], .struct⟩ := ⟨by kernel_rfl, by kernel_rfl, by kernel_rfl, by kernel_rfl⟩   -- learn.reader
theorem ti126 : TIok Try.prog 126 ⟨1, 8, [.pointer none], [], .other⟩ := ⟨by kernel_rfl, by kernel_rfl, by kernel_rfl, by kernel_rfl⟩   -- *learn.reader
theorem ti135 : TIok Try.prog 135 ⟨1, 8, [.map none], [], .other⟩ := ⟨by kernel_rfl, by kernel_rfl, by kernel_rfl, by kernel_rfl⟩   -- map[int]bool
theorem ti136 : TIok Try.prog 136 ⟨1, 8, [.pointer none], [], .other⟩ := ⟨by kernel_rfl, by kernel_rfl, by kernel_rfl, by kernel_rfl⟩   -- *[]api.Hold
theorem ti140 : TIok Try.prog 140 ⟨1, 24, [.slice none 0 0], [], .slice 5⟩ := ⟨by kernel_rfl, by kernel_rfl, by kernel_rfl, by kernel_rfl⟩   -- []uint8
theorem ti144 : TIok Try.prog 144 ⟨2, 16, [.int .i64 0, .int .i64 0], [(0, 34, 2)], .struct⟩ := ⟨by kernel_rfl, by kernel_rfl, by kernel_rfl, by kernel_rfl⟩   -- span.blocks
theorem ti148 : TIok Try.prog 148 ⟨1, 8, [.nilFunc], [], .other⟩ := ⟨by kernel_rfl, by kernel_rfl, by kernel_rfl, by kernel_rfl⟩   -- func(api.Slot) bool
theorem ti150 : TIok Try.prog 150 ⟨1, 8, [.nilFunc], [], .other⟩ := ⟨by kernel_rfl, by kernel_rfl, by kernel_rfl, by kernel_rfl⟩   -- table.cond
theorem ti155 : TIok Try.prog 155 ⟨1, 24, [.slice none 0 0], [], .slice 150⟩ := ⟨by kernel_rfl, by kernel_rfl, by kernel_rfl, by kernel_rfl⟩   -- []table.cond
theorem ti157 : TIok Try.prog 157 ⟨1, 8, [.nilFunc], [], .other⟩ := ⟨by kernel_rfl, by kernel_rfl, by kernel_rfl, by kernel_rfl⟩   -- func(table.cond) bool
theorem ti159 : TIok Try.prog 159 ⟨4, 32, [.int .i64 0, .int .i64 0, .int .i64 0, .int .i8 0], [(0, 144, 2), (2, 3, 1), (3, 32, 1)], .struct⟩ := ⟨by kernel_rfl, by kernel_rfl, by kernel_rfl, by kernel_rfl⟩   -- span.hold
theorem ti162 : TIok Try.prog 162 ⟨1, 8, [.pointer none], [], .other⟩ := ⟨by kernel_rfl, by kernel_rfl, by kernel_rfl, by kernel_rfl⟩   -- *command.order
theorem ti164 : TIok Try.prog 164 ⟨9, 88, [.int .i8 0, .int .i64 0, .int .i64 0, .int .i64 0, .int .i64 0, .int .i64 0, .int .i64 0, .int .i8 0, .slice none 0 0], [(0, 36, 8), (8, 140, 1)], .struct⟩ := ⟨by kernel_rfl, by kernel_rfl, by kernel_rfl, by kernel_rfl⟩   -- command.order
theorem ti171 : TIok Try.prog 171 ⟨2, 16, [.int .i64 0, .int .i64 0], [(0, 3, 1), (1, 3, 1)], .struct⟩ := ⟨by kernel_rfl, by kernel_rfl, by kernel_rfl, by kernel_rfl⟩   -- geo.stretch
theorem ti173 : TIok Try.prog 173 ⟨4, 32, [.int .i64 0, .int .i64 0, .int .i8 0, .int .i64 0], [(0, 171, 2), (2, 32, 1), (3, 3, 1)], .struct⟩ := ⟨by kernel_rfl, by kernel_rfl, by kernel_rfl, by kernel_rfl⟩   -- geo.region
theorem ti175 : TIok Try.prog 175 ⟨1, 8, [.int .i64 0], [], .int .i64⟩ := ⟨by kernel_rfl, by kernel_rfl, by kernel_rfl, by kernel_rfl⟩   -- num.width
theorem ti176 : TIok Try.prog 176 ⟨1, 24, [.slice none 0 0], [], .slice 173⟩ := ⟨by kernel_rfl, by kernel_rfl, by kernel_rfl, by kernel_rfl⟩   -- []geo.region
theorem ti181 : TIok Try.prog 181 ⟨1, 8, [.int .u64 0], [], .int .u64⟩ := ⟨by kernel_rfl, by kernel_rfl, by kernel_rfl, by kernel_rfl⟩   -- uint64
theorem ti182 : TIok Try.prog 182 ⟨1, 8, [.int .u64 0], [], .int .u64⟩ := ⟨by kernel_rfl, by kernel_rfl, by kernel_rfl, by kernel_rfl⟩   -- uint
theorem tok : TTok Try.prog tt := TTok.cons ti1 <| TTok.cons ti2 <| TTok.cons ti3 <| TTok.cons ti4 <| TTok.cons ti5 <| TTok.cons ti6 <| TTok.cons ti7 <| TTok.cons ti9 <| TTok.cons ti23 <| TTok.cons ti24 <| TTok.cons ti26 <| TTok.cons ti27 <| TTok.cons ti29 <| TTok.cons ti32 <| TTok.cons ti34 <| TTok.cons ti36 <| TTok.cons ti43 <| TTok.cons ti48 <| TTok.cons ti50 <| TTok.cons ti61 <| TTok.cons ti72 <| TTok.cons ti73 <| TTok.cons ti84 <| TTok.cons ti85 <| TTok.cons ti86 <| TTok.cons ti88 <| TTok.cons ti91 <| TTok.cons ti96 <| TTok.cons ti100 <| TTok.cons ti102 <| TTok.cons ti105 <| TTok.cons ti122 <| TTok.cons ti125 <| TTok.cons ti126 <| TTok.cons ti135 <| TTok.cons ti136 <| TTok.cons ti140 <| TTok.cons ti144 <| TTok.cons ti148 <| TTok.cons ti150 <| TTok.cons ti155 <| TTok.cons ti157 <| TTok.cons ti159 <| TTok.cons ti162 <| TTok.cons ti164 <| TTok.cons ti171 <| TTok.cons ti173 <| TTok.cons ti175 <| TTok.cons ti176 <| TTok.cons ti181 <| TTok.cons ti182 <| TTok.nil _

theorem fnok3 : FnOk Try.prog 3 := ⟨_, Try.func3, by kernel_rfl, by kernel_rfl⟩
theorem fnok4 : FnOk Try.prog 4 := ⟨_, Try.func4, by kernel_rfl, by kernel_rfl⟩
theorem fnok5 : FnOk Try.prog 5 := ⟨_, Try.func5, by kernel_rfl, by kernel_rfl⟩
theorem fnok6 : FnOk Try.prog 6 := ⟨_, Try.func6, by kernel_rfl, by kernel_rfl⟩
theorem fnok7 : FnOk Try.prog 7 := ⟨_, Try.func7, by kernel_rfl, by kernel_rfl⟩
theorem fnok8 : FnOk Try.prog 8 := ⟨_, Try.func8, by kernel_rfl, by kernel_rfl⟩
theorem fnok9 : FnOk Try.prog 9 := ⟨_, Try.func9, by kernel_rfl, by kernel_rfl⟩
theorem fnok10 : FnOk Try.prog 10 := ⟨_, Try.func10, by kernel_rfl, by kernel_rfl⟩
theorem fnok11 : FnOk Try.prog 11 := ⟨_, Try.func11, by kernel_rfl, by kernel_rfl⟩
theorem fnok12 : FnOk Try.prog 12 := ⟨_, Try.func12, by kernel_rfl, by kernel_rfl⟩
theorem fnok13 : FnOk Try.prog 13 := ⟨_, Try.func13, by kernel_rfl, by kernel_rfl⟩
theorem fnok14 : FnOk Try.prog 14 := ⟨_, Try.func14, by kernel_rfl, by kernel_rfl⟩
theorem fnok15 : FnOk Try.prog 15 := ⟨_, Try.func15, by kernel_rfl, by kernel_rfl⟩
theorem fnok16 : FnOk Try.prog 16 := ⟨_, Try.func16, by kernel_rfl, by kernel_rfl⟩
theorem fnok17 : FnOk Try.prog 17 := ⟨_, Try.func17, by kernel_rfl, by kernel_rfl⟩
theorem fnok18 : FnOk Try.prog 18 := ⟨_, Try.func18, by kernel_rfl, by kernel_rfl⟩
theorem fnok19 : FnOk Try.prog 19 := ⟨_, Try.func19, by kernel_rfl, by kernel_rfl⟩
theorem fnok20 : FnOk Try.prog 20 := ⟨_, Try.func20, by kernel_rfl, by kernel_rfl⟩
theorem fnok21 : FnOk Try.prog 21 := ⟨_, Try.func21, by kernel_rfl, by kernel_rfl⟩
theorem fnok22 : FnOk Try.prog 22 := ⟨_, Try.func22, by kernel_rfl, by kernel_rfl⟩
theorem fnok23 : FnOk Try.prog 23 := ⟨_, Try.func23, by kernel_rfl, by kernel_rfl⟩
theorem fnok24 : FnOk Try.prog 24 := ⟨_, Try.func24, by kernel_rfl, by kernel_rfl⟩
theorem fnok25 : FnOk Try.prog 25 := ⟨_, Try.func25, by kernel_rfl, by kernel_rfl⟩
theorem fnok26 : FnOk Try.prog 26 := ⟨_, Try.func26, by kernel_rfl, by kernel_rfl⟩
theorem fnok27 : FnOk Try.prog 27 := ⟨_, Try.func27, by kernel_rfl, by kernel_rfl⟩
theorem fnok28 : FnOk Try.prog 28 := ⟨_, Try.func28, by kernel_rfl, by kernel_rfl⟩
theorem fnok29 : FnOk Try.prog 29 := ⟨_, Try.func29, by kernel_rfl, by kernel_rfl⟩
theorem fnok30 : FnOk Try.prog 30 := ⟨_, Try.func30, by kernel_rfl, by kernel_rfl⟩
theorem fnok31 : FnOk Try.prog 31 := ⟨_, Try.func31, by kernel_rfl, by kernel_rfl⟩
theorem fnok32 : FnOk Try.prog 32 := ⟨_, Try.func32, by kernel_rfl, by kernel_rfl⟩
theorem fnok33 : FnOk Try.prog 33 := ⟨_, Try.func33, by kernel_rfl, by kernel_rfl⟩
theorem fnok34 : FnOk Try.prog 34 := ⟨_, Try.func34, by kernel_rfl, by kernel_rfl⟩
theorem fnok35 : FnOk Try.prog 35 := ⟨_, Try.func35, by kernel_rfl, by kernel_rfl⟩
theorem fnok36 : FnOk Try.prog 36 := ⟨_, Try.func36, by kernel_rfl, by kernel_rfl⟩
theorem fnok37 : FnOk Try.prog 37 := ⟨_, Try.func37, by kernel_rfl, by kernel_rfl⟩
theorem fnok38 : FnOk Try.prog 38 := ⟨_, Try.func38, by kernel_rfl, by kernel_rfl⟩
theorem fnok39 : FnOk Try.prog 39 := ⟨_, Try.func39, by kernel_rfl, by kernel_rfl⟩
theorem fnok40 : FnOk Try.prog 40 := ⟨_, Try.func40, by kernel_rfl, by kernel_rfl⟩
theorem fnok41 : FnOk Try.prog 41 := ⟨_, Try.func41, by kernel_rfl, by kernel_rfl⟩
theorem fnok42 : FnOk Try.prog 42 := ⟨_, Try.func42, by kernel_rfl, by kernel_rfl⟩
theorem fnok43 : FnOk Try.prog 43 := ⟨_, Try.func43, by kernel_rfl, by kernel_rfl⟩
theorem fnok44 : FnOk Try.prog 44 := ⟨_, Try.func44, by kernel_rfl, by kernel_rfl⟩
theorem fnok45 : FnOk Try.prog 45 := ⟨_, Try.func45, by kernel_rfl, by kernel_rfl⟩
theorem fnok46 : FnOk Try.prog 46 := ⟨_, Try.func46, by kernel_rfl, by kernel_rfl⟩
theorem fnok47 : FnOk Try.prog 47 := ⟨_, Try.func47, by kernel_rfl, by kernel_rfl⟩
theorem fnok48 : FnOk Try.prog 48 := ⟨_, Try.func48, by kernel_rfl, by kernel_rfl⟩
theorem fnok49 : FnOk Try.prog 49 := ⟨_, Try.func49, by kernel_rfl, by kernel_rfl⟩
theorem fnok50 : FnOk Try.prog 50 := ⟨_, Try.func50, by kernel_rfl, by kernel_rfl⟩
theorem fnok51 : FnOk Try.prog 51 := ⟨_, Try.func51, by kernel_rfl, by kernel_rfl⟩
theorem fnok52 : FnOk Try.prog 52 := ⟨_, Try.func52, by kernel_rfl, by kernel_rfl⟩
theorem fnok53 : FnOk Try.prog 53 := ⟨_, Try.func53, by kernel_rfl, by kernel_rfl⟩
theorem fnok54 : FnOk Try.prog 54 := ⟨_, Try.func54, by kernel_rfl, by kernel_rfl⟩
theorem fnok55 : FnOk Try.prog 55 := ⟨_, Try.func55, by kernel_rfl, by kernel_rfl⟩
theorem fnok56 : FnOk Try.prog 56 := ⟨_, Try.func56, by kernel_rfl, by kernel_rfl⟩
theorem fnok57 : FnOk Try.prog 57 := ⟨_, Try.func57, by kernel_rfl, by kernel_rfl⟩
theorem fnok58 : FnOk Try.prog 58 := ⟨_, Try.func58, by kernel_rfl, by kernel_rfl⟩
theorem fnok59 : FnOk Try.prog 59 := ⟨_, Try.func59, by kernel_rfl, by kernel_rfl⟩
theorem fnok60 : FnOk Try.prog 60 := ⟨_, Try.func60, by kernel_rfl, by kernel_rfl⟩
theorem fnok61 : FnOk Try.prog 61 := ⟨_, Try.func61, by kernel_rfl, by kernel_rfl⟩
theorem fnok62 : FnOk Try.prog 62 := ⟨_, Try.func62, by kernel_rfl, by kernel_rfl⟩
theorem fnok63 : FnOk Try.prog 63 := ⟨_, Try.func63, by kernel_rfl, by kernel_rfl⟩
theorem fnok64 : FnOk Try.prog 64 := ⟨_, Try.func64, by kernel_rfl, by kernel_rfl⟩
theorem fnok65 : FnOk Try.prog 65 := ⟨_, Try.func65, by kernel_rfl, by kernel_rfl⟩
theorem fnok66 : FnOk Try.prog 66 := ⟨_, Try.func66, by kernel_rfl, by kernel_rfl⟩
theorem fnok67 : FnOk Try.prog 67 := ⟨_, Try.func67, by kernel_rfl, by kernel_rfl⟩
theorem fnok68 : FnOk Try.prog 68 := ⟨_, Try.func68, by kernel_rfl, by kernel_rfl⟩
theorem fnok69 : FnOk Try.prog 69 := ⟨_, Try.func69, by kernel_rfl, by kernel_rfl⟩
theorem fnok70 : FnOk Try.prog 70 := ⟨_, Try.func70, by kernel_rfl, by kernel_rfl⟩
theorem fnok71 : FnOk Try.prog 71 := ⟨_, Try.func71, by kernel_rfl, by kernel_rfl⟩
theorem fnok72 : FnOk Try.prog 72 := ⟨_, Try.func72, by kernel_rfl, by kernel_rfl⟩
theorem fnok73 : FnOk Try.prog 73 := ⟨_, Try.func73, by kernel_rfl, by kernel_rfl⟩
theorem fnok74 : FnOk Try.prog 74 := ⟨_, Try.func74, by kernel_rfl, by kernel_rfl⟩
theorem fnok75 : FnOk Try.prog 75 := ⟨_, Try.func75, by kernel_rfl, by kernel_rfl⟩
theorem fnok76 : FnOk Try.prog 76 := ⟨_, Try.func76, by kernel_rfl, by kernel_rfl⟩
theorem fnok77 : FnOk Try.prog 77 := ⟨_, Try.func77, by kernel_rfl, by kernel_rfl⟩
theorem fnok78 : FnOk Try.prog 78 := ⟨_, Try.func78, by kernel_rfl, by kernel_rfl⟩
theorem fnok79 : FnOk Try.prog 79 := ⟨_, Try.func79, by kernel_rfl, by kernel_rfl⟩
theorem fnok80 : FnOk Try.prog 80 := ⟨_, Try.func80, by kernel_rfl, by kernel_rfl⟩
theorem fnok81 : FnOk Try.prog 81 := ⟨_, Try.func81, by kernel_rfl, by kernel_rfl⟩
theorem fnok82 : FnOk Try.prog 82 := ⟨_, Try.func82, by kernel_rfl, by kernel_rfl⟩
theorem fnok83 : FnOk Try.prog 83 := ⟨_, Try.func83, by kernel_rfl, by kernel_rfl⟩
theorem fnok84 : FnOk Try.prog 84 := ⟨_, Try.func84, by kernel_rfl, by kernel_rfl⟩
theorem fnok85 : FnOk Try.prog 85 := ⟨_, Try.func85, by kernel_rfl, by kernel_rfl⟩
theorem fnok86 : FnOk Try.prog 86 := ⟨_, Try.func86, by kernel_rfl, by kernel_rfl⟩
theorem fnok87 : FnOk Try.prog 87 := ⟨_, Try.func87, by kernel_rfl, by kernel_rfl⟩
theorem fnok88 : FnOk Try.prog 88 := ⟨_, Try.func88, by kernel_rfl, by kernel_rfl⟩
theorem fnok89 : FnOk Try.prog 89 := ⟨_, Try.func89, by kernel_rfl, by kernel_rfl⟩
theorem fnok90 : FnOk Try.prog 90 := ⟨_, Try.func90, by kernel_rfl, by kernel_rfl⟩
theorem fnok91 : FnOk Try.prog 91 := ⟨_, Try.func91, by kernel_rfl, by kernel_rfl⟩
theorem fnok92 : FnOk Try.prog 92 := ⟨_, Try.func92, by kernel_rfl, by kernel_rfl⟩
theorem fnok93 : FnOk Try.prog 93 := ⟨_, Try.func93, by kernel_rfl, by kernel_rfl⟩
theorem fnok94 : FnOk Try.prog 94 := ⟨_, Try.func94, by kernel_rfl, by kernel_rfl⟩
theorem fnok95 : FnOk Try.prog 95 := ⟨_, Try.func95, by kernel_rfl, by kernel_rfl⟩
theorem fnok96 : FnOk Try.prog 96 := ⟨_, Try.func96, by kernel_rfl, by kernel_rfl⟩
theorem fnok97 : FnOk Try.prog 97 := ⟨_, Try.func97, by kernel_rfl, by kernel_rfl⟩
theorem fnok98 : FnOk Try.prog 98 := ⟨_, Try.func98, by kernel_rfl, by kernel_rfl⟩
theorem fnok99 : FnOk Try.prog 99 := ⟨_, Try.func99, by kernel_rfl, by kernel_rfl⟩
theorem fnok100 : FnOk Try.prog 100 := ⟨_, Try.func100, by kernel_rfl, by kernel_rfl⟩
theorem fnok101 : FnOk Try.prog 101 := ⟨_, Try.func101, by kernel_rfl, by kernel_rfl⟩
theorem fnok102 : FnOk Try.prog 102 := ⟨_, Try.func102, by kernel_rfl, by kernel_rfl⟩
theorem fnok103 : FnOk Try.prog 103 := ⟨_, Try.func103, by kernel_rfl, by kernel_rfl⟩
theorem fnok104 : FnOk Try.prog 104 := ⟨_, Try.func104, by kernel_rfl, by kernel_rfl⟩
theorem fnok105 : FnOk Try.prog 105 := ⟨_, Try.func105, by kernel_rfl, by kernel_rfl⟩
theorem fnok106 : FnOk Try.prog 106 := ⟨_, Try.func106, by kernel_rfl, by kernel_rfl⟩
theorem fnok107 : FnOk Try.prog 107 := ⟨_, Try.func107, by kernel_rfl, by kernel_rfl⟩
theorem fnok108 : FnOk Try.prog 108 := ⟨_, Try.func108, by kernel_rfl, by kernel_rfl⟩
theorem fnok109 : FnOk Try.prog 109 := ⟨_, Try.func109, by kernel_rfl, by kernel_rfl⟩
theorem fnok110 : FnOk Try.prog 110 := ⟨_, Try.func110, by kernel_rfl, by kernel_rfl⟩
theorem fnok111 : FnOk Try.prog 111 := ⟨_, Try.func111, by kernel_rfl, by kernel_rfl⟩
theorem fnok112 : FnOk Try.prog 112 := ⟨_, Try.func112, by kernel_rfl, by kernel_rfl⟩
theorem fnok113 : FnOk Try.prog 113 := ⟨_, Try.func113, by kernel_rfl, by kernel_rfl⟩
theorem fnok114 : FnOk Try.prog 114 := ⟨_, Try.func114, by kernel_rfl, by kernel_rfl⟩
theorem fnok115 : FnOk Try.prog 115 := ⟨_, Try.func115, by kernel_rfl, by kernel_rfl⟩
theorem fnok116 : FnOk Try.prog 116 := ⟨_, Try.func116, by kernel_rfl, by kernel_rfl⟩
theorem fnok117 : FnOk Try.prog 117 := ⟨_, Try.func117, by kernel_rfl, by kernel_rfl⟩
theorem fnok118 : FnOk Try.prog 118 := ⟨_, Try.func118, by kernel_rfl, by kernel_rfl⟩
theorem fnok119 : FnOk Try.prog 119 := ⟨_, Try.func119, by kernel_rfl, by kernel_rfl⟩
theorem fnok120 : FnOk Try.prog 120 := ⟨_, Try.func120, by kernel_rfl, by kernel_rfl⟩
theorem fnok121 : FnOk Try.prog 121 := ⟨_, Try.func121, by kernel_rfl, by kernel_rfl⟩
theorem fnok122 : FnOk Try.prog 122 := ⟨_, Try.func122, by kernel_rfl, by kernel_rfl⟩
theorem fnok123 : FnOk Try.prog 123 := ⟨_, Try.func123, by kernel_rfl, by kernel_rfl⟩
theorem fnok124 : FnOk Try.prog 124 := ⟨_, Try.func124, by kernel_rfl, by kernel_rfl⟩
theorem fnok125 : FnOk Try.prog 125 := ⟨_, Try.func125, by kernel_rfl, by kernel_rfl⟩
theorem fnok126 : FnOk Try.prog 126 := ⟨_, Try.func126, by kernel_rfl, by kernel_rfl⟩
theorem fnok127 : FnOk Try.prog 127 := ⟨_, Try.func127, by kernel_rfl, by kernel_rfl⟩
theorem fnok128 : FnOk Try.prog 128 := ⟨_, Try.func128, by kernel_rfl, by kernel_rfl⟩
theorem fnok129 : FnOk Try.prog 129 := ⟨_, Try.func129, by kernel_rfl, by kernel_rfl⟩
theorem fnok130 : FnOk Try.prog 130 := ⟨_, Try.func130, by kernel_rfl, by kernel_rfl⟩
theorem fnok131 : FnOk Try.prog 131 := ⟨_, Try.func131, by kernel_rfl, by kernel_rfl⟩
theorem fnok132 : FnOk Try.prog 132 := ⟨_, Try.func132, by kernel_rfl, by kernel_rfl⟩
theorem fnok133 : FnOk Try.prog 133 := ⟨_, Try.func133, by kernel_rfl, by kernel_rfl⟩
theorem fnok134 : FnOk Try.prog 134 := ⟨_, Try.func134, by kernel_rfl, by kernel_rfl⟩
theorem fnok135 : FnOk Try.prog 135 := ⟨_, Try.func135, by kernel_rfl, by kernel_rfl⟩
theorem fnok136 : FnOk Try.prog 136 := ⟨_, Try.func136, by kernel_rfl, by kernel_rfl⟩
theorem fnok137 : FnOk Try.prog 137 := ⟨_, Try.func137, by kernel_rfl, by kernel_rfl⟩
theorem fnok138 : FnOk Try.prog 138 := ⟨_, Try.func138, by kernel_rfl, by kernel_rfl⟩
theorem fnok139 : FnOk Try.prog 139 := ⟨_, Try.func139, by kernel_rfl, by kernel_rfl⟩
theorem fnok140 : FnOk Try.prog 140 := ⟨_, Try.func140, by kernel_rfl, by kernel_rfl⟩
theorem fnok141 : FnOk Try.prog 141 := ⟨_, Try.func141, by kernel_rfl, by kernel_rfl⟩
theorem fnok142 : FnOk Try.prog 142 := ⟨_, Try.func142, by kernel_rfl, by kernel_rfl⟩
theorem fnok143 : FnOk Try.prog 143 := ⟨_, Try.func143, by kernel_rfl, by kernel_rfl⟩
theorem fnok144 : FnOk Try.prog 144 := ⟨_, Try.func144, by kernel_rfl, by kernel_rfl⟩
theorem fnok145 : FnOk Try.prog 145 := ⟨_, Try.func145, by kernel_rfl, by kernel_rfl⟩
theorem fnok146 : FnOk Try.prog 146 := ⟨_, Try.func146, by kernel_rfl, by kernel_rfl⟩
theorem fnok147 : FnOk Try.prog 147 := ⟨_, Try.func147, by kernel_rfl, by kernel_rfl⟩
theorem fnok148 : FnOk Try.prog 148 := ⟨_, Try.func148, by kernel_rfl, by kernel_rfl⟩
theorem fnok149 : FnOk Try.prog 149 := ⟨_, Try.func149, by kernel_rfl, by kernel_rfl⟩
theorem fnok150 : FnOk Try.prog 150 := ⟨_, Try.func150, by kernel_rfl, by kernel_rfl⟩
theorem fnok151 : FnOk Try.prog 151 := ⟨_, Try.func151, by kernel_rfl, by kernel_rfl⟩
theorem fnok152 : FnOk Try.prog 152 := ⟨_, Try.func152, by kernel_rfl, by kernel_rfl⟩
theorem fnok153 : FnOk Try.prog 153 := ⟨_, Try.func153, by kernel_rfl, by kernel_rfl⟩
theorem fnok154 : FnOk Try.prog 154 := ⟨_, Try.func154, by kernel_rfl, by kernel_rfl⟩
theorem fnok155 : FnOk Try.prog 155 := ⟨_, Try.func155, by kernel_rfl, by kernel_rfl⟩
theorem fnok156 : FnOk Try.prog 156 := ⟨_, Try.func156, by kernel_rfl, by kernel_rfl⟩
theorem fnok157 : FnOk Try.prog 157 := ⟨_, Try.func157, by kernel_rfl, by kernel_rfl⟩
theorem fnok158 : FnOk Try.prog 158 := ⟨_, Try.func158, by kernel_rfl, by kernel_rfl⟩
theorem fnok159 : FnOk Try.prog 159 := ⟨_, Try.func159, by kernel_rfl, by kernel_rfl⟩
theorem fnok160 : FnOk Try.prog 160 := ⟨_, Try.func160, by kernel_rfl, by kernel_rfl⟩
theorem fnok161 : FnOk Try.prog 161 := ⟨_, Try.func161, by kernel_rfl, by kernel_rfl⟩
theorem fnok162 : FnOk Try.prog 162 := ⟨_, Try.func162, by kernel_rfl, by kernel_rfl⟩
theorem fnok163 : FnOk Try.prog 163 := ⟨_, Try.func163, by kernel_rfl, by kernel_rfl⟩
theorem fnok164 : FnOk Try.prog 164 := ⟨_, Try.func164, by kernel_rfl, by kernel_rfl⟩
theorem fnok165 : FnOk Try.prog 165 := ⟨_, Try.func165, by kernel_rfl, by kernel_rfl⟩
theorem fnok166 : FnOk Try.prog 166 := ⟨_, Try.func166, by kernel_rfl, by kernel_rfl⟩
theorem fnok167 : FnOk Try.prog 167 := ⟨_, Try.func167, by kernel_rfl, by kernel_rfl⟩
theorem mixed : Try.prog.follows .mixedOrders = true := by kernel_rfl
end Go.Proofs.Ytiapfhcimekdkaa
