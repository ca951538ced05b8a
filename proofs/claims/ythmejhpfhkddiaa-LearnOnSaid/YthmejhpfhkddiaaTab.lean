import Derived.Test.YthmejhpfhkddiaaEng27
import Derived.Test.YthmejhpfhkddiaaProg
import Derived.KernelRfl
/- The types' table of this program, and that its functions have bodies. -/
set_option linter.unusedVariables false
namespace Go.Proofs.Ythmejhpfhkddiaa
open Go Go.Eng
def tt : List (Nat × TI) := [
  (1, ⟨1, 8, [.nilFunc], [], .other⟩),
  (2, ⟨1, 8, [.int .i64 0], [], .int .i64⟩),
  (3, ⟨1, 8, [.int .i64 0], [], .int .i64⟩),
  (4, ⟨1, 1, [.bool false], [], .bool⟩),
  (5, ⟨1, 1, [.int .u8 0], [], .int .u8⟩),
  (6, ⟨1, 1, [.int .u8 0], [], .int .u8⟩),
  (7, ⟨4, 24, [.int .i64 0, .int .i64 0, .bool false, .int .u8 0], [(0, 2, 1), (1, 3, 1), (2, 4, 1), (3, 6, 1)], .struct⟩),
  (9, ⟨1, 16, [.string ByteArray.empty], [], .str⟩),
  (23, ⟨8, 64, [.int .i64 0, .int .i64 0, .int .i64 0, .int .i64 0, .int .i64 0, .int .i64 0, .int .i64 0, .int .i64 0], [(0, 3, 1), (1, 3, 1), (2, 3, 1), (3, 3, 1), (4, 3, 1), (5, 3, 1), (6, 3, 1), (7, 3, 1)], .struct⟩),
  (24, ⟨1, 24, [.slice none 0 0], [], .slice 38⟩),
  (26, ⟨1, 24, [.slice none 0 0], [], .slice 67⟩),
  (27, ⟨1, 24, [.slice none 0 0], [], .slice 92⟩),
  (29, ⟨3, 72, [.slice none 0 0, .slice none 0 0, .slice none 0 0], [(0, 26, 1), (1, 27, 1), (2, 27, 1)], .struct⟩),
  (31, ⟨1, 8, [.int .i64 0], [], .int .i64⟩),
  (34, ⟨1, 1, [.int .i8 0], [], .int .i8⟩),
  (36, ⟨2, 16, [.int .i64 0, .int .i64 0], [(0, 3, 1), (1, 3, 1)], .struct⟩),
  (38, ⟨8, 64, [.int .i8 0, .int .i64 0, .int .i64 0, .int .i64 0, .int .i64 0, .int .i64 0, .int .i64 0, .int .i8 0], [(0, 34, 1), (1, 3, 1), (2, 3, 1), (3, 3, 1), (4, 3, 1), (5, 36, 2), (7, 34, 1)], .struct⟩),
  (45, ⟨1, 24, [.slice none 0 0], [], .slice 3⟩),
  (48, ⟨4, 40, [.int .i8 0, .int .i64 0, .string ByteArray.empty, .int .i64 0], [(0, 34, 1), (1, 3, 1), (2, 9, 1), (3, 3, 1)], .struct⟩),
  (51, ⟨12, 144, [.slice none 0 0, .slice none 0 0, .slice none 0 0, .int .i64 0, .int .i64 0, .int .i64 0, .int .i64 0, .int .i64 0, .int .i64 0, .int .i64 0, .int .i64 0, .int .i64 0], [(0, 29, 3), (3, 23, 8), (11, 3, 1)], .struct⟩),
  (52, ⟨1, 8, [.pointer none], [], .other⟩),
  (55, ⟨1, 8, [.pointer none], [], .other⟩),
  (56, ⟨1, 24, [.slice none 0 0], [], .slice 5⟩),
  (58, ⟨9, 88, [.int .i8 0, .int .i64 0, .int .i64 0, .int .i64 0, .int .i64 0, .int .i64 0, .int .i64 0, .int .i8 0, .slice none 0 0], [(0, 38, 8), (8, 56, 1)], .struct⟩),
  (67, ⟨2, 16, [.int .i64 0, .int .i64 0], [(0, 3, 1), (1, 3, 1)], .struct⟩),
  (69, ⟨1, 8, [.nilFunc], [], .other⟩),
  (75, ⟨1, 8, [.pointer none], [], .other⟩),
  (77, ⟨2, 24, [.string ByteArray.empty, .bool false], [(0, 9, 1), (1, 4, 1)], .struct⟩),
  (80, ⟨1, 8, [.pointer none], [], .other⟩),
  (82, ⟨2, 32, [.slice none 0 0, .int .i64 0], [(0, 56, 1), (1, 31, 1)], .struct⟩),
  (84, ⟨3, 40, [.slice none 0 0, .int .i64 0, .int .i8 0], [(0, 82, 2), (2, 34, 1)], .struct⟩),
  (85, ⟨1, 8, [.pointer none], [], .other⟩),
  (87, ⟨10, 88, [.int .i8 0, .int .i64 0, .int .i64 0, .int .i64 0, .int .i64 0, .int .i64 0, .int .i64 0, .int .i8 0, .string ByteArray.empty, .bool false], [(0, 38, 8), (8, 9, 1), (9, 4, 1)], .struct⟩),
  (89, ⟨11, 112, [.int .i8 0, .int .i64 0, .int .i64 0, .int .i64 0, .int .i64 0, .int .i64 0, .int .i64 0, .int .i8 0, .string ByteArray.empty, .bool false, .slice none 0 0], [(0, 87, 10), (10, 24, 1)], .struct⟩),
  (92, ⟨4, 32, [.int .i64 0, .int .i64 0, .int .i64 0, .int .i8 0], [(0, 3, 1), (1, 36, 2), (3, 34, 1)], .struct⟩),
  (94, ⟨1, 8, [.nilFunc], [], .other⟩),
  (95, ⟨6, 48, [.nilFunc, .nilFunc, .nilFunc, .nilFunc, .nilFunc, .nilFunc], [], .arr 6 94⟩),
  (97, ⟨1, 8, [.pointer none], [], .other⟩),
  (100, ⟨11, 136, [.slice none 0 0, .slice none 0 0, .slice none 0 0, .int .i64 0, .int .i64 0, .int .i64 0, .int .i64 0, .int .i64 0, .int .i64 0, .int .i64 0, .int .i64 0], [(0, 29, 3), (3, 23, 8)], .struct⟩),
  (101, ⟨1, 8, [.int .i64 0], [], .int .i64⟩),
  (107, ⟨2, 16, [.int .i64 0, .int .i64 0], [(0, 3, 1), (1, 3, 1)], .struct⟩),
  (109, ⟨4, 32, [.int .i64 0, .int .i64 0, .int .i8 0, .int .i64 0], [(0, 107, 2), (2, 34, 1), (3, 3, 1)], .struct⟩),
  (115, ⟨1, 8, [.pointer none], [], .other⟩),
  (119, ⟨1, 24, [.slice none 0 0], [], .slice 109⟩),
  (124, ⟨1, 8, [.nilFunc], [], .other⟩),
  (130, ⟨1, 8, [.nilFunc], [], .other⟩),
  (131, ⟨1, 8, [.nilFunc], [], .other⟩),
  (135, ⟨1, 8, [.int .u64 0], [], .int .u64⟩),
  (136, ⟨1, 8, [.int .u64 0], [], .int .u64⟩),
  (137, ⟨1, 8, [.pointer none], [], .other⟩),
  (140, ⟨1, 4, [.int .u32 0], [], .int .u32⟩),
  (142, ⟨1, 4, [.int .u32 0], [(0, 140, 1)], .struct⟩),
  (143, ⟨16, 64, [.int .u32 0, .int .u32 0, .int .u32 0, .int .u32 0, .int .u32 0, .int .u32 0, .int .u32 0, .int .u32 0, .int .u32 0, .int .u32 0, .int .u32 0, .int .u32 0, .int .u32 0, .int .u32 0, .int .u32 0, .int .u32 0], [], .arr 16 140⟩),
  (145, ⟨17, 68, [.int .u32 0, .int .u32 0, .int .u32 0, .int .u32 0, .int .u32 0, .int .u32 0, .int .u32 0, .int .u32 0, .int .u32 0, .int .u32 0, .int .u32 0, .int .u32 0, .int .u32 0, .int .u32 0, .int .u32 0, .int .u32 0, .int .u32 0], [(0, 142, 1), (1, 143, 16)], .struct⟩),
  (150, ⟨1, 8, [.pointer none], [], .other⟩),
  (151, ⟨1, 24, [.slice none 0 0], [], .slice 27⟩),
  (157, ⟨1, 8, [.pointer none], [], .other⟩),
  (159, ⟨1, 24, [.slice none 0 0], [], .slice 131⟩),
  (162, ⟨1, 8, [.nilFunc], [], .other⟩),
  (164, ⟨2, 16, [.int .i64 0, .int .i64 0], [(0, 36, 2)], .struct⟩),
  (170, ⟨4, 32, [.int .i64 0, .int .i64 0, .int .i64 0, .int .i8 0], [(0, 164, 2), (2, 3, 1), (3, 34, 1)], .struct⟩),
  (188, ⟨1, 8, [.pointer none], [], .other⟩)]

theorem ti1 : TIok Try.prog 1 ⟨1, 8, [.nilFunc], [], .other⟩ := ⟨by kernel_rfl, by kernel_rfl, by kernel_rfl, by kernel_rfl⟩   -- func()
theorem ti2 : TIok Try.prog 2 ⟨1, 8, [.int .i64 0], [], .int .i64⟩ := ⟨by kernel_rfl, by kernel_rfl, by kernel_rfl, by kernel_rfl⟩   -- int64
theorem ti3 : TIok Try.prog 3 ⟨1, 8, [.int .i64 0], [], .int .i64⟩ := ⟨by kernel_rfl, by kernel_rfl, by kernel_rfl, by kernel_rfl⟩   -- int
theorem ti4 : TIok Try.prog 4 ⟨1, 1, [.bool false], [], .bool⟩ := ⟨by kernel_rfl, by kernel_rfl, by kernel_rfl, by kernel_rfl⟩   -- bool
theorem ti5 : TIok Try.prog 5 ⟨1, 1, [.int .u8 0], [], .int .u8⟩ := ⟨by kernel_rfl, by kernel_rfl, by kernel_rfl, by kernel_rfl⟩   -- uint8
theorem ti6 : TIok Try.prog 6 ⟨1, 1, [.int .u8 0], [], .int .u8⟩ := ⟨by kernel_rfl, by kernel_rfl, by kernel_rfl, by kernel_rfl⟩   -- abi.BoundsErrorCode
theorem ti7 : TIok Try.prog 7 ⟨4, 24, [.int .i64 0, .int .i64 0, .bool false, .int .u8 0], [(0, 2, 1), (1, 3, 1), (2, 4, 1), (3, 6, 1)], .struct⟩ := ⟨by kernel_rfl, by kernel_rfl, by kernel_rfl, by kernel_rfl⟩   -- struct { x int64; y int; signed bool; code abi.BoundsErrorCode }
theorem ti9 : TIok Try.prog 9 ⟨1, 16, [.string ByteArray.empty], [], .str⟩ := ⟨by kernel_rfl, by kernel_rfl, by kernel_rfl, by kernel_rfl⟩   -- string
theorem ti23 : TIok Try.prog 23 ⟨8, 64, [.int .i64 0, .int .i64 0, .int .i64 0, .int .i64 0, .int .i64 0, .int .i64 0, .int .i64 0, .int .i64 0], [(0, 3, 1), (1, 3, 1), (2, 3, 1), (3, 3, 1), (4, 3, 1), (5, 3, 1), (6, 3, 1), (7, 3, 1)], .struct⟩ := ⟨by kernel_rfl, by kernel_rfl, by kernel_rfl, by kernel_rfl⟩   -- api.Geo
theorem ti24 : TIok Try.prog 24 ⟨1, 24, [.slice none 0 0], [], .slice 38⟩ := ⟨by kernel_rfl, by kernel_rfl, by kernel_rfl, by kernel_rfl⟩   -- []api.Cmd
theorem ti26 : TIok Try.prog 26 ⟨1, 24, [.slice none 0 0], [], .slice 67⟩ := ⟨by kernel_rfl, by kernel_rfl, by kernel_rfl, by kernel_rfl⟩   -- []api.Slot
theorem ti27 : TIok Try.prog 27 ⟨1, 24, [.slice none 0 0], [], .slice 92⟩ := ⟨by kernel_rfl, by kernel_rfl, by kernel_rfl, by kernel_rfl⟩   -- []api.Hold
theorem ti29 : TIok Try.prog 29 ⟨3, 72, [.slice none 0 0, .slice none 0 0, .slice none 0 0], [(0, 26, 1), (1, 27, 1), (2, 27, 1)], .struct⟩ := ⟨by kernel_rfl, by kernel_rfl, by kernel_rfl, by kernel_rfl⟩   -- api.Table
theorem ti31 : TIok Try.prog 31 ⟨1, 8, [.int .i64 0], [], .int .i64⟩ := ⟨by kernel_rfl, by kernel_rfl, by kernel_rfl, by kernel_rfl⟩   -- api.Errno
theorem ti34 : TIok Try.prog 34 ⟨1, 1, [.int .i8 0], [], .int .i8⟩ := ⟨by kernel_rfl, by kernel_rfl, by kernel_rfl, by kernel_rfl⟩   -- int8
theorem ti36 : TIok Try.prog 36 ⟨2, 16, [.int .i64 0, .int .i64 0], [(0, 3, 1), (1, 3, 1)], .struct⟩ := ⟨by kernel_rfl, by kernel_rfl, by kernel_rfl, by kernel_rfl⟩   -- api.Span
theorem ti38 : TIok Try.prog 38 ⟨8, 64, [.int .i8 0, .int .i64 0, .int .i64 0, .int .i64 0, .int .i64 0, .int .i64 0, .int .i64 0, .int .i8 0], [(0, 34, 1), (1, 3, 1), (2, 3, 1), (3, 3, 1), (4, 3, 1), (5, 36, 2), (7, 34, 1)], .struct⟩ := ⟨by kernel_rfl, by kernel_rfl, by kernel_rfl, by kernel_rfl⟩   -- api.Cmd
theorem ti45 : TIok Try.prog 45 ⟨1, 24, [.slice none 0 0], [], .slice 3⟩ := ⟨by kernel_rfl, by kernel_rfl, by kernel_rfl, by kernel_rfl⟩   -- []int
theorem ti48 : TIok Try.prog 48 ⟨4, 40, [.int .i8 0, .int .i64 0, .string ByteArray.empty, .int .i64 0], [(0, 34, 1), (1, 3, 1), (2, 9, 1), (3, 3, 1)], .struct⟩ := ⟨by kernel_rfl, by kernel_rfl, by kernel_rfl, by kernel_rfl⟩   -- api.Act
theorem ti51 : TIok Try.prog 51 ⟨12, 144, [.slice none 0 0, .slice none 0 0, .slice none 0 0, .int .i64 0, .int .i64 0, .int .i64 0, .int .i64 0, .int .i64 0, .int .i64 0, .int .i64 0, .int .i64 0, .int .i64 0], [(0, 29, 3), (3, 23, 8), (11, 3, 1)], .struct⟩ := ⟨by kernel_rfl, by kernel_rfl, by kernel_rfl, by kernel_rfl⟩   -- learn.reader
theorem ti52 : TIok Try.prog 52 ⟨1, 8, [.pointer none], [], .other⟩ := ⟨by kernel_rfl, by kernel_rfl, by kernel_rfl, by kernel_rfl⟩   -- *learn.reader
theorem ti55 : TIok Try.prog 55 ⟨1, 8, [.pointer none], [], .other⟩ := ⟨by kernel_rfl, by kernel_rfl, by kernel_rfl, by kernel_rfl⟩   -- *command.order
theorem ti56 : TIok Try.prog 56 ⟨1, 24, [.slice none 0 0], [], .slice 5⟩ := ⟨by kernel_rfl, by kernel_rfl, by kernel_rfl, by kernel_rfl⟩   -- []uint8
theorem ti58 : TIok Try.prog 58 ⟨9, 88, [.int .i8 0, .int .i64 0, .int .i64 0, .int .i64 0, .int .i64 0, .int .i64 0, .int .i64 0, .int .i8 0, .slice none 0 0], [(0, 38, 8), (8, 56, 1)], .struct⟩ := ⟨by kernel_rfl, by kernel_rfl, by kernel_rfl, by kernel_rfl⟩   -- command.order
theorem ti67 : TIok Try.prog 67 ⟨2, 16, [.int .i64 0, .int .i64 0], [(0, 3, 1), (1, 3, 1)], .struct⟩ := ⟨by kernel_rfl, by kernel_rfl, by kernel_rfl, by kernel_rfl⟩   -- api.Slot
theorem ti69 : TIok Try.prog 69 ⟨1, 8, [.nilFunc], [], .other⟩ := ⟨by kernel_rfl, by kernel_rfl, by kernel_rfl, by kernel_rfl⟩   -- func(int) bool
theorem ti75 : TIok Try.prog 75 ⟨1, 8, [.pointer none], [], .other⟩ := ⟨by kernel_rfl, by kernel_rfl, by kernel_rfl, by kernel_rfl⟩   -- *command.taker
theorem ti77 : TIok Try.prog 77 ⟨2, 24, [.string ByteArray.empty, .bool false], [(0, 9, 1), (1, 4, 1)], .struct⟩ := ⟨by kernel_rfl, by kernel_rfl, by kernel_rfl, by kernel_rfl⟩   -- command.taker
theorem ti80 : TIok Try.prog 80 ⟨1, 8, [.pointer none], [], .other⟩ := ⟨by kernel_rfl, by kernel_rfl, by kernel_rfl, by kernel_rfl⟩   -- *seal.sector
theorem ti82 : TIok Try.prog 82 ⟨2, 32, [.slice none 0 0, .int .i64 0], [(0, 56, 1), (1, 31, 1)], .struct⟩ := ⟨by kernel_rfl, by kernel_rfl, by kernel_rfl, by kernel_rfl⟩   -- seal.bytes
theorem ti84 : TIok Try.prog 84 ⟨3, 40, [.slice none 0 0, .int .i64 0, .int .i8 0], [(0, 82, 2), (2, 34, 1)], .struct⟩ := ⟨by kernel_rfl, by kernel_rfl, by kernel_rfl, by kernel_rfl⟩   -- seal.sector
theorem ti85 : TIok Try.prog 85 ⟨1, 8, [.pointer none], [], .other⟩ := ⟨by kernel_rfl, by kernel_rfl, by kernel_rfl, by kernel_rfl⟩   -- *decided.reader
theorem ti87 : TIok Try.prog 87 ⟨10, 88, [.int .i8 0, .int .i64 0, .int .i64 0, .int .i64 0, .int .i64 0, .int .i64 0, .int .i64 0, .int .i8 0, .string ByteArray.empty, .bool false], [(0, 38, 8), (8, 9, 1), (9, 4, 1)], .struct⟩ := ⟨by kernel_rfl, by kernel_rfl, by kernel_rfl, by kernel_rfl⟩   -- decided.place
theorem ti89 : TIok Try.prog 89 ⟨11, 112, [.int .i8 0, .int .i64 0, .int .i64 0, .int .i64 0, .int .i64 0, .int .i64 0, .int .i64 0, .int .i8 0, .string ByteArray.empty, .bool false, .slice none 0 0], [(0, 87, 10), (10, 24, 1)], .struct⟩ := ⟨by kernel_rfl, by kernel_rfl, by kernel_rfl, by kernel_rfl⟩   -- decided.reader
theorem ti92 : TIok Try.prog 92 ⟨4, 32, [.int .i64 0, .int .i64 0, .int .i64 0, .int .i8 0], [(0, 3, 1), (1, 36, 2), (3, 34, 1)], .struct⟩ := ⟨by kernel_rfl, by kernel_rfl, by kernel_rfl, by kernel_rfl⟩   -- api.Hold
theorem ti94 : TIok Try.prog 94 ⟨1, 8, [.nilFunc], [], .other⟩ := ⟨by kernel_rfl, by kernel_rfl, by kernel_rfl, by kernel_rfl⟩   -- func(*table.book, api.Cmd)
theorem ti95 : TIok Try.prog 95 ⟨6, 48, [.nilFunc, .nilFunc, .nilFunc, .nilFunc, .nilFunc, .nilFunc], [], .arr 6 94⟩ := ⟨by kernel_rfl, by kernel_rfl, by kernel_rfl, by kernel_rfl⟩   -- [6]func(*table.book, api.Cmd)
theorem ti97 : TIok Try.prog 97 ⟨1, 8, [.pointer none], [], .other⟩ := ⟨by kernel_rfl, by kernel_rfl, by kernel_rfl, by kernel_rfl⟩   -- *table.book
theorem ti100 : TIok Try.prog 100 ⟨11, 136, [.slice none 0 0, .slice none 0 0, .slice none 0 0, .int .i64 0, .int .i64 0, .int .i64 0, .int .i64 0, .int .i64 0, .int .i64 0, .int .i64 0, .int .i64 0], [(0, 29, 3), (3, 23, 8)], .struct⟩ := ⟨by kernel_rfl, by kernel_rfl, by kernel_rfl, by kernel_rfl⟩   -- table.book
theorem ti101 : TIok Try.prog 101 ⟨1, 8, [.int .i64 0], [], .int .i64⟩ := ⟨by kernel_rfl, by kernel_rfl, by kernel_rfl, by kernel_rfl⟩   -- num.width
theorem ti107 : TIok Try.prog 107 ⟨2, 16, [.int .i64 0, .int .i64 0], [(0, 3, 1), (1, 3, 1)], .struct⟩ := ⟨by kernel_rfl, by kernel_rfl, by kernel_rfl, by kernel_rfl⟩   -- geo.stretch
theorem ti109 : TIok Try.prog 109 ⟨4, 32, [.int .i64 0, .int .i64 0, .int .i8 0, .int .i64 0], [(0, 107, 2), (2, 34, 1), (3, 3, 1)], .struct⟩ := ⟨by kernel_rfl, by kernel_rfl, by kernel_rfl, by kernel_rfl⟩   -- geo.region
theorem ti115 : TIok Try.prog 115 ⟨1, 8, [.pointer none], [], .other⟩ := ⟨by kernel_rfl, by kernel_rfl, by kernel_rfl, by kernel_rfl⟩   -- *seal.bytes
theorem ti119 : TIok Try.prog 119 ⟨1, 24, [.slice none 0 0], [], .slice 109⟩ := ⟨by kernel_rfl, by kernel_rfl, by kernel_rfl, by kernel_rfl⟩   -- []geo.region
theorem ti124 : TIok Try.prog 124 ⟨1, 8, [.nilFunc], [], .other⟩ := ⟨by kernel_rfl, by kernel_rfl, by kernel_rfl, by kernel_rfl⟩   -- func(api.Slot) bool
theorem ti130 : TIok Try.prog 130 ⟨1, 8, [.nilFunc], [], .other⟩ := ⟨by kernel_rfl, by kernel_rfl, by kernel_rfl, by kernel_rfl⟩   -- func(api.Hold) bool
theorem ti131 : TIok Try.prog 131 ⟨1, 8, [.nilFunc], [], .other⟩ := ⟨by kernel_rfl, by kernel_rfl, by kernel_rfl, by kernel_rfl⟩   -- table.cond
theorem ti135 : TIok Try.prog 135 ⟨1, 8, [.int .u64 0], [], .int .u64⟩ := ⟨by kernel_rfl, by kernel_rfl, by kernel_rfl, by kernel_rfl⟩   -- uint64
theorem ti136 : TIok Try.prog 136 ⟨1, 8, [.int .u64 0], [], .int .u64⟩ := ⟨by kernel_rfl, by kernel_rfl, by kernel_rfl, by kernel_rfl⟩   -- uint
theorem ti137 : TIok Try.prog 137 ⟨1, 8, [.pointer none], [], .other⟩ := ⟨by kernel_rfl, by kernel_rfl, by kernel_rfl, by kernel_rfl⟩   -- *crc.summer
theorem ti140 : TIok Try.prog 140 ⟨1, 4, [.int .u32 0], [], .int .u32⟩ := ⟨by kernel_rfl, by kernel_rfl, by kernel_rfl, by kernel_rfl⟩   -- uint32
theorem ti142 : TIok Try.prog 142 ⟨1, 4, [.int .u32 0], [(0, 140, 1)], .struct⟩ := ⟨by kernel_rfl, by kernel_rfl, by kernel_rfl, by kernel_rfl⟩   -- crc.register
theorem ti143 : TIok Try.prog 143 ⟨16, 64, [.int .u32 0, .int .u32 0, .int .u32 0, .int .u32 0, .int .u32 0, .int .u32 0, .int .u32 0, .int .u32 0, .int .u32 0, .int .u32 0, .int .u32 0, .int .u32 0, .int .u32 0, .int .u32 0, .int .u32 0, .int .u32 0], [], .arr 16 140⟩ := ⟨by kernel_rfl, by kernel_rfl, by kernel_rfl, by kernel_rfl⟩   -- [16]uint32
theorem ti145 : TIok Try.prog 145 ⟨17, 68, [.int .u32 0, .int .u32 0, .int .u32 0, .int .u32 0, .int .u32 0, .int .u32 0, .int .u32 0, .int .u32 0, .int .u32 0, .int .u32 0, .int .u32 0, .int .u32 0, .int .u32 0, .int .u32 0, .int .u32 0, .int .u32 0, .int .u32 0], [(0, 142, 1), (1, 143, 16)], .struct⟩ := ⟨by kernel_rfl, by kernel_rfl, by kernel_rfl, by kernel_rfl⟩   -- crc.summer
theorem ti150 : TIok Try.prog 150 ⟨1, 8, [.pointer none], [], .other⟩ := ⟨by kernel_rfl, by kernel_rfl, by kernel_rfl, by kernel_rfl⟩   -- *[]api.Hold
theorem ti151 : TIok Try.prog 151 ⟨1, 24, [.slice none 0 0], [], .slice 27⟩ := ⟨by kernel_rfl, by kernel_rfl, by kernel_rfl, by kernel_rfl⟩   -- [][]api.Hold
theorem ti157 : TIok Try.prog 157 ⟨1, 8, [.pointer none], [], .other⟩ := ⟨by kernel_rfl, by kernel_rfl, by kernel_rfl, by kernel_rfl⟩   -- *crc.register
theorem ti159 : TIok Try.prog 159 ⟨1, 24, [.slice none 0 0], [], .slice 131⟩ := ⟨by kernel_rfl, by kernel_rfl, by kernel_rfl, by kernel_rfl⟩   -- []table.cond
theorem ti162 : TIok Try.prog 162 ⟨1, 8, [.nilFunc], [], .other⟩ := ⟨by kernel_rfl, by kernel_rfl, by kernel_rfl, by kernel_rfl⟩   -- func(table.cond) bool
theorem ti164 : TIok Try.prog 164 ⟨2, 16, [.int .i64 0, .int .i64 0], [(0, 36, 2)], .struct⟩ := ⟨by kernel_rfl, by kernel_rfl, by kernel_rfl, by kernel_rfl⟩   -- span.blocks
theorem ti170 : TIok Try.prog 170 ⟨4, 32, [.int .i64 0, .int .i64 0, .int .i64 0, .int .i8 0], [(0, 164, 2), (2, 3, 1), (3, 34, 1)], .struct⟩ := ⟨by kernel_rfl, by kernel_rfl, by kernel_rfl, by kernel_rfl⟩   -- span.hold
theorem ti188 : TIok Try.prog 188 ⟨1, 8, [.pointer none], [], .other⟩ := ⟨by kernel_rfl, by kernel_rfl, by kernel_rfl, by kernel_rfl⟩   -- *decided.place
theorem tok : TTok Try.prog tt := TTok.cons ti1 <| TTok.cons ti2 <| TTok.cons ti3 <| TTok.cons ti4 <| TTok.cons ti5 <| TTok.cons ti6 <| TTok.cons ti7 <| TTok.cons ti9 <| TTok.cons ti23 <| TTok.cons ti24 <| TTok.cons ti26 <| TTok.cons ti27 <| TTok.cons ti29 <| TTok.cons ti31 <| TTok.cons ti34 <| TTok.cons ti36 <| TTok.cons ti38 <| TTok.cons ti45 <| TTok.cons ti48 <| TTok.cons ti51 <| TTok.cons ti52 <| TTok.cons ti55 <| TTok.cons ti56 <| TTok.cons ti58 <| TTok.cons ti67 <| TTok.cons ti69 <| TTok.cons ti75 <| TTok.cons ti77 <| TTok.cons ti80 <| TTok.cons ti82 <| TTok.cons ti84 <| TTok.cons ti85 <| TTok.cons ti87 <| TTok.cons ti89 <| TTok.cons ti92 <| TTok.cons ti94 <| TTok.cons ti95 <| TTok.cons ti97 <| TTok.cons ti100 <| TTok.cons ti101 <| TTok.cons ti107 <| TTok.cons ti109 <| TTok.cons ti115 <| TTok.cons ti119 <| TTok.cons ti124 <| TTok.cons ti130 <| TTok.cons ti131 <| TTok.cons ti135 <| TTok.cons ti136 <| TTok.cons ti137 <| TTok.cons ti140 <| TTok.cons ti142 <| TTok.cons ti143 <| TTok.cons ti145 <| TTok.cons ti150 <| TTok.cons ti151 <| TTok.cons ti157 <| TTok.cons ti159 <| TTok.cons ti162 <| TTok.cons ti164 <| TTok.cons ti170 <| TTok.cons ti188 <| TTok.nil _

theorem fnok3 : FnOk Try.prog 3 := ⟨_, Try.func3, by kernel_rfl, by kernel_rfl⟩
theorem fnok4 : FnOk Try.prog 4 := ⟨_, Try.func4, by kernel_rfl, by kernel_rfl⟩
theorem fnok5 : FnOk Try.prog 5 := ⟨_, Try.func5, by kernel_rfl, by kernel_rfl⟩
theorem fnok6 : FnOk Try.prog 6 := ⟨_, Try.func6, by kernel_rfl, by kernel_rfl⟩
theorem fnok7 : FnOk Try.prog 7 := ⟨_, Try.func7, by kernel_rfl, by kernel_rfl⟩
theorem fnok8 : FnOk Try.prog 8 := ⟨_, Try.func8, by kernel_rfl, by kernel_rfl⟩
theorem fnok9 : FnOk Try.prog 9 := ⟨_, Try.func9, by kernel_rfl, by kernel_rfl⟩
theorem fnok10 : FnOk Try.prog 10 := ⟨_, Try.func10, by kernel_rfl, by kernel_rfl⟩
theorem fnok11 : FnOk Try.prog 11 := ⟨_, Try.func11, by kernel_rfl, by kernel_rfl⟩
theorem fnok12 : FnOk Try.prog 12 := ⟨_, Try.func12, by kernel_rfl, by kernel_rfl⟩
theorem fnok13 : FnOk Try.prog 13 := ⟨_, Try.func13, by kernel_rfl, by kernel_rfl⟩
theorem fnok14 : FnOk Try.prog 14 := ⟨_, Try.func14, by kernel_rfl, by kernel_rfl⟩
theorem fnok15 : FnOk Try.prog 15 := ⟨_, Try.func15, by kernel_rfl, by kernel_rfl⟩
theorem fnok16 : FnOk Try.prog 16 := ⟨_, Try.func16, by kernel_rfl, by kernel_rfl⟩
theorem fnok17 : FnOk Try.prog 17 := ⟨_, Try.func17, by kernel_rfl, by kernel_rfl⟩
theorem fnok18 : FnOk Try.prog 18 := ⟨_, Try.func18, by kernel_rfl, by kernel_rfl⟩
theorem fnok19 : FnOk Try.prog 19 := ⟨_, Try.func19, by kernel_rfl, by kernel_rfl⟩
theorem fnok20 : FnOk Try.prog 20 := ⟨_, Try.func20, by kernel_rfl, by kernel_rfl⟩
theorem fnok21 : FnOk Try.prog 21 := ⟨_, Try.func21, by kernel_rfl, by kernel_rfl⟩
theorem fnok22 : FnOk Try.prog 22 := ⟨_, Try.func22, by kernel_rfl, by kernel_rfl⟩
theorem fnok23 : FnOk Try.prog 23 := ⟨_, Try.func23, by kernel_rfl, by kernel_rfl⟩
theorem fnok24 : FnOk Try.prog 24 := ⟨_, Try.func24, by kernel_rfl, by kernel_rfl⟩
theorem fnok25 : FnOk Try.prog 25 := ⟨_, Try.func25, by kernel_rfl, by kernel_rfl⟩
theorem fnok26 : FnOk Try.prog 26 := ⟨_, Try.func26, by kernel_rfl, by kernel_rfl⟩
theorem fnok27 : FnOk Try.prog 27 := ⟨_, Try.func27, by kernel_rfl, by kernel_rfl⟩
theorem fnok28 : FnOk Try.prog 28 := ⟨_, Try.func28, by kernel_rfl, by kernel_rfl⟩
theorem fnok29 : FnOk Try.prog 29 := ⟨_, Try.func29, by kernel_rfl, by kernel_rfl⟩
theorem fnok30 : FnOk Try.prog 30 := ⟨_, Try.func30, by kernel_rfl, by kernel_rfl⟩
theorem fnok31 : FnOk Try.prog 31 := ⟨_, Try.func31, by kernel_rfl, by kernel_rfl⟩
theorem fnok32 : FnOk Try.prog 32 := ⟨_, Try.func32, by kernel_rfl, by kernel_rfl⟩
theorem fnok33 : FnOk Try.prog 33 := ⟨_, Try.func33, by kernel_rfl, by kernel_rfl⟩
theorem fnok34 : FnOk Try.prog 34 := ⟨_, Try.func34, by kernel_rfl, by kernel_rfl⟩
theorem fnok35 : FnOk Try.prog 35 := ⟨_, Try.func35, by kernel_rfl, by kernel_rfl⟩
theorem fnok36 : FnOk Try.prog 36 := ⟨_, Try.func36, by kernel_rfl, by kernel_rfl⟩
theorem fnok37 : FnOk Try.prog 37 := ⟨_, Try.func37, by kernel_rfl, by kernel_rfl⟩
theorem fnok38 : FnOk Try.prog 38 := ⟨_, Try.func38, by kernel_rfl, by kernel_rfl⟩
theorem fnok39 : FnOk Try.prog 39 := ⟨_, Try.func39, by kernel_rfl, by kernel_rfl⟩
theorem fnok40 : FnOk Try.prog 40 := ⟨_, Try.func40, by kernel_rfl, by kernel_rfl⟩
theorem fnok41 : FnOk Try.prog 41 := ⟨_, Try.func41, by kernel_rfl, by kernel_rfl⟩
theorem fnok42 : FnOk Try.prog 42 := ⟨_, Try.func42, by kernel_rfl, by kernel_rfl⟩
theorem fnok43 : FnOk Try.prog 43 := ⟨_, Try.func43, by kernel_rfl, by kernel_rfl⟩
theorem fnok44 : FnOk Try.prog 44 := ⟨_, Try.func44, by kernel_rfl, by kernel_rfl⟩
theorem fnok45 : FnOk Try.prog 45 := ⟨_, Try.func45, by kernel_rfl, by kernel_rfl⟩
theorem fnok46 : FnOk Try.prog 46 := ⟨_, Try.func46, by kernel_rfl, by kernel_rfl⟩
theorem fnok47 : FnOk Try.prog 47 := ⟨_, Try.func47, by kernel_rfl, by kernel_rfl⟩
theorem fnok48 : FnOk Try.prog 48 := ⟨_, Try.func48, by kernel_rfl, by kernel_rfl⟩
theorem fnok49 : FnOk Try.prog 49 := ⟨_, Try.func49, by kernel_rfl, by kernel_rfl⟩
theorem fnok50 : FnOk Try.prog 50 := ⟨_, Try.func50, by kernel_rfl, by kernel_rfl⟩
theorem fnok51 : FnOk Try.prog 51 := ⟨_, Try.func51, by kernel_rfl, by kernel_rfl⟩
theorem fnok52 : FnOk Try.prog 52 := ⟨_, Try.func52, by kernel_rfl, by kernel_rfl⟩
theorem fnok53 : FnOk Try.prog 53 := ⟨_, Try.func53, by kernel_rfl, by kernel_rfl⟩
theorem fnok54 : FnOk Try.prog 54 := ⟨_, Try.func54, by kernel_rfl, by kernel_rfl⟩
theorem fnok55 : FnOk Try.prog 55 := ⟨_, Try.func55, by kernel_rfl, by kernel_rfl⟩
theorem fnok56 : FnOk Try.prog 56 := ⟨_, Try.func56, by kernel_rfl, by kernel_rfl⟩
theorem fnok57 : FnOk Try.prog 57 := ⟨_, Try.func57, by kernel_rfl, by kernel_rfl⟩
theorem fnok58 : FnOk Try.prog 58 := ⟨_, Try.func58, by kernel_rfl, by kernel_rfl⟩
theorem fnok59 : FnOk Try.prog 59 := ⟨_, Try.func59, by kernel_rfl, by kernel_rfl⟩
theorem fnok60 : FnOk Try.prog 60 := ⟨_, Try.func60, by kernel_rfl, by kernel_rfl⟩
theorem fnok61 : FnOk Try.prog 61 := ⟨_, Try.func61, by kernel_rfl, by kernel_rfl⟩
theorem fnok62 : FnOk Try.prog 62 := ⟨_, Try.func62, by kernel_rfl, by kernel_rfl⟩
theorem fnok63 : FnOk Try.prog 63 := ⟨_, Try.func63, by kernel_rfl, by kernel_rfl⟩
theorem fnok64 : FnOk Try.prog 64 := ⟨_, Try.func64, by kernel_rfl, by kernel_rfl⟩
theorem fnok65 : FnOk Try.prog 65 := ⟨_, Try.func65, by kernel_rfl, by kernel_rfl⟩
theorem fnok66 : FnOk Try.prog 66 := ⟨_, Try.func66, by kernel_rfl, by kernel_rfl⟩
theorem fnok67 : FnOk Try.prog 67 := ⟨_, Try.func67, by kernel_rfl, by kernel_rfl⟩
theorem fnok68 : FnOk Try.prog 68 := ⟨_, Try.func68, by kernel_rfl, by kernel_rfl⟩
theorem fnok69 : FnOk Try.prog 69 := ⟨_, Try.func69, by kernel_rfl, by kernel_rfl⟩
theorem fnok70 : FnOk Try.prog 70 := ⟨_, Try.func70, by kernel_rfl, by kernel_rfl⟩
theorem fnok71 : FnOk Try.prog 71 := ⟨_, Try.func71, by kernel_rfl, by kernel_rfl⟩
theorem fnok72 : FnOk Try.prog 72 := ⟨_, Try.func72, by kernel_rfl, by kernel_rfl⟩
theorem fnok73 : FnOk Try.prog 73 := ⟨_, Try.func73, by kernel_rfl, by kernel_rfl⟩
theorem fnok74 : FnOk Try.prog 74 := ⟨_, Try.func74, by kernel_rfl, by kernel_rfl⟩
theorem fnok75 : FnOk Try.prog 75 := ⟨_, Try.func75, by kernel_rfl, by kernel_rfl⟩
theorem fnok76 : FnOk Try.prog 76 := ⟨_, Try.func76, by kernel_rfl, by kernel_rfl⟩
theorem fnok77 : FnOk Try.prog 77 := ⟨_, Try.func77, by kernel_rfl, by kernel_rfl⟩
theorem fnok78 : FnOk Try.prog 78 := ⟨_, Try.func78, by kernel_rfl, by kernel_rfl⟩
theorem fnok79 : FnOk Try.prog 79 := ⟨_, Try.func79, by kernel_rfl, by kernel_rfl⟩
theorem fnok80 : FnOk Try.prog 80 := ⟨_, Try.func80, by kernel_rfl, by kernel_rfl⟩
theorem fnok81 : FnOk Try.prog 81 := ⟨_, Try.func81, by kernel_rfl, by kernel_rfl⟩
theorem fnok82 : FnOk Try.prog 82 := ⟨_, Try.func82, by kernel_rfl, by kernel_rfl⟩
theorem fnok83 : FnOk Try.prog 83 := ⟨_, Try.func83, by kernel_rfl, by kernel_rfl⟩
theorem fnok84 : FnOk Try.prog 84 := ⟨_, Try.func84, by kernel_rfl, by kernel_rfl⟩
theorem fnok85 : FnOk Try.prog 85 := ⟨_, Try.func85, by kernel_rfl, by kernel_rfl⟩
theorem fnok86 : FnOk Try.prog 86 := ⟨_, Try.func86, by kernel_rfl, by kernel_rfl⟩
theorem fnok87 : FnOk Try.prog 87 := ⟨_, Try.func87, by kernel_rfl, by kernel_rfl⟩
theorem fnok88 : FnOk Try.prog 88 := ⟨_, Try.func88, by kernel_rfl, by kernel_rfl⟩
theorem fnok89 : FnOk Try.prog 89 := ⟨_, Try.func89, by kernel_rfl, by kernel_rfl⟩
theorem fnok90 : FnOk Try.prog 90 := ⟨_, Try.func90, by kernel_rfl, by kernel_rfl⟩
theorem fnok91 : FnOk Try.prog 91 := ⟨_, Try.func91, by kernel_rfl, by kernel_rfl⟩
theorem fnok92 : FnOk Try.prog 92 := ⟨_, Try.func92, by kernel_rfl, by kernel_rfl⟩
theorem fnok93 : FnOk Try.prog 93 := ⟨_, Try.func93, by kernel_rfl, by kernel_rfl⟩
theorem fnok94 : FnOk Try.prog 94 := ⟨_, Try.func94, by kernel_rfl, by kernel_rfl⟩
theorem fnok95 : FnOk Try.prog 95 := ⟨_, Try.func95, by kernel_rfl, by kernel_rfl⟩
theorem fnok96 : FnOk Try.prog 96 := ⟨_, Try.func96, by kernel_rfl, by kernel_rfl⟩
theorem fnok97 : FnOk Try.prog 97 := ⟨_, Try.func97, by kernel_rfl, by kernel_rfl⟩
theorem fnok98 : FnOk Try.prog 98 := ⟨_, Try.func98, by kernel_rfl, by kernel_rfl⟩
theorem fnok99 : FnOk Try.prog 99 := ⟨_, Try.func99, by kernel_rfl, by kernel_rfl⟩
theorem fnok100 : FnOk Try.prog 100 := ⟨_, Try.func100, by kernel_rfl, by kernel_rfl⟩
theorem fnok101 : FnOk Try.prog 101 := ⟨_, Try.func101, by kernel_rfl, by kernel_rfl⟩
theorem mixed : Try.prog.follows .mixedOrders = true := by kernel_rfl
end Go.Proofs.Ythmejhpfhkddiaa
