import Derived.Test.YtikdaehmaaogdaaEng27
import Derived.Test.YtikdaehmaaogdaaProg
import Derived.KernelRfl
/- The types' table of this program, and that its functions have bodies. -/
set_option linter.unusedVariables false
namespace Go.Proofs.Ytikdaehmaaogdaa
open Go Go.Eng
def tt : List (Nat × TI) := [
  (1, ⟨1, 8, [.nilFunc], [], .other⟩),
  (2, ⟨1, 8, [.int .i64 0], [], .int .i64⟩),
  (3, ⟨1, 8, [.int .i64 0], [], .int .i64⟩),
  (4, ⟨1, 1, [.bool false], [], .bool⟩),
  (5, ⟨1, 1, [.int .u8 0], [], .int .u8⟩),
  (6, ⟨1, 1, [.int .u8 0], [], .int .u8⟩),
  (7, ⟨4, 24, [.int .i64 0, .int .i64 0, .bool false, .int .u8 0], [(0, 2, 1), (1, 3, 1), (2, 4, 1), (3, 6, 1)], .struct⟩),
  (8, ⟨4, 24, [.int .i64 0, .int .i64 0, .bool false, .int .u8 0], [(0, 2, 1), (1, 3, 1), (2, 4, 1), (3, 6, 1)], .struct⟩),
  (9, ⟨1, 16, [.string ByteArray.empty], [], .str⟩),
  (23, ⟨8, 64, [.int .i64 0, .int .i64 0, .int .i64 0, .int .i64 0, .int .i64 0, .int .i64 0, .int .i64 0, .int .i64 0], [(0, 3, 1), (1, 3, 1), (2, 3, 1), (3, 3, 1), (4, 3, 1), (5, 3, 1), (6, 3, 1), (7, 3, 1)], .struct⟩),
  (25, ⟨6, 56, [.int .i64 0, .int .i64 0, .int .i64 0, .int .i64 0, .string ByteArray.empty, .int .i64 0], [(0, 3, 1), (1, 3, 1), (2, 3, 1), (3, 3, 1), (4, 9, 1), (5, 3, 1)], .struct⟩),
  (26, ⟨1, 1, [.int .i8 0], [], .int .i8⟩),
  (27, ⟨1, 24, [.slice none 0 0], [], .slice 25⟩),
  (28, ⟨1, 24, [.slice none 0 0], [], .slice 113⟩),
  (30, ⟨8, 96, [.int .i64 0, .int .i64 0, .int .i8 0, .int .i64 0, .slice none 0 0, .slice none 0 0, .int .i64 0, .int .i64 0], [(0, 3, 1), (1, 3, 1), (2, 26, 1), (3, 3, 1), (4, 27, 1), (5, 28, 1), (6, 3, 1), (7, 3, 1)], .struct⟩),
  (31, ⟨1, 8, [.int .i64 0], [], .int .i64⟩),
  (44, ⟨1, 24, [.slice none 0 0], [], .slice 9⟩),
  (45, ⟨1, 24, [.slice none 0 0], [], .slice 28⟩),
  (46, ⟨1, 24, [.slice none 0 0], [], .slice 3⟩),
  (48, ⟨5, 104, [.slice none 0 0, .slice none 0 0, .slice none 0 0, .int .i64 0, .slice none 0 0], [(0, 44, 1), (1, 45, 1), (2, 46, 1), (3, 3, 1), (4, 46, 1)], .struct⟩),
  (52, ⟨1, 24, [.slice none 0 0], [], .slice 58⟩),
  (58, ⟨1, 24, [.slice none 0 0], [], .slice 117⟩),
  (75, ⟨1, 24, [.slice none 0 0], [], .slice 81⟩),
  (81, ⟨4, 40, [.int .i8 0, .int .i64 0, .string ByteArray.empty, .int .i64 0], [(0, 26, 1), (1, 3, 1), (2, 9, 1), (3, 3, 1)], .struct⟩),
  (83, ⟨3, 40, [.int .i64 0, .int .i64 0, .slice none 0 0], [(0, 3, 1), (1, 3, 1), (2, 44, 1)], .struct⟩),
  (101, ⟨1, 8, [.nilFunc], [], .other⟩),
  (102, ⟨1, 8, [.nilFunc], [], .other⟩),
  (104, ⟨2, 16, [.nilFunc, .nilFunc], [(0, 101, 1), (1, 102, 1)], .struct⟩),
  (106, ⟨1, 1, [.int .i8 0], [], .int .i8⟩),
  (108, ⟨1, 8, [.pointer none], [], .other⟩),
  (110, ⟨16, 160, [.int .i64 0, .int .i64 0, .int .i8 0, .int .i64 0, .slice none 0 0, .slice none 0 0, .int .i64 0, .int .i64 0, .int .i64 0, .int .i64 0, .int .i64 0, .int .i64 0, .int .i64 0, .int .i64 0, .int .i64 0, .int .i64 0], [(0, 30, 8), (8, 23, 8)], .struct⟩),
  (113, ⟨2, 24, [.int .i64 0, .string ByteArray.empty], [(0, 3, 1), (1, 9, 1)], .struct⟩),
  (115, ⟨1, 8, [.nilFunc], [], .other⟩),
  (117, ⟨2, 24, [.int .i64 0, .string ByteArray.empty], [(0, 3, 1), (1, 9, 1)], .struct⟩),
  (119, ⟨10, 96, [.int .i64 0, .int .i64 0, .int .i64 0, .int .i64 0, .int .i64 0, .int .i64 0, .int .i64 0, .int .i64 0, .slice none 0 0, .int .i64 0], [(0, 23, 8), (8, 44, 1), (9, 3, 1)], .struct⟩),
  (131, ⟨1, 8, [.map none], [], .other⟩),
  (138, ⟨4, 48, [.slice none 0 0, .int .i64 0, .int .i64 0, .int .i8 0], [(0, 28, 1), (1, 3, 1), (2, 3, 1), (3, 26, 1)], .struct⟩),
  (150, ⟨1, 24, [.slice none 0 0], [], .slice 5⟩),
  (153, ⟨1, 8, [.pointer none], [], .other⟩),
  (155, ⟨11, 104, [.int .i64 0, .int .i64 0, .slice none 0 0, .int .i64 0, .int .i64 0, .int .i64 0, .int .i64 0, .int .i64 0, .int .i64 0, .int .i64 0, .int .i64 0], [(0, 83, 3), (3, 23, 8)], .struct⟩),
  (162, ⟨8, 64, [.nilFunc, .nilFunc, .nilFunc, .nilFunc, .nilFunc, .nilFunc, .nilFunc, .nilFunc], [], .arr 4 104⟩),
  (171, ⟨1, 8, [.pointer none], [], .other⟩),
  (173, ⟨5, 104, [.slice none 0 0, .slice none 0 0, .slice none 0 0, .int .i64 0, .slice none 0 0], [(0, 48, 5)], .struct⟩),
  (176, ⟨2, 16, [.int .i64 0, .int .i64 0], [(0, 3, 1), (1, 3, 1)], .struct⟩),
  (178, ⟨4, 32, [.int .i64 0, .int .i64 0, .int .i8 0, .int .i64 0], [(0, 176, 2), (2, 26, 1), (3, 3, 1)], .struct⟩),
  (180, ⟨1, 8, [.pointer none], [], .other⟩),
  (182, ⟨2, 32, [.pointer none, .slice none 0 0], [(0, 180, 1), (1, 150, 1)], .struct⟩),
  (194, ⟨1, 8, [.int .u64 0], [], .int .u64⟩),
  (198, ⟨1, 24, [.slice none 0 0], [(0, 58, 1)], .struct⟩),
  (202, ⟨1, 24, [.slice none 0 0], [], .slice 178⟩),
  (204, ⟨1, 8, [.pointer none], [], .other⟩),
  (209, ⟨1, 8, [.pointer none], [], .other⟩),
  (211, ⟨6, 56, [.int .i64 0, .int .i64 0, .int .i64 0, .int .i64 0, .string ByteArray.empty, .int .i64 0], [(0, 25, 6)], .struct⟩),
  (212, ⟨1, 8, [.pointer none], [], .other⟩),
  (214, ⟨1, 8, [.nilFunc], [], .other⟩),
  (216, ⟨1, 8, [.nilFunc], [], .other⟩),
  (217, ⟨1, 8, [.map none], [], .other⟩),
  (222, ⟨1, 24, [.slice none 0 0], [], .slice 27⟩),
  (224, ⟨1, 8, [.int .i64 0], [], .int .i64⟩),
  (226, ⟨1, 8, [.pointer none], [], .other⟩),
  (228, ⟨2, 32, [.slice none 0 0, .int .i64 0], [(0, 150, 1), (1, 31, 1)], .struct⟩),
  (230, ⟨3, 40, [.slice none 0 0, .int .i64 0, .int .i8 0], [(0, 228, 2), (2, 26, 1)], .struct⟩),
  (233, ⟨1, 8, [.pointer none], [], .other⟩),
  (235, ⟨9, 88, [.slice none 0 0, .int .i64 0, .int .i64 0, .int .i64 0, .int .i64 0, .int .i64 0, .int .i64 0, .int .i64 0, .int .i64 0], [(0, 198, 1), (1, 23, 8)], .struct⟩),
  (236, ⟨1, 8, [.pointer none], [], .other⟩),
  (237, ⟨1, 8, [.pointer none], [], .other⟩),
  (240, ⟨1, 4, [.int .u32 0], [], .int .u32⟩),
  (242, ⟨1, 4, [.int .u32 0], [(0, 240, 1)], .struct⟩),
  (243, ⟨16, 64, [.int .u32 0, .int .u32 0, .int .u32 0, .int .u32 0, .int .u32 0, .int .u32 0, .int .u32 0, .int .u32 0, .int .u32 0, .int .u32 0, .int .u32 0, .int .u32 0, .int .u32 0, .int .u32 0, .int .u32 0, .int .u32 0], [], .arr 16 240⟩),
  (245, ⟨17, 68, [.int .u32 0, .int .u32 0, .int .u32 0, .int .u32 0, .int .u32 0, .int .u32 0, .int .u32 0, .int .u32 0, .int .u32 0, .int .u32 0, .int .u32 0, .int .u32 0, .int .u32 0, .int .u32 0, .int .u32 0, .int .u32 0, .int .u32 0], [(0, 242, 1), (1, 243, 16)], .struct⟩),
  (246, ⟨1, 8, [.pointer none], [], .other⟩),
  (247, ⟨1, 8, [.int .u64 0], [], .int .u64⟩)]

theorem ti1 : TIok Try.prog 1 ⟨1, 8, [.nilFunc], [], .other⟩ := ⟨by kernel_rfl, by kernel_rfl, by kernel_rfl, by kernel_rfl⟩   -- func()
theorem ti2 : TIok Try.prog 2 ⟨1, 8, [.int .i64 0], [], .int .i64⟩ := ⟨by kernel_rfl, by kernel_rfl, by kernel_rfl, by kernel_rfl⟩   -- int64
theorem ti3 : TIok Try.prog 3 ⟨1, 8, [.int .i64 0], [], .int .i64⟩ := ⟨by kernel_rfl, by kernel_rfl, by kernel_rfl, by kernel_rfl⟩   -- int
theorem ti4 : TIok Try.prog 4 ⟨1, 1, [.bool false], [], .bool⟩ := ⟨by kernel_rfl, by kernel_rfl, by kernel_rfl, by kernel_rfl⟩   -- bool
theorem ti5 : TIok Try.prog 5 ⟨1, 1, [.int .u8 0], [], .int .u8⟩ := ⟨by kernel_rfl, by kernel_rfl, by kernel_rfl, by kernel_rfl⟩   -- uint8
theorem ti6 : TIok Try.prog 6 ⟨1, 1, [.int .u8 0], [], .int .u8⟩ := ⟨by kernel_rfl, by kernel_rfl, by kernel_rfl, by kernel_rfl⟩   -- abi.BoundsErrorCode
theorem ti7 : TIok Try.prog 7 ⟨4, 24, [.int .i64 0, .int .i64 0, .bool false, .int .u8 0], [(0, 2, 1), (1, 3, 1), (2, 4, 1), (3, 6, 1)], .struct⟩ := ⟨by kernel_rfl, by kernel_rfl, by kernel_rfl, by kernel_rfl⟩   -- struct { x int64; y int; signed bool; code abi.BoundsErrorCode }
theorem ti8 : TIok Try.prog 8 ⟨4, 24, [.int .i64 0, .int .i64 0, .bool false, .int .u8 0], [(0, 2, 1), (1, 3, 1), (2, 4, 1), (3, 6, 1)], .struct⟩ := ⟨by kernel_rfl, by kernel_rfl, by kernel_rfl, by kernel_rfl⟩   -- runtime.boundsError
theorem ti9 : TIok Try.prog 9 ⟨1, 16, [.string ByteArray.empty], [], .str⟩ := ⟨by kernel_rfl, by kernel_rfl, by kernel_rfl, by kernel_rfl⟩   -- string
theorem ti23 : TIok Try.prog 23 ⟨8, 64, [.int .i64 0, .int .i64 0, .int .i64 0, .int .i64 0, .int .i64 0, .int .i64 0, .int .i64 0, .int .i64 0], [(0, 3, 1), (1, 3, 1), (2, 3, 1), (3, 3, 1), (4, 3, 1), (5, 3, 1), (6, 3, 1), (7, 3, 1)], .struct⟩ := ⟨by kernel_rfl, by kernel_rfl, by kernel_rfl, by kernel_rfl⟩   -- api.Geo
theorem ti25 : TIok Try.prog 25 ⟨6, 56, [.int .i64 0, .int .i64 0, .int .i64 0, .int .i64 0, .string ByteArray.empty, .int .i64 0], [(0, 3, 1), (1, 3, 1), (2, 3, 1), (3, 3, 1), (4, 9, 1), (5, 3, 1)], .struct⟩ := ⟨by kernel_rfl, by kernel_rfl, by kernel_rfl, by kernel_rfl⟩   -- api.Record
theorem ti26 : TIok Try.prog 26 ⟨1, 1, [.int .i8 0], [], .int .i8⟩ := ⟨by kernel_rfl, by kernel_rfl, by kernel_rfl, by kernel_rfl⟩   -- int8
theorem ti27 : TIok Try.prog 27 ⟨1, 24, [.slice none 0 0], [], .slice 25⟩ := ⟨by kernel_rfl, by kernel_rfl, by kernel_rfl, by kernel_rfl⟩   -- []api.Record
theorem ti28 : TIok Try.prog 28 ⟨1, 24, [.slice none 0 0], [], .slice 113⟩ := ⟨by kernel_rfl, by kernel_rfl, by kernel_rfl, by kernel_rfl⟩   -- []api.Cell
theorem ti30 : TIok Try.prog 30 ⟨8, 96, [.int .i64 0, .int .i64 0, .int .i8 0, .int .i64 0, .slice none 0 0, .slice none 0 0, .int .i64 0, .int .i64 0], [(0, 3, 1), (1, 3, 1), (2, 26, 1), (3, 3, 1), (4, 27, 1), (5, 28, 1), (6, 3, 1), (7, 3, 1)], .struct⟩ := ⟨by kernel_rfl, by kernel_rfl, by kernel_rfl, by kernel_rfl⟩   -- api.Replaying
theorem ti31 : TIok Try.prog 31 ⟨1, 8, [.int .i64 0], [], .int .i64⟩ := ⟨by kernel_rfl, by kernel_rfl, by kernel_rfl, by kernel_rfl⟩   -- api.Errno
theorem ti44 : TIok Try.prog 44 ⟨1, 24, [.slice none 0 0], [], .slice 9⟩ := ⟨by kernel_rfl, by kernel_rfl, by kernel_rfl, by kernel_rfl⟩   -- []string
theorem ti45 : TIok Try.prog 45 ⟨1, 24, [.slice none 0 0], [], .slice 28⟩ := ⟨by kernel_rfl, by kernel_rfl, by kernel_rfl, by kernel_rfl⟩   -- [][]api.Cell
theorem ti46 : TIok Try.prog 46 ⟨1, 24, [.slice none 0 0], [], .slice 3⟩ := ⟨by kernel_rfl, by kernel_rfl, by kernel_rfl, by kernel_rfl⟩   -- []int
theorem ti48 : TIok Try.prog 48 ⟨5, 104, [.slice none 0 0, .slice none 0 0, .slice none 0 0, .int .i64 0, .slice none 0 0], [(0, 44, 1), (1, 45, 1), (2, 46, 1), (3, 3, 1), (4, 46, 1)], .struct⟩ := ⟨by kernel_rfl, by kernel_rfl, by kernel_rfl, by kernel_rfl⟩   -- api.Device
theorem ti52 : TIok Try.prog 52 ⟨1, 24, [.slice none 0 0], [], .slice 58⟩ := ⟨by kernel_rfl, by kernel_rfl, by kernel_rfl, by kernel_rfl⟩   -- [][]api.Block
theorem ti58 : TIok Try.prog 58 ⟨1, 24, [.slice none 0 0], [], .slice 117⟩ := ⟨by kernel_rfl, by kernel_rfl, by kernel_rfl, by kernel_rfl⟩   -- []api.Block
theorem ti75 : TIok Try.prog 75 ⟨1, 24, [.slice none 0 0], [], .slice 81⟩ := ⟨by kernel_rfl, by kernel_rfl, by kernel_rfl, by kernel_rfl⟩   -- []api.Act
theorem ti81 : TIok Try.prog 81 ⟨4, 40, [.int .i8 0, .int .i64 0, .string ByteArray.empty, .int .i64 0], [(0, 26, 1), (1, 3, 1), (2, 9, 1), (3, 3, 1)], .struct⟩ := ⟨by kernel_rfl, by kernel_rfl, by kernel_rfl, by kernel_rfl⟩   -- api.Act
theorem ti83 : TIok Try.prog 83 ⟨3, 40, [.int .i64 0, .int .i64 0, .slice none 0 0], [(0, 3, 1), (1, 3, 1), (2, 44, 1)], .struct⟩ := ⟨by kernel_rfl, by kernel_rfl, by kernel_rfl, by kernel_rfl⟩   -- api.Fetching
theorem ti101 : TIok Try.prog 101 ⟨1, 8, [.nilFunc], [], .other⟩ := ⟨by kernel_rfl, by kernel_rfl, by kernel_rfl, by kernel_rfl⟩   -- func(*replay.walk) api.Act
theorem ti102 : TIok Try.prog 102 ⟨1, 8, [.nilFunc], [], .other⟩ := ⟨by kernel_rfl, by kernel_rfl, by kernel_rfl, by kernel_rfl⟩   -- func(*replay.walk, string) api.Errno
theorem ti104 : TIok Try.prog 104 ⟨2, 16, [.nilFunc, .nilFunc], [(0, 101, 1), (1, 102, 1)], .struct⟩ := ⟨by kernel_rfl, by kernel_rfl, by kernel_rfl, by kernel_rfl⟩   -- replay.deed
theorem ti106 : TIok Try.prog 106 ⟨1, 1, [.int .i8 0], [], .int .i8⟩ := ⟨by kernel_rfl, by kernel_rfl, by kernel_rfl, by kernel_rfl⟩   -- replay.place
theorem ti108 : TIok Try.prog 108 ⟨1, 8, [.pointer none], [], .other⟩ := ⟨by kernel_rfl, by kernel_rfl, by kernel_rfl, by kernel_rfl⟩   -- *replay.walk
theorem ti110 : TIok Try.prog 110 ⟨16, 160, [.int .i64 0, .int .i64 0, .int .i8 0, .int .i64 0, .slice none 0 0, .slice none 0 0, .int .i64 0, .int .i64 0, .int .i64 0, .int .i64 0, .int .i64 0, .int .i64 0, .int .i64 0, .int .i64 0, .int .i64 0, .int .i64 0], [(0, 30, 8), (8, 23, 8)], .struct⟩ := ⟨by kernel_rfl, by kernel_rfl, by kernel_rfl, by kernel_rfl⟩   -- replay.walk
theorem ti113 : TIok Try.prog 113 ⟨2, 24, [.int .i64 0, .string ByteArray.empty], [(0, 3, 1), (1, 9, 1)], .struct⟩ := ⟨by kernel_rfl, by kernel_rfl, by kernel_rfl, by kernel_rfl⟩   -- api.Cell
theorem ti115 : TIok Try.prog 115 ⟨1, 8, [.nilFunc], [], .other⟩ := ⟨by kernel_rfl, by kernel_rfl, by kernel_rfl, by kernel_rfl⟩   -- func(api.Record) bool
theorem ti117 : TIok Try.prog 117 ⟨2, 24, [.int .i64 0, .string ByteArray.empty], [(0, 3, 1), (1, 9, 1)], .struct⟩ := ⟨by kernel_rfl, by kernel_rfl, by kernel_rfl, by kernel_rfl⟩   -- api.Block
theorem ti119 : TIok Try.prog 119 ⟨10, 96, [.int .i64 0, .int .i64 0, .int .i64 0, .int .i64 0, .int .i64 0, .int .i64 0, .int .i64 0, .int .i64 0, .slice none 0 0, .int .i64 0], [(0, 23, 8), (8, 44, 1), (9, 3, 1)], .struct⟩ := ⟨by kernel_rfl, by kernel_rfl, by kernel_rfl, by kernel_rfl⟩   -- scan.journal
theorem ti131 : TIok Try.prog 131 ⟨1, 8, [.map none], [], .other⟩ := ⟨by kernel_rfl, by kernel_rfl, by kernel_rfl, by kernel_rfl⟩   -- scan.texts
theorem ti138 : TIok Try.prog 138 ⟨4, 48, [.slice none 0 0, .int .i64 0, .int .i64 0, .int .i8 0], [(0, 28, 1), (1, 3, 1), (2, 3, 1), (3, 26, 1)], .struct⟩ := ⟨by kernel_rfl, by kernel_rfl, by kernel_rfl, by kernel_rfl⟩   -- api.Settling
theorem ti150 : TIok Try.prog 150 ⟨1, 24, [.slice none 0 0], [], .slice 5⟩ := ⟨by kernel_rfl, by kernel_rfl, by kernel_rfl, by kernel_rfl⟩   -- []uint8
theorem ti153 : TIok Try.prog 153 ⟨1, 8, [.pointer none], [], .other⟩ := ⟨by kernel_rfl, by kernel_rfl, by kernel_rfl, by kernel_rfl⟩   -- *fetch.way
theorem ti155 : TIok Try.prog 155 ⟨11, 104, [.int .i64 0, .int .i64 0, .slice none 0 0, .int .i64 0, .int .i64 0, .int .i64 0, .int .i64 0, .int .i64 0, .int .i64 0, .int .i64 0, .int .i64 0], [(0, 83, 3), (3, 23, 8)], .struct⟩ := ⟨by kernel_rfl, by kernel_rfl, by kernel_rfl, by kernel_rfl⟩   -- fetch.way
theorem ti162 : TIok Try.prog 162 ⟨8, 64, [.nilFunc, .nilFunc, .nilFunc, .nilFunc, .nilFunc, .nilFunc, .nilFunc, .nilFunc], [], .arr 4 104⟩ := ⟨by kernel_rfl, by kernel_rfl, by kernel_rfl, by kernel_rfl⟩   -- [4]replay.deed
theorem ti171 : TIok Try.prog 171 ⟨1, 8, [.pointer none], [], .other⟩ := ⟨by kernel_rfl, by kernel_rfl, by kernel_rfl, by kernel_rfl⟩   -- *device.world
theorem ti173 : TIok Try.prog 173 ⟨5, 104, [.slice none 0 0, .slice none 0 0, .slice none 0 0, .int .i64 0, .slice none 0 0], [(0, 48, 5)], .struct⟩ := ⟨by kernel_rfl, by kernel_rfl, by kernel_rfl, by kernel_rfl⟩   -- device.world
theorem ti176 : TIok Try.prog 176 ⟨2, 16, [.int .i64 0, .int .i64 0], [(0, 3, 1), (1, 3, 1)], .struct⟩ := ⟨by kernel_rfl, by kernel_rfl, by kernel_rfl, by kernel_rfl⟩   -- geo.stretch
theorem ti178 : TIok Try.prog 178 ⟨4, 32, [.int .i64 0, .int .i64 0, .int .i8 0, .int .i64 0], [(0, 176, 2), (2, 26, 1), (3, 3, 1)], .struct⟩ := ⟨by kernel_rfl, by kernel_rfl, by kernel_rfl, by kernel_rfl⟩   -- geo.region
theorem ti180 : TIok Try.prog 180 ⟨1, 8, [.pointer none], [], .other⟩ := ⟨by kernel_rfl, by kernel_rfl, by kernel_rfl, by kernel_rfl⟩   -- *strings.Builder
theorem ti182 : TIok Try.prog 182 ⟨2, 32, [.pointer none, .slice none 0 0], [(0, 180, 1), (1, 150, 1)], .struct⟩ := ⟨by kernel_rfl, by kernel_rfl, by kernel_rfl, by kernel_rfl⟩   -- strings.Builder
theorem ti194 : TIok Try.prog 194 ⟨1, 8, [.int .u64 0], [], .int .u64⟩ := ⟨by kernel_rfl, by kernel_rfl, by kernel_rfl, by kernel_rfl⟩   -- uint
theorem ti198 : TIok Try.prog 198 ⟨1, 24, [.slice none 0 0], [(0, 58, 1)], .struct⟩ := ⟨by kernel_rfl, by kernel_rfl, by kernel_rfl, by kernel_rfl⟩   -- buffer.row
theorem ti202 : TIok Try.prog 202 ⟨1, 24, [.slice none 0 0], [], .slice 178⟩ := ⟨by kernel_rfl, by kernel_rfl, by kernel_rfl, by kernel_rfl⟩   -- []geo.region
theorem ti204 : TIok Try.prog 204 ⟨1, 8, [.pointer none], [], .other⟩ := ⟨by kernel_rfl, by kernel_rfl, by kernel_rfl, by kernel_rfl⟩   -- *uint8
theorem ti209 : TIok Try.prog 209 ⟨1, 8, [.pointer none], [], .other⟩ := ⟨by kernel_rfl, by kernel_rfl, by kernel_rfl, by kernel_rfl⟩   -- *record.entry
theorem ti211 : TIok Try.prog 211 ⟨6, 56, [.int .i64 0, .int .i64 0, .int .i64 0, .int .i64 0, .string ByteArray.empty, .int .i64 0], [(0, 25, 6)], .struct⟩ := ⟨by kernel_rfl, by kernel_rfl, by kernel_rfl, by kernel_rfl⟩   -- record.entry
theorem ti212 : TIok Try.prog 212 ⟨1, 8, [.pointer none], [], .other⟩ := ⟨by kernel_rfl, by kernel_rfl, by kernel_rfl, by kernel_rfl⟩   -- *buffer.row
theorem ti214 : TIok Try.prog 214 ⟨1, 8, [.nilFunc], [], .other⟩ := ⟨by kernel_rfl, by kernel_rfl, by kernel_rfl, by kernel_rfl⟩   -- func(api.Block) bool
theorem ti216 : TIok Try.prog 216 ⟨1, 8, [.nilFunc], [], .other⟩ := ⟨by kernel_rfl, by kernel_rfl, by kernel_rfl, by kernel_rfl⟩   -- func(string) bool
theorem ti217 : TIok Try.prog 217 ⟨1, 8, [.map none], [], .other⟩ := ⟨by kernel_rfl, by kernel_rfl, by kernel_rfl, by kernel_rfl⟩   -- map[int]bool
theorem ti222 : TIok Try.prog 222 ⟨1, 24, [.slice none 0 0], [], .slice 27⟩ := ⟨by kernel_rfl, by kernel_rfl, by kernel_rfl, by kernel_rfl⟩   -- [][]api.Record
theorem ti224 : TIok Try.prog 224 ⟨1, 8, [.int .i64 0], [], .int .i64⟩ := ⟨by kernel_rfl, by kernel_rfl, by kernel_rfl, by kernel_rfl⟩   -- num.width
theorem ti226 : TIok Try.prog 226 ⟨1, 8, [.pointer none], [], .other⟩ := ⟨by kernel_rfl, by kernel_rfl, by kernel_rfl, by kernel_rfl⟩   -- *seal.sector
theorem ti228 : TIok Try.prog 228 ⟨2, 32, [.slice none 0 0, .int .i64 0], [(0, 150, 1), (1, 31, 1)], .struct⟩ := ⟨by kernel_rfl, by kernel_rfl, by kernel_rfl, by kernel_rfl⟩   -- seal.bytes
theorem ti230 : TIok Try.prog 230 ⟨3, 40, [.slice none 0 0, .int .i64 0, .int .i8 0], [(0, 228, 2), (2, 26, 1)], .struct⟩ := ⟨by kernel_rfl, by kernel_rfl, by kernel_rfl, by kernel_rfl⟩   -- seal.sector
theorem ti233 : TIok Try.prog 233 ⟨1, 8, [.pointer none], [], .other⟩ := ⟨by kernel_rfl, by kernel_rfl, by kernel_rfl, by kernel_rfl⟩   -- *buffer.sized
theorem ti235 : TIok Try.prog 235 ⟨9, 88, [.slice none 0 0, .int .i64 0, .int .i64 0, .int .i64 0, .int .i64 0, .int .i64 0, .int .i64 0, .int .i64 0, .int .i64 0], [(0, 198, 1), (1, 23, 8)], .struct⟩ := ⟨by kernel_rfl, by kernel_rfl, by kernel_rfl, by kernel_rfl⟩   -- buffer.sized
theorem ti236 : TIok Try.prog 236 ⟨1, 8, [.pointer none], [], .other⟩ := ⟨by kernel_rfl, by kernel_rfl, by kernel_rfl, by kernel_rfl⟩   -- *seal.bytes
theorem ti237 : TIok Try.prog 237 ⟨1, 8, [.pointer none], [], .other⟩ := ⟨by kernel_rfl, by kernel_rfl, by kernel_rfl, by kernel_rfl⟩   -- *crc.summer
theorem ti240 : TIok Try.prog 240 ⟨1, 4, [.int .u32 0], [], .int .u32⟩ := ⟨by kernel_rfl, by kernel_rfl, by kernel_rfl, by kernel_rfl⟩   -- uint32
theorem ti242 : TIok Try.prog 242 ⟨1, 4, [.int .u32 0], [(0, 240, 1)], .struct⟩ := ⟨by kernel_rfl, by kernel_rfl, by kernel_rfl, by kernel_rfl⟩   -- crc.register
theorem ti243 : TIok Try.prog 243 ⟨16, 64, [.int .u32 0, .int .u32 0, .int .u32 0, .int .u32 0, .int .u32 0, .int .u32 0, .int .u32 0, .int .u32 0, .int .u32 0, .int .u32 0, .int .u32 0, .int .u32 0, .int .u32 0, .int .u32 0, .int .u32 0, .int .u32 0], [], .arr 16 240⟩ := ⟨by kernel_rfl, by kernel_rfl, by kernel_rfl, by kernel_rfl⟩   -- [16]uint32
theorem ti245 : TIok Try.prog 245 ⟨17, 68, [.int .u32 0, .int .u32 0, .int .u32 0, .int .u32 0, .int .u32 0, .int .u32 0, .int .u32 0, .int .u32 0, .int .u32 0, .int .u32 0, .int .u32 0, .int .u32 0, .int .u32 0, .int .u32 0, .int .u32 0, .int .u32 0, .int .u32 0], [(0, 242, 1), (1, 243, 16)], .struct⟩ := ⟨by kernel_rfl, by kernel_rfl, by kernel_rfl, by kernel_rfl⟩   -- crc.summer
theorem ti246 : TIok Try.prog 246 ⟨1, 8, [.pointer none], [], .other⟩ := ⟨by kernel_rfl, by kernel_rfl, by kernel_rfl, by kernel_rfl⟩   -- *crc.register
theorem ti247 : TIok Try.prog 247 ⟨1, 8, [.int .u64 0], [], .int .u64⟩ := ⟨by kernel_rfl, by kernel_rfl, by kernel_rfl, by kernel_rfl⟩   -- uint64
theorem tok : TTok Try.prog tt := TTok.cons ti1 <| TTok.cons ti2 <| TTok.cons ti3 <| TTok.cons ti4 <| TTok.cons ti5 <| TTok.cons ti6 <| TTok.cons ti7 <| TTok.cons ti8 <| TTok.cons ti9 <| TTok.cons ti23 <| TTok.cons ti25 <| TTok.cons ti26 <| TTok.cons ti27 <| TTok.cons ti28 <| TTok.cons ti30 <| TTok.cons ti31 <| TTok.cons ti44 <| TTok.cons ti45 <| TTok.cons ti46 <| TTok.cons ti48 <| TTok.cons ti52 <| TTok.cons ti58 <| TTok.cons ti75 <| TTok.cons ti81 <| TTok.cons ti83 <| TTok.cons ti101 <| TTok.cons ti102 <| TTok.cons ti104 <| TTok.cons ti106 <| TTok.cons ti108 <| TTok.cons ti110 <| TTok.cons ti113 <| TTok.cons ti115 <| TTok.cons ti117 <| TTok.cons ti119 <| TTok.cons ti131 <| TTok.cons ti138 <| TTok.cons ti150 <| TTok.cons ti153 <| TTok.cons ti155 <| TTok.cons ti162 <| TTok.cons ti171 <| TTok.cons ti173 <| TTok.cons ti176 <| TTok.cons ti178 <| TTok.cons ti180 <| TTok.cons ti182 <| TTok.cons ti194 <| TTok.cons ti198 <| TTok.cons ti202 <| TTok.cons ti204 <| TTok.cons ti209 <| TTok.cons ti211 <| TTok.cons ti212 <| TTok.cons ti214 <| TTok.cons ti216 <| TTok.cons ti217 <| TTok.cons ti222 <| TTok.cons ti224 <| TTok.cons ti226 <| TTok.cons ti228 <| TTok.cons ti230 <| TTok.cons ti233 <| TTok.cons ti235 <| TTok.cons ti236 <| TTok.cons ti237 <| TTok.cons ti240 <| TTok.cons ti242 <| TTok.cons ti243 <| TTok.cons ti245 <| TTok.cons ti246 <| TTok.cons ti247 <| TTok.nil _

theorem fnok3 : FnOk Try.prog 3 := ⟨_, Try.func3, by kernel_rfl, by kernel_rfl⟩
theorem fnok4 : FnOk Try.prog 4 := ⟨_, Try.func4, by kernel_rfl, by kernel_rfl⟩
theorem fnok5 : FnOk Try.prog 5 := ⟨_, Try.func5, by kernel_rfl, by kernel_rfl⟩
theorem fnok6 : FnOk Try.prog 6 := ⟨_, Try.func6, by kernel_rfl, by kernel_rfl⟩
theorem fnok7 : FnOk Try.prog 7 := ⟨_, Try.func7, by kernel_rfl, by kernel_rfl⟩
theorem fnok8 : FnOk Try.prog 8 := ⟨_, Try.func8, by kernel_rfl, by kernel_rfl⟩
theorem fnok9 : FnOk Try.prog 9 := ⟨_, Try.func9, by kernel_rfl, by kernel_rfl⟩
theorem fnok10 : FnOk Try.prog 10 := ⟨_, Try.func10, by kernel_rfl, by kernel_rfl⟩
theorem fnok11 : FnOk Try.prog 11 := ⟨_, Try.func11, by kernel_rfl, by kernel_rfl⟩
theorem fnok12 : FnOk Try.prog 12 := ⟨_, Try.func12, by kernel_rfl, by kernel_rfl⟩
theorem fnok13 : FnOk Try.prog 13 := ⟨_, Try.func13, by kernel_rfl, by kernel_rfl⟩
theorem fnok14 : FnOk Try.prog 14 := ⟨_, Try.func14, by kernel_rfl, by kernel_rfl⟩
theorem fnok15 : FnOk Try.prog 15 := ⟨_, Try.func15, by kernel_rfl, by kernel_rfl⟩
theorem fnok16 : FnOk Try.prog 16 := ⟨_, Try.func16, by kernel_rfl, by kernel_rfl⟩
theorem fnok17 : FnOk Try.prog 17 := ⟨_, Try.func17, by kernel_rfl, by kernel_rfl⟩
theorem fnok18 : FnOk Try.prog 18 := ⟨_, Try.func18, by kernel_rfl, by kernel_rfl⟩
theorem fnok19 : FnOk Try.prog 19 := ⟨_, Try.func19, by kernel_rfl, by kernel_rfl⟩
theorem fnok20 : FnOk Try.prog 20 := ⟨_, Try.func20, by kernel_rfl, by kernel_rfl⟩
theorem fnok21 : FnOk Try.prog 21 := ⟨_, Try.func21, by kernel_rfl, by kernel_rfl⟩
theorem fnok22 : FnOk Try.prog 22 := ⟨_, Try.func22, by kernel_rfl, by kernel_rfl⟩
theorem fnok23 : FnOk Try.prog 23 := ⟨_, Try.func23, by kernel_rfl, by kernel_rfl⟩
theorem fnok24 : FnOk Try.prog 24 := ⟨_, Try.func24, by kernel_rfl, by kernel_rfl⟩
theorem fnok25 : FnOk Try.prog 25 := ⟨_, Try.func25, by kernel_rfl, by kernel_rfl⟩
theorem fnok26 : FnOk Try.prog 26 := ⟨_, Try.func26, by kernel_rfl, by kernel_rfl⟩
theorem fnok27 : FnOk Try.prog 27 := ⟨_, Try.func27, by kernel_rfl, by kernel_rfl⟩
theorem fnok28 : FnOk Try.prog 28 := ⟨_, Try.func28, by kernel_rfl, by kernel_rfl⟩
theorem fnok29 : FnOk Try.prog 29 := ⟨_, Try.func29, by kernel_rfl, by kernel_rfl⟩
theorem fnok30 : FnOk Try.prog 30 := ⟨_, Try.func30, by kernel_rfl, by kernel_rfl⟩
theorem fnok31 : FnOk Try.prog 31 := ⟨_, Try.func31, by kernel_rfl, by kernel_rfl⟩
theorem fnok32 : FnOk Try.prog 32 := ⟨_, Try.func32, by kernel_rfl, by kernel_rfl⟩
theorem fnok33 : FnOk Try.prog 33 := ⟨_, Try.func33, by kernel_rfl, by kernel_rfl⟩
theorem fnok34 : FnOk Try.prog 34 := ⟨_, Try.func34, by kernel_rfl, by kernel_rfl⟩
theorem fnok35 : FnOk Try.prog 35 := ⟨_, Try.func35, by kernel_rfl, by kernel_rfl⟩
theorem fnok36 : FnOk Try.prog 36 := ⟨_, Try.func36, by kernel_rfl, by kernel_rfl⟩
theorem fnok37 : FnOk Try.prog 37 := ⟨_, Try.func37, by kernel_rfl, by kernel_rfl⟩
theorem fnok38 : FnOk Try.prog 38 := ⟨_, Try.func38, by kernel_rfl, by kernel_rfl⟩
theorem fnok39 : FnOk Try.prog 39 := ⟨_, Try.func39, by kernel_rfl, by kernel_rfl⟩
theorem fnok40 : FnOk Try.prog 40 := ⟨_, Try.func40, by kernel_rfl, by kernel_rfl⟩
theorem fnok41 : FnOk Try.prog 41 := ⟨_, Try.func41, by kernel_rfl, by kernel_rfl⟩
theorem fnok42 : FnOk Try.prog 42 := ⟨_, Try.func42, by kernel_rfl, by kernel_rfl⟩
theorem fnok43 : FnOk Try.prog 43 := ⟨_, Try.func43, by kernel_rfl, by kernel_rfl⟩
theorem fnok44 : FnOk Try.prog 44 := ⟨_, Try.func44, by kernel_rfl, by kernel_rfl⟩
theorem fnok45 : FnOk Try.prog 45 := ⟨_, Try.func45, by kernel_rfl, by kernel_rfl⟩
theorem fnok46 : FnOk Try.prog 46 := ⟨_, Try.func46, by kernel_rfl, by kernel_rfl⟩
theorem fnok47 : FnOk Try.prog 47 := ⟨_, Try.func47, by kernel_rfl, by kernel_rfl⟩
theorem fnok48 : FnOk Try.prog 48 := ⟨_, Try.func48, by kernel_rfl, by kernel_rfl⟩
theorem fnok49 : FnOk Try.prog 49 := ⟨_, Try.func49, by kernel_rfl, by kernel_rfl⟩
theorem fnok50 : FnOk Try.prog 50 := ⟨_, Try.func50, by kernel_rfl, by kernel_rfl⟩
theorem fnok51 : FnOk Try.prog 51 := ⟨_, Try.func51, by kernel_rfl, by kernel_rfl⟩
theorem fnok52 : FnOk Try.prog 52 := ⟨_, Try.func52, by kernel_rfl, by kernel_rfl⟩
theorem fnok53 : FnOk Try.prog 53 := ⟨_, Try.func53, by kernel_rfl, by kernel_rfl⟩
theorem fnok54 : FnOk Try.prog 54 := ⟨_, Try.func54, by kernel_rfl, by kernel_rfl⟩
theorem fnok55 : FnOk Try.prog 55 := ⟨_, Try.func55, by kernel_rfl, by kernel_rfl⟩
theorem fnok56 : FnOk Try.prog 56 := ⟨_, Try.func56, by kernel_rfl, by kernel_rfl⟩
theorem fnok57 : FnOk Try.prog 57 := ⟨_, Try.func57, by kernel_rfl, by kernel_rfl⟩
theorem fnok58 : FnOk Try.prog 58 := ⟨_, Try.func58, by kernel_rfl, by kernel_rfl⟩
theorem fnok59 : FnOk Try.prog 59 := ⟨_, Try.func59, by kernel_rfl, by kernel_rfl⟩
theorem fnok60 : FnOk Try.prog 60 := ⟨_, Try.func60, by kernel_rfl, by kernel_rfl⟩
theorem fnok61 : FnOk Try.prog 61 := ⟨_, Try.func61, by kernel_rfl, by kernel_rfl⟩
theorem fnok62 : FnOk Try.prog 62 := ⟨_, Try.func62, by kernel_rfl, by kernel_rfl⟩
theorem fnok63 : FnOk Try.prog 63 := ⟨_, Try.func63, by kernel_rfl, by kernel_rfl⟩
theorem fnok64 : FnOk Try.prog 64 := ⟨_, Try.func64, by kernel_rfl, by kernel_rfl⟩
theorem fnok65 : FnOk Try.prog 65 := ⟨_, Try.func65, by kernel_rfl, by kernel_rfl⟩
theorem fnok66 : FnOk Try.prog 66 := ⟨_, Try.func66, by kernel_rfl, by kernel_rfl⟩
theorem fnok67 : FnOk Try.prog 67 := ⟨_, Try.func67, by kernel_rfl, by kernel_rfl⟩
theorem fnok68 : FnOk Try.prog 68 := ⟨_, Try.func68, by kernel_rfl, by kernel_rfl⟩
theorem fnok69 : FnOk Try.prog 69 := ⟨_, Try.func69, by kernel_rfl, by kernel_rfl⟩
theorem fnok70 : FnOk Try.prog 70 := ⟨_, Try.func70, by kernel_rfl, by kernel_rfl⟩
theorem fnok71 : FnOk Try.prog 71 := ⟨_, Try.func71, by kernel_rfl, by kernel_rfl⟩
theorem fnok72 : FnOk Try.prog 72 := ⟨_, Try.func72, by kernel_rfl, by kernel_rfl⟩
theorem fnok73 : FnOk Try.prog 73 := ⟨_, Try.func73, by kernel_rfl, by kernel_rfl⟩
theorem fnok74 : FnOk Try.prog 74 := ⟨_, Try.func74, by kernel_rfl, by kernel_rfl⟩
theorem fnok75 : FnOk Try.prog 75 := ⟨_, Try.func75, by kernel_rfl, by kernel_rfl⟩
theorem fnok76 : FnOk Try.prog 76 := ⟨_, Try.func76, by kernel_rfl, by kernel_rfl⟩
theorem fnok77 : FnOk Try.prog 77 := ⟨_, Try.func77, by kernel_rfl, by kernel_rfl⟩
theorem fnok78 : FnOk Try.prog 78 := ⟨_, Try.func78, by kernel_rfl, by kernel_rfl⟩
theorem fnok79 : FnOk Try.prog 79 := ⟨_, Try.func79, by kernel_rfl, by kernel_rfl⟩
theorem fnok80 : FnOk Try.prog 80 := ⟨_, Try.func80, by kernel_rfl, by kernel_rfl⟩
theorem fnok81 : FnOk Try.prog 81 := ⟨_, Try.func81, by kernel_rfl, by kernel_rfl⟩
theorem fnok82 : FnOk Try.prog 82 := ⟨_, Try.func82, by kernel_rfl, by kernel_rfl⟩
theorem fnok83 : FnOk Try.prog 83 := ⟨_, Try.func83, by kernel_rfl, by kernel_rfl⟩
theorem fnok84 : FnOk Try.prog 84 := ⟨_, Try.func84, by kernel_rfl, by kernel_rfl⟩
theorem fnok85 : FnOk Try.prog 85 := ⟨_, Try.func85, by kernel_rfl, by kernel_rfl⟩
theorem fnok86 : FnOk Try.prog 86 := ⟨_, Try.func86, by kernel_rfl, by kernel_rfl⟩
theorem fnok87 : FnOk Try.prog 87 := ⟨_, Try.func87, by kernel_rfl, by kernel_rfl⟩
theorem fnok88 : FnOk Try.prog 88 := ⟨_, Try.func88, by kernel_rfl, by kernel_rfl⟩
theorem fnok89 : FnOk Try.prog 89 := ⟨_, Try.func89, by kernel_rfl, by kernel_rfl⟩
theorem fnok90 : FnOk Try.prog 90 := ⟨_, Try.func90, by kernel_rfl, by kernel_rfl⟩
theorem fnok91 : FnOk Try.prog 91 := ⟨_, Try.func91, by kernel_rfl, by kernel_rfl⟩
theorem fnok92 : FnOk Try.prog 92 := ⟨_, Try.func92, by kernel_rfl, by kernel_rfl⟩
theorem fnok93 : FnOk Try.prog 93 := ⟨_, Try.func93, by kernel_rfl, by kernel_rfl⟩
theorem fnok94 : FnOk Try.prog 94 := ⟨_, Try.func94, by kernel_rfl, by kernel_rfl⟩
theorem fnok95 : FnOk Try.prog 95 := ⟨_, Try.func95, by kernel_rfl, by kernel_rfl⟩
theorem fnok96 : FnOk Try.prog 96 := ⟨_, Try.func96, by kernel_rfl, by kernel_rfl⟩
theorem fnok97 : FnOk Try.prog 97 := ⟨_, Try.func97, by kernel_rfl, by kernel_rfl⟩
theorem fnok98 : FnOk Try.prog 98 := ⟨_, Try.func98, by kernel_rfl, by kernel_rfl⟩
theorem fnok99 : FnOk Try.prog 99 := ⟨_, Try.func99, by kernel_rfl, by kernel_rfl⟩
theorem fnok100 : FnOk Try.prog 100 := ⟨_, Try.func100, by kernel_rfl, by kernel_rfl⟩
theorem fnok101 : FnOk Try.prog 101 := ⟨_, Try.func101, by kernel_rfl, by kernel_rfl⟩
theorem fnok102 : FnOk Try.prog 102 := ⟨_, Try.func102, by kernel_rfl, by kernel_rfl⟩
theorem fnok103 : FnOk Try.prog 103 := ⟨_, Try.func103, by kernel_rfl, by kernel_rfl⟩
theorem fnok104 : FnOk Try.prog 104 := ⟨_, Try.func104, by kernel_rfl, by kernel_rfl⟩
theorem fnok105 : FnOk Try.prog 105 := ⟨_, Try.func105, by kernel_rfl, by kernel_rfl⟩
theorem fnok106 : FnOk Try.prog 106 := ⟨_, Try.func106, by kernel_rfl, by kernel_rfl⟩
theorem fnok107 : FnOk Try.prog 107 := ⟨_, Try.func107, by kernel_rfl, by kernel_rfl⟩
theorem fnok108 : FnOk Try.prog 108 := ⟨_, Try.func108, by kernel_rfl, by kernel_rfl⟩
theorem fnok109 : FnOk Try.prog 109 := ⟨_, Try.func109, by kernel_rfl, by kernel_rfl⟩
theorem fnok110 : FnOk Try.prog 110 := ⟨_, Try.func110, by kernel_rfl, by kernel_rfl⟩
theorem fnok111 : FnOk Try.prog 111 := ⟨_, Try.func111, by kernel_rfl, by kernel_rfl⟩
theorem fnok112 : FnOk Try.prog 112 := ⟨_, Try.func112, by kernel_rfl, by kernel_rfl⟩
theorem fnok113 : FnOk Try.prog 113 := ⟨_, Try.func113, by kernel_rfl, by kernel_rfl⟩
theorem fnok114 : FnOk Try.prog 114 := ⟨_, Try.func114, by kernel_rfl, by kernel_rfl⟩
theorem fnok115 : FnOk Try.prog 115 := ⟨_, Try.func115, by kernel_rfl, by kernel_rfl⟩
theorem fnok116 : FnOk Try.prog 116 := ⟨_, Try.func116, by kernel_rfl, by kernel_rfl⟩
theorem fnok117 : FnOk Try.prog 117 := ⟨_, Try.func117, by kernel_rfl, by kernel_rfl⟩
theorem fnok118 : FnOk Try.prog 118 := ⟨_, Try.func118, by kernel_rfl, by kernel_rfl⟩
theorem fnok119 : FnOk Try.prog 119 := ⟨_, Try.func119, by kernel_rfl, by kernel_rfl⟩
theorem fnok120 : FnOk Try.prog 120 := ⟨_, Try.func120, by kernel_rfl, by kernel_rfl⟩
theorem fnok121 : FnOk Try.prog 121 := ⟨_, Try.func121, by kernel_rfl, by kernel_rfl⟩
theorem fnok122 : FnOk Try.prog 122 := ⟨_, Try.func122, by kernel_rfl, by kernel_rfl⟩
theorem fnok123 : FnOk Try.prog 123 := ⟨_, Try.func123, by kernel_rfl, by kernel_rfl⟩
theorem fnok124 : FnOk Try.prog 124 := ⟨_, Try.func124, by kernel_rfl, by kernel_rfl⟩
theorem fnok125 : FnOk Try.prog 125 := ⟨_, Try.func125, by kernel_rfl, by kernel_rfl⟩
theorem fnok126 : FnOk Try.prog 126 := ⟨_, Try.func126, by kernel_rfl, by kernel_rfl⟩
theorem fnok127 : FnOk Try.prog 127 := ⟨_, Try.func127, by kernel_rfl, by kernel_rfl⟩
theorem fnok128 : FnOk Try.prog 128 := ⟨_, Try.func128, by kernel_rfl, by kernel_rfl⟩
theorem fnok129 : FnOk Try.prog 129 := ⟨_, Try.func129, by kernel_rfl, by kernel_rfl⟩
theorem fnok130 : FnOk Try.prog 130 := ⟨_, Try.func130, by kernel_rfl, by kernel_rfl⟩
theorem fnok131 : FnOk Try.prog 131 := ⟨_, Try.func131, by kernel_rfl, by kernel_rfl⟩
theorem fnok132 : FnOk Try.prog 132 := ⟨_, Try.func132, by kernel_rfl, by kernel_rfl⟩
theorem fnok133 : FnOk Try.prog 133 := ⟨_, Try.func133, by kernel_rfl, by kernel_rfl⟩
theorem fnok134 : FnOk Try.prog 134 := ⟨_, Try.func134, by kernel_rfl, by kernel_rfl⟩
theorem fnok135 : FnOk Try.prog 135 := ⟨_, Try.func135, by kernel_rfl, by kernel_rfl⟩
theorem fnok136 : FnOk Try.prog 136 := ⟨_, Try.func136, by kernel_rfl, by kernel_rfl⟩
theorem fnok137 : FnOk Try.prog 137 := ⟨_, Try.func137, by kernel_rfl, by kernel_rfl⟩
theorem fnok138 : FnOk Try.prog 138 := ⟨_, Try.func138, by kernel_rfl, by kernel_rfl⟩
theorem fnok139 : FnOk Try.prog 139 := ⟨_, Try.func139, by kernel_rfl, by kernel_rfl⟩
theorem fnok140 : FnOk Try.prog 140 := ⟨_, Try.func140, by kernel_rfl, by kernel_rfl⟩
theorem fnok141 : FnOk Try.prog 141 := ⟨_, Try.func141, by kernel_rfl, by kernel_rfl⟩
theorem fnok142 : FnOk Try.prog 142 := ⟨_, Try.func142, by kernel_rfl, by kernel_rfl⟩
theorem fnok143 : FnOk Try.prog 143 := ⟨_, Try.func143, by kernel_rfl, by kernel_rfl⟩
theorem fnok144 : FnOk Try.prog 144 := ⟨_, Try.func144, by kernel_rfl, by kernel_rfl⟩
theorem fnok145 : FnOk Try.prog 145 := ⟨_, Try.func145, by kernel_rfl, by kernel_rfl⟩
theorem fnok146 : FnOk Try.prog 146 := ⟨_, Try.func146, by kernel_rfl, by kernel_rfl⟩
theorem fnok149 : FnOk Try.prog 149 := ⟨_, Try.func149, by kernel_rfl, by kernel_rfl⟩
theorem fnok150 : FnOk Try.prog 150 := ⟨_, Try.func150, by kernel_rfl, by kernel_rfl⟩
theorem fnok151 : FnOk Try.prog 151 := ⟨_, Try.func151, by kernel_rfl, by kernel_rfl⟩
theorem fnok152 : FnOk Try.prog 152 := ⟨_, Try.func152, by kernel_rfl, by kernel_rfl⟩
theorem fnok153 : FnOk Try.prog 153 := ⟨_, Try.func153, by kernel_rfl, by kernel_rfl⟩
theorem fnok154 : FnOk Try.prog 154 := ⟨_, Try.func154, by kernel_rfl, by kernel_rfl⟩
theorem fnok155 : FnOk Try.prog 155 := ⟨_, Try.func155, by kernel_rfl, by kernel_rfl⟩
theorem fnok156 : FnOk Try.prog 156 := ⟨_, Try.func156, by kernel_rfl, by kernel_rfl⟩
theorem fnok157 : FnOk Try.prog 157 := ⟨_, Try.func157, by kernel_rfl, by kernel_rfl⟩
theorem fnok158 : FnOk Try.prog 158 := ⟨_, Try.func158, by kernel_rfl, by kernel_rfl⟩
theorem fnok159 : FnOk Try.prog 159 := ⟨_, Try.func159, by kernel_rfl, by kernel_rfl⟩
theorem fnok160 : FnOk Try.prog 160 := ⟨_, Try.func160, by kernel_rfl, by kernel_rfl⟩
theorem fnok161 : FnOk Try.prog 161 := ⟨_, Try.func161, by kernel_rfl, by kernel_rfl⟩
theorem fnok162 : FnOk Try.prog 162 := ⟨_, Try.func162, by kernel_rfl, by kernel_rfl⟩
theorem fnok163 : FnOk Try.prog 163 := ⟨_, Try.func163, by kernel_rfl, by kernel_rfl⟩
theorem fnok164 : FnOk Try.prog 164 := ⟨_, Try.func164, by kernel_rfl, by kernel_rfl⟩
theorem fnok165 : FnOk Try.prog 165 := ⟨_, Try.func165, by kernel_rfl, by kernel_rfl⟩
theorem fnok166 : FnOk Try.prog 166 := ⟨_, Try.func166, by kernel_rfl, by kernel_rfl⟩
theorem fnok167 : FnOk Try.prog 167 := ⟨_, Try.func167, by kernel_rfl, by kernel_rfl⟩
theorem fnok168 : FnOk Try.prog 168 := ⟨_, Try.func168, by kernel_rfl, by kernel_rfl⟩
theorem fnok169 : FnOk Try.prog 169 := ⟨_, Try.func169, by kernel_rfl, by kernel_rfl⟩
theorem fnok170 : FnOk Try.prog 170 := ⟨_, Try.func170, by kernel_rfl, by kernel_rfl⟩
theorem fnok171 : FnOk Try.prog 171 := ⟨_, Try.func171, by kernel_rfl, by kernel_rfl⟩
theorem mixed : Try.prog.follows .mixedOrders = true := by kernel_rfl
end Go.Proofs.Ytikdaehmaaogdaa
