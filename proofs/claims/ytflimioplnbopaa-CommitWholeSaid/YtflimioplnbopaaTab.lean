import Derived.Test.YtflimioplnbopaaEng27
import Derived.Test.YtflimioplnbopaaProg
import Derived.KernelRfl
/- The types' table of this program, and that its functions have bodies. -/
set_option linter.unusedVariables false
namespace Go.Proofs.Ytflimioplnbopaa
open Go Go.Eng
def tt : List (Nat × TI) := [
  (1, ⟨1, 8, [.nilFunc], [], .other⟩),
  (2, ⟨1, 8, [.int .i64 0], [], .int .i64⟩),
  (3, ⟨1, 8, [.int .i64 0], [], .int .i64⟩),
  (4, ⟨1, 1, [.bool false], [], .bool⟩),
  (5, ⟨1, 1, [.int .u8 0], [], .int .u8⟩),
  (6, ⟨1, 1, [.int .u8 0], [], .int .u8⟩),
  (7, ⟨4, 24, [.int .i64 0, .int .i64 0, .bool false, .int .u8 0], [(0, 2, 1), (1, 3, 1), (2, 4, 1), (3, 6, 1)], .struct⟩),
  (8, ⟨4, 24, [.int .i64 0, .int .i64 0, .bool false, .int .u8 0], [(0, 2, 1), (1, 3, 1), (2, 4, 1), (3, 6, 1)], .struct⟩),
  (9, ⟨1, 16, [.string ByteArray.empty], [], .str⟩),
  (23, ⟨8, 64, [.int .i64 0, .int .i64 0, .int .i64 0, .int .i64 0, .int .i64 0, .int .i64 0, .int .i64 0, .int .i64 0], [(0, 3, 1), (1, 3, 1), (2, 3, 1), (3, 3, 1), (4, 3, 1), (5, 3, 1), (6, 3, 1), (7, 3, 1)], .struct⟩),
  (24, ⟨1, 24, [.slice none 0 0], [], .slice 25⟩),
  (25, ⟨1, 24, [.slice none 0 0], [], .slice 139⟩),
  (30, ⟨1, 24, [.slice none 0 0], [], .slice 9⟩),
  (31, ⟨1, 8, [.int .i64 0], [], .int .i64⟩),
  (37, ⟨1, 24, [.slice none 0 0], [], .slice 156⟩),
  (38, ⟨1, 24, [.slice none 0 0], [], .slice 3⟩),
  (40, ⟨5, 104, [.slice none 0 0, .slice none 0 0, .slice none 0 0, .int .i64 0, .slice none 0 0], [(0, 30, 1), (1, 37, 1), (2, 38, 1), (3, 3, 1), (4, 38, 1)], .struct⟩),
  (41, ⟨1, 24, [.slice none 0 0], [], .slice 99⟩),
  (43, ⟨2, 32, [.slice none 0 0, .int .i64 0], [(0, 41, 1), (1, 3, 1)], .struct⟩),
  (48, ⟨1, 1, [.int .i8 0], [], .int .i8⟩),
  (50, ⟨4, 40, [.int .i8 0, .int .i64 0, .string ByteArray.empty, .int .i64 0], [(0, 48, 1), (1, 3, 1), (2, 9, 1), (3, 3, 1)], .struct⟩),
  (65, ⟨1, 24, [.slice none 0 0], [], .slice 50⟩),
  (71, ⟨3, 40, [.int .i64 0, .int .i64 0, .slice none 0 0], [(0, 3, 1), (1, 3, 1), (2, 30, 1)], .struct⟩),
  (99, ⟨6, 56, [.int .i64 0, .int .i64 0, .int .i64 0, .int .i64 0, .string ByteArray.empty, .int .i64 0], [(0, 3, 1), (1, 3, 1), (2, 3, 1), (3, 3, 1), (4, 9, 1), (5, 3, 1)], .struct⟩),
  (104, ⟨1, 24, [.slice none 0 0], [], .slice 114⟩),
  (105, ⟨1, 24, [.slice none 0 0], [], .slice 126⟩),
  (106, ⟨1, 24, [.slice none 0 0], [], .slice 121⟩),
  (108, ⟨3, 72, [.slice none 0 0, .slice none 0 0, .slice none 0 0], [(0, 105, 1), (1, 106, 1), (2, 106, 1)], .struct⟩),
  (112, ⟨2, 16, [.int .i64 0, .int .i64 0], [(0, 3, 1), (1, 3, 1)], .struct⟩),
  (114, ⟨8, 64, [.int .i8 0, .int .i64 0, .int .i64 0, .int .i64 0, .int .i64 0, .int .i64 0, .int .i64 0, .int .i8 0], [(0, 48, 1), (1, 3, 1), (2, 3, 1), (3, 3, 1), (4, 3, 1), (5, 112, 2), (7, 48, 1)], .struct⟩),
  (121, ⟨4, 32, [.int .i64 0, .int .i64 0, .int .i64 0, .int .i8 0], [(0, 3, 1), (1, 112, 2), (3, 48, 1)], .struct⟩),
  (126, ⟨2, 16, [.int .i64 0, .int .i64 0], [(0, 3, 1), (1, 3, 1)], .struct⟩),
  (128, ⟨1, 24, [.slice none 0 0], [], .slice 112⟩),
  (139, ⟨2, 24, [.int .i64 0, .string ByteArray.empty], [(0, 3, 1), (1, 9, 1)], .struct⟩),
  (144, ⟨2, 32, [.slice none 0 0, .int .i64 0], [(0, 43, 2)], .struct⟩),
  (147, ⟨1, 8, [.nilFunc], [], .other⟩),
  (149, ⟨3, 40, [.slice none 0 0, .int .i64 0, .nilFunc], [(0, 144, 2), (2, 147, 1)], .struct⟩),
  (156, ⟨1, 24, [.slice none 0 0], [], .slice 169⟩),
  (158, ⟨4, 48, [.slice none 0 0, .int .i64 0, .int .i64 0, .int .i8 0], [(0, 156, 1), (1, 3, 1), (2, 3, 1), (3, 48, 1)], .struct⟩),
  (169, ⟨2, 24, [.int .i64 0, .string ByteArray.empty], [(0, 3, 1), (1, 9, 1)], .struct⟩),
  (172, ⟨1, 24, [.slice none 0 0], [], .slice 5⟩),
  (175, ⟨1, 8, [.pointer none], [], .other⟩),
  (177, ⟨11, 104, [.int .i64 0, .int .i64 0, .slice none 0 0, .int .i64 0, .int .i64 0, .int .i64 0, .int .i64 0, .int .i64 0, .int .i64 0, .int .i64 0, .int .i64 0], [(0, 71, 3), (3, 23, 8)], .struct⟩),
  (180, ⟨1, 8, [.pointer none], [], .other⟩),
  (182, ⟨8, 64, [.int .i64 0, .int .i64 0, .int .i64 0, .int .i64 0, .int .i64 0, .int .i64 0, .int .i64 0, .int .i64 0], [(0, 23, 8)], .struct⟩),
  (184, ⟨9, 88, [.int .i64 0, .int .i64 0, .int .i64 0, .int .i64 0, .int .i64 0, .int .i64 0, .int .i64 0, .int .i64 0, .slice none 0 0], [(0, 182, 8), (8, 30, 1)], .struct⟩),
  (188, ⟨1, 8, [.pointer none], [], .other⟩),
  (192, ⟨1, 24, [.slice none 0 0], [], .slice 194⟩),
  (194, ⟨1, 8, [.pointer none], [], .other⟩),
  (196, ⟨1, 8, [.nilFunc], [], .other⟩),
  (199, ⟨1, 8, [.map none], [], .other⟩),
  (204, ⟨10, 96, [.int .i64 0, .int .i64 0, .int .i64 0, .int .i64 0, .int .i64 0, .int .i64 0, .int .i64 0, .int .i64 0, .slice none 0 0, .int .i64 0], [(0, 23, 8), (8, 30, 1), (9, 3, 1)], .struct⟩),
  (211, ⟨1, 8, [.nilFunc], [], .other⟩),
  (212, ⟨1, 8, [.nilFunc], [], .other⟩),
  (213, ⟨6, 48, [.nilFunc, .nilFunc, .nilFunc, .nilFunc, .nilFunc, .nilFunc], [], .arr 6 212⟩),
  (215, ⟨1, 8, [.pointer none], [], .other⟩),
  (218, ⟨11, 136, [.slice none 0 0, .slice none 0 0, .slice none 0 0, .int .i64 0, .int .i64 0, .int .i64 0, .int .i64 0, .int .i64 0, .int .i64 0, .int .i64 0, .int .i64 0], [(0, 108, 3), (3, 23, 8)], .struct⟩),
  (225, ⟨1, 8, [.map none], [], .other⟩),
  (231, ⟨2, 16, [.int .i64 0, .int .i64 0], [(0, 3, 1), (1, 3, 1)], .struct⟩),
  (233, ⟨5, 88, [.int .i64 0, .int .i64 0, .slice none 0 0, .slice none 0 0, .slice none 0 0], [(0, 231, 2), (2, 108, 3)], .struct⟩),
  (236, ⟨1, 8, [.nilFunc], [], .other⟩),
  (252, ⟨1, 8, [.pointer none], [], .other⟩),
  (254, ⟨5, 104, [.slice none 0 0, .slice none 0 0, .slice none 0 0, .int .i64 0, .slice none 0 0], [(0, 40, 5)], .struct⟩),
  (257, ⟨2, 16, [.int .i64 0, .int .i64 0], [(0, 3, 1), (1, 3, 1)], .struct⟩),
  (259, ⟨4, 32, [.int .i64 0, .int .i64 0, .int .i8 0, .int .i64 0], [(0, 257, 2), (2, 48, 1), (3, 3, 1)], .struct⟩),
  (261, ⟨1, 8, [.pointer none], [], .other⟩),
  (263, ⟨2, 32, [.pointer none, .slice none 0 0], [(0, 261, 1), (1, 172, 1)], .struct⟩),
  (270, ⟨1, 8, [.nilFunc], [], .other⟩),
  (274, ⟨1, 8, [.pointer none], [], .other⟩),
  (276, ⟨2, 32, [.slice none 0 0, .int .i64 0], [(0, 172, 1), (1, 31, 1)], .struct⟩),
  (278, ⟨3, 40, [.slice none 0 0, .int .i64 0, .int .i8 0], [(0, 276, 2), (2, 48, 1)], .struct⟩),
  (285, ⟨1, 24, [.slice none 0 0], [], .slice 106⟩),
  (288, ⟨1, 8, [.map none], [], .other⟩),
  (289, ⟨1, 8, [.pointer none], [], .other⟩),
  (297, ⟨1, 8, [.int .u64 0], [], .int .u64⟩),
  (298, ⟨1, 8, [.pointer none], [], .other⟩),
  (300, ⟨6, 56, [.int .i64 0, .int .i64 0, .int .i64 0, .int .i64 0, .string ByteArray.empty, .int .i64 0], [(0, 99, 6)], .struct⟩),
  (304, ⟨1, 24, [.slice none 0 0], [(0, 25, 1)], .struct⟩),
  (308, ⟨1, 24, [.slice none 0 0], [], .slice 259⟩),
  (310, ⟨1, 8, [.pointer none], [], .other⟩),
  (314, ⟨1, 8, [.int .i64 0], [], .int .i64⟩),
  (315, ⟨1, 8, [.pointer none], [], .other⟩),
  (317, ⟨1, 8, [.nilFunc], [], .other⟩),
  (319, ⟨1, 8, [.nilFunc], [], .other⟩),
  (324, ⟨2, 16, [.int .i64 0, .int .i64 0], [(0, 112, 2)], .struct⟩),
  (327, ⟨1, 24, [.slice none 0 0], [], .slice 319⟩),
  (329, ⟨1, 8, [.nilFunc], [], .other⟩),
  (331, ⟨4, 32, [.int .i64 0, .int .i64 0, .int .i64 0, .int .i8 0], [(0, 324, 2), (2, 3, 1), (3, 48, 1)], .struct⟩),
  (335, ⟨1, 8, [.pointer none], [], .other⟩),
  (337, ⟨1, 8, [.nilFunc], [], .other⟩),
  (342, ⟨1, 8, [.pointer none], [], .other⟩),
  (344, ⟨9, 88, [.int .i8 0, .int .i64 0, .int .i64 0, .int .i64 0, .int .i64 0, .int .i64 0, .int .i64 0, .int .i8 0, .slice none 0 0], [(0, 114, 8), (8, 172, 1)], .struct⟩),
  (347, ⟨1, 8, [.pointer none], [], .other⟩),
  (350, ⟨1, 4, [.int .u32 0], [], .int .u32⟩),
  (352, ⟨1, 4, [.int .u32 0], [(0, 350, 1)], .struct⟩),
  (353, ⟨16, 64, [.int .u32 0, .int .u32 0, .int .u32 0, .int .u32 0, .int .u32 0, .int .u32 0, .int .u32 0, .int .u32 0, .int .u32 0, .int .u32 0, .int .u32 0, .int .u32 0, .int .u32 0, .int .u32 0, .int .u32 0, .int .u32 0], [], .arr 16 350⟩),
  (355, ⟨17, 68, [.int .u32 0, .int .u32 0, .int .u32 0, .int .u32 0, .int .u32 0, .int .u32 0, .int .u32 0, .int .u32 0, .int .u32 0, .int .u32 0, .int .u32 0, .int .u32 0, .int .u32 0, .int .u32 0, .int .u32 0, .int .u32 0, .int .u32 0], [(0, 352, 1), (1, 353, 16)], .struct⟩),
  (357, ⟨1, 8, [.int .u64 0], [], .int .u64⟩),
  (358, ⟨1, 8, [.pointer none], [], .other⟩)]

theorem ti1 : TIok Try.prog 1 ⟨1, 8, [.nilFunc], [], .other⟩ := ⟨by kernel_rfl, by kernel_rfl, by kernel_rfl, by kernel_rfl⟩   -- func()
theorem ti2 : TIok Try.prog 2 ⟨1, 8, [.int .i64 0], [], .int .i64⟩ := ⟨by kernel_rfl, by kernel_rfl, by kernel_rfl, by kernel_rfl⟩   -- int64
theorem ti3 : TIok Try.prog 3 ⟨1, 8, [.int .i64 0], [], .int .i64⟩ := ⟨by kernel_rfl, by kernel_rfl, by kernel_rfl, by kernel_rfl⟩   -- int
theorem ti4 : TIok Try.prog 4 ⟨1, 1, [.bool false], [], .bool⟩ := ⟨by kernel_rfl, by kernel_rfl, by kernel_rfl, by kernel_rfl⟩   -- bool
theorem ti5 : TIok Try.prog 5 ⟨1, 1, [.int .u8 0], [], .int .u8⟩ := ⟨by kernel_rfl, by kernel_rfl, by kernel_rfl, by kernel_rfl⟩   -- uint8
theorem ti6 : TIok Try.prog 6 ⟨1, 1, [.int .u8 0], [], .int .u8⟩ := ⟨by kernel_rfl, by kernel_rfl, by kernel_rfl, by kernel_rfl⟩   -- abi.BoundsErrorCode
theorem ti7 : TIok Try.prog 7 ⟨4, 24, [.int .i64 0, .int .i64 0, .bool false, .int .u8 0], [(0, 2, 1), (1, 3, 1), (2, 4, 1), (3, 6, 1)], .struct⟩ := ⟨by kernel_rfl, by kernel_rfl, by kernel_rfl, by kernel_rfl⟩   -- struct { x int64; y int; signed bool; code abi.BoundsErrorCode }
theorem ti8 : TIok Try.prog 8 ⟨4, 24, [.int .i64 0, .int .i64 0, .bool false, .int .u8 0], [(0, 2, 1), (1, 3, 1), (2, 4, 1), (3, 6, 1)], .struct⟩ := ⟨by kernel_rfl, by kernel_rfl, by kernel_rfl, by kernel_rfl⟩   -- runtime.boundsError
theorem ti9 : TIok Try.prog 9 ⟨1, 16, [.string ByteArray.empty], [], .str⟩ := ⟨by kernel_rfl, by kernel_rfl, by kernel_rfl, by kernel_rfl⟩   -- string
theorem ti23 : TIok Try.prog 23 ⟨8, 64, [.int .i64 0, .int .i64 0, .int .i64 0, .int .i64 0, .int .i64 0, .int .i64 0, .int .i64 0, .int .i64 0], [(0, 3, 1), (1, 3, 1), (2, 3, 1), (3, 3, 1), (4, 3, 1), (5, 3, 1), (6, 3, 1), (7, 3, 1)], .struct⟩ := ⟨by kernel_rfl, by kernel_rfl, by kernel_rfl, by kernel_rfl⟩   -- api.Geo
theorem ti24 : TIok Try.prog 24 ⟨1, 24, [.slice none 0 0], [], .slice 25⟩ := ⟨by kernel_rfl, by kernel_rfl, by kernel_rfl, by kernel_rfl⟩   -- [][]api.Block
theorem ti25 : TIok Try.prog 25 ⟨1, 24, [.slice none 0 0], [], .slice 139⟩ := ⟨by kernel_rfl, by kernel_rfl, by kernel_rfl, by kernel_rfl⟩   -- []api.Block
theorem ti30 : TIok Try.prog 30 ⟨1, 24, [.slice none 0 0], [], .slice 9⟩ := ⟨by kernel_rfl, by kernel_rfl, by kernel_rfl, by kernel_rfl⟩   -- []string
theorem ti31 : TIok Try.prog 31 ⟨1, 8, [.int .i64 0], [], .int .i64⟩ := ⟨by kernel_rfl, by kernel_rfl, by kernel_rfl, by kernel_rfl⟩   -- api.Errno
theorem ti37 : TIok Try.prog 37 ⟨1, 24, [.slice none 0 0], [], .slice 156⟩ := ⟨by kernel_rfl, by kernel_rfl, by kernel_rfl, by kernel_rfl⟩   -- [][]api.Cell
theorem ti38 : TIok Try.prog 38 ⟨1, 24, [.slice none 0 0], [], .slice 3⟩ := ⟨by kernel_rfl, by kernel_rfl, by kernel_rfl, by kernel_rfl⟩   -- []int
theorem ti40 : TIok Try.prog 40 ⟨5, 104, [.slice none 0 0, .slice none 0 0, .slice none 0 0, .int .i64 0, .slice none 0 0], [(0, 30, 1), (1, 37, 1), (2, 38, 1), (3, 3, 1), (4, 38, 1)], .struct⟩ := ⟨by kernel_rfl, by kernel_rfl, by kernel_rfl, by kernel_rfl⟩   -- api.Device
theorem ti41 : TIok Try.prog 41 ⟨1, 24, [.slice none 0 0], [], .slice 99⟩ := ⟨by kernel_rfl, by kernel_rfl, by kernel_rfl, by kernel_rfl⟩   -- []api.Record
theorem ti43 : TIok Try.prog 43 ⟨2, 32, [.slice none 0 0, .int .i64 0], [(0, 41, 1), (1, 3, 1)], .struct⟩ := ⟨by kernel_rfl, by kernel_rfl, by kernel_rfl, by kernel_rfl⟩   -- api.Putting
theorem ti48 : TIok Try.prog 48 ⟨1, 1, [.int .i8 0], [], .int .i8⟩ := ⟨by kernel_rfl, by kernel_rfl, by kernel_rfl, by kernel_rfl⟩   -- int8
theorem ti50 : TIok Try.prog 50 ⟨4, 40, [.int .i8 0, .int .i64 0, .string ByteArray.empty, .int .i64 0], [(0, 48, 1), (1, 3, 1), (2, 9, 1), (3, 3, 1)], .struct⟩ := ⟨by kernel_rfl, by kernel_rfl, by kernel_rfl, by kernel_rfl⟩   -- api.Act
theorem ti65 : TIok Try.prog 65 ⟨1, 24, [.slice none 0 0], [], .slice 50⟩ := ⟨by kernel_rfl, by kernel_rfl, by kernel_rfl, by kernel_rfl⟩   -- []api.Act
theorem ti71 : TIok Try.prog 71 ⟨3, 40, [.int .i64 0, .int .i64 0, .slice none 0 0], [(0, 3, 1), (1, 3, 1), (2, 30, 1)], .struct⟩ := ⟨by kernel_rfl, by kernel_rfl, by kernel_rfl, by kernel_rfl⟩   -- api.Fetching
theorem ti99 : TIok Try.prog 99 ⟨6, 56, [.int .i64 0, .int .i64 0, .int .i64 0, .int .i64 0, .string ByteArray.empty, .int .i64 0], [(0, 3, 1), (1, 3, 1), (2, 3, 1), (3, 3, 1), (4, 9, 1), (5, 3, 1)], .struct⟩ := ⟨by kernel_rfl, by kernel_rfl, by kernel_rfl, by kernel_rfl⟩   -- api.Record
theorem ti104 : TIok Try.prog 104 ⟨1, 24, [.slice none 0 0], [], .slice 114⟩ := ⟨by kernel_rfl, by kernel_rfl, by kernel_rfl, by kernel_rfl⟩   -- []api.Cmd
theorem ti105 : TIok Try.prog 105 ⟨1, 24, [.slice none 0 0], [], .slice 126⟩ := ⟨by kernel_rfl, by kernel_rfl, by kernel_rfl, by kernel_rfl⟩   -- []api.Slot
theorem ti106 : TIok Try.prog 106 ⟨1, 24, [.slice none 0 0], [], .slice 121⟩ := ⟨by kernel_rfl, by kernel_rfl, by kernel_rfl, by kernel_rfl⟩   -- []api.Hold
theorem ti108 : TIok Try.prog 108 ⟨3, 72, [.slice none 0 0, .slice none 0 0, .slice none 0 0], [(0, 105, 1), (1, 106, 1), (2, 106, 1)], .struct⟩ := ⟨by kernel_rfl, by kernel_rfl, by kernel_rfl, by kernel_rfl⟩   -- api.Table
theorem ti112 : TIok Try.prog 112 ⟨2, 16, [.int .i64 0, .int .i64 0], [(0, 3, 1), (1, 3, 1)], .struct⟩ := ⟨by kernel_rfl, by kernel_rfl, by kernel_rfl, by kernel_rfl⟩   -- api.Span
theorem ti114 : TIok Try.prog 114 ⟨8, 64, [.int .i8 0, .int .i64 0, .int .i64 0, .int .i64 0, .int .i64 0, .int .i64 0, .int .i64 0, .int .i8 0], [(0, 48, 1), (1, 3, 1), (2, 3, 1), (3, 3, 1), (4, 3, 1), (5, 112, 2), (7, 48, 1)], .struct⟩ := ⟨by kernel_rfl, by kernel_rfl, by kernel_rfl, by kernel_rfl⟩   -- api.Cmd
theorem ti121 : TIok Try.prog 121 ⟨4, 32, [.int .i64 0, .int .i64 0, .int .i64 0, .int .i8 0], [(0, 3, 1), (1, 112, 2), (3, 48, 1)], .struct⟩ := ⟨by kernel_rfl, by kernel_rfl, by kernel_rfl, by kernel_rfl⟩   -- api.Hold
theorem ti126 : TIok Try.prog 126 ⟨2, 16, [.int .i64 0, .int .i64 0], [(0, 3, 1), (1, 3, 1)], .struct⟩ := ⟨by kernel_rfl, by kernel_rfl, by kernel_rfl, by kernel_rfl⟩   -- api.Slot
theorem ti128 : TIok Try.prog 128 ⟨1, 24, [.slice none 0 0], [], .slice 112⟩ := ⟨by kernel_rfl, by kernel_rfl, by kernel_rfl, by kernel_rfl⟩   -- []api.Span
theorem ti139 : TIok Try.prog 139 ⟨2, 24, [.int .i64 0, .string ByteArray.empty], [(0, 3, 1), (1, 9, 1)], .struct⟩ := ⟨by kernel_rfl, by kernel_rfl, by kernel_rfl, by kernel_rfl⟩   -- api.Block
theorem ti144 : TIok Try.prog 144 ⟨2, 32, [.slice none 0 0, .int .i64 0], [(0, 43, 2)], .struct⟩ := ⟨by kernel_rfl, by kernel_rfl, by kernel_rfl, by kernel_rfl⟩   -- commit.putting
theorem ti147 : TIok Try.prog 147 ⟨1, 8, [.nilFunc], [], .other⟩ := ⟨by kernel_rfl, by kernel_rfl, by kernel_rfl, by kernel_rfl⟩   -- func(int) int
theorem ti149 : TIok Try.prog 149 ⟨3, 40, [.slice none 0 0, .int .i64 0, .nilFunc], [(0, 144, 2), (2, 147, 1)], .struct⟩ := ⟨by kernel_rfl, by kernel_rfl, by kernel_rfl, by kernel_rfl⟩   -- commit.step
theorem ti156 : TIok Try.prog 156 ⟨1, 24, [.slice none 0 0], [], .slice 169⟩ := ⟨by kernel_rfl, by kernel_rfl, by kernel_rfl, by kernel_rfl⟩   -- []api.Cell
theorem ti158 : TIok Try.prog 158 ⟨4, 48, [.slice none 0 0, .int .i64 0, .int .i64 0, .int .i8 0], [(0, 156, 1), (1, 3, 1), (2, 3, 1), (3, 48, 1)], .struct⟩ := ⟨by kernel_rfl, by kernel_rfl, by kernel_rfl, by kernel_rfl⟩   -- api.Settling
theorem ti169 : TIok Try.prog 169 ⟨2, 24, [.int .i64 0, .string ByteArray.empty], [(0, 3, 1), (1, 9, 1)], .struct⟩ := ⟨by kernel_rfl, by kernel_rfl, by kernel_rfl, by kernel_rfl⟩   -- api.Cell
theorem ti172 : TIok Try.prog 172 ⟨1, 24, [.slice none 0 0], [], .slice 5⟩ := ⟨by kernel_rfl, by kernel_rfl, by kernel_rfl, by kernel_rfl⟩   -- []uint8
theorem ti175 : TIok Try.prog 175 ⟨1, 8, [.pointer none], [], .other⟩ := ⟨by kernel_rfl, by kernel_rfl, by kernel_rfl, by kernel_rfl⟩   -- *fetch.way
theorem ti177 : TIok Try.prog 177 ⟨11, 104, [.int .i64 0, .int .i64 0, .slice none 0 0, .int .i64 0, .int .i64 0, .int .i64 0, .int .i64 0, .int .i64 0, .int .i64 0, .int .i64 0, .int .i64 0], [(0, 71, 3), (3, 23, 8)], .struct⟩ := ⟨by kernel_rfl, by kernel_rfl, by kernel_rfl, by kernel_rfl⟩   -- fetch.way
theorem ti180 : TIok Try.prog 180 ⟨1, 8, [.pointer none], [], .other⟩ := ⟨by kernel_rfl, by kernel_rfl, by kernel_rfl, by kernel_rfl⟩   -- *super.disk
theorem ti182 : TIok Try.prog 182 ⟨8, 64, [.int .i64 0, .int .i64 0, .int .i64 0, .int .i64 0, .int .i64 0, .int .i64 0, .int .i64 0, .int .i64 0], [(0, 23, 8)], .struct⟩ := ⟨by kernel_rfl, by kernel_rfl, by kernel_rfl, by kernel_rfl⟩   -- super.shape
theorem ti184 : TIok Try.prog 184 ⟨9, 88, [.int .i64 0, .int .i64 0, .int .i64 0, .int .i64 0, .int .i64 0, .int .i64 0, .int .i64 0, .int .i64 0, .slice none 0 0], [(0, 182, 8), (8, 30, 1)], .struct⟩ := ⟨by kernel_rfl, by kernel_rfl, by kernel_rfl, by kernel_rfl⟩   -- super.disk
theorem ti188 : TIok Try.prog 188 ⟨1, 8, [.pointer none], [], .other⟩ := ⟨by kernel_rfl, by kernel_rfl, by kernel_rfl, by kernel_rfl⟩   -- *super.shape
theorem ti192 : TIok Try.prog 192 ⟨1, 24, [.slice none 0 0], [], .slice 194⟩ := ⟨by kernel_rfl, by kernel_rfl, by kernel_rfl, by kernel_rfl⟩   -- []*int
theorem ti194 : TIok Try.prog 194 ⟨1, 8, [.pointer none], [], .other⟩ := ⟨by kernel_rfl, by kernel_rfl, by kernel_rfl, by kernel_rfl⟩   -- *int
theorem ti196 : TIok Try.prog 196 ⟨1, 8, [.nilFunc], [], .other⟩ := ⟨by kernel_rfl, by kernel_rfl, by kernel_rfl, by kernel_rfl⟩   -- func(api.Record) bool
theorem ti199 : TIok Try.prog 199 ⟨1, 8, [.map none], [], .other⟩ := ⟨by kernel_rfl, by kernel_rfl, by kernel_rfl, by kernel_rfl⟩   -- scan.texts
theorem ti204 : TIok Try.prog 204 ⟨10, 96, [.int .i64 0, .int .i64 0, .int .i64 0, .int .i64 0, .int .i64 0, .int .i64 0, .int .i64 0, .int .i64 0, .slice none 0 0, .int .i64 0], [(0, 23, 8), (8, 30, 1), (9, 3, 1)], .struct⟩ := ⟨by kernel_rfl, by kernel_rfl, by kernel_rfl, by kernel_rfl⟩   -- scan.journal
theorem ti211 : TIok Try.prog 211 ⟨1, 8, [.nilFunc], [], .other⟩ := ⟨by kernel_rfl, by kernel_rfl, by kernel_rfl, by kernel_rfl⟩   -- func(int) bool
theorem ti212 : TIok Try.prog 212 ⟨1, 8, [.nilFunc], [], .other⟩ := ⟨by kernel_rfl, by kernel_rfl, by kernel_rfl, by kernel_rfl⟩   -- func(*table.book, api.Cmd)
theorem ti213 : TIok Try.prog 213 ⟨6, 48, [.nilFunc, .nilFunc, .nilFunc, .nilFunc, .nilFunc, .nilFunc], [], .arr 6 212⟩ := ⟨by kernel_rfl, by kernel_rfl, by kernel_rfl, by kernel_rfl⟩   -- [6]func(*table.book, api.Cmd)
theorem ti215 : TIok Try.prog 215 ⟨1, 8, [.pointer none], [], .other⟩ := ⟨by kernel_rfl, by kernel_rfl, by kernel_rfl, by kernel_rfl⟩   -- *table.book
theorem ti218 : TIok Try.prog 218 ⟨11, 136, [.slice none 0 0, .slice none 0 0, .slice none 0 0, .int .i64 0, .int .i64 0, .int .i64 0, .int .i64 0, .int .i64 0, .int .i64 0, .int .i64 0, .int .i64 0], [(0, 108, 3), (3, 23, 8)], .struct⟩ := ⟨by kernel_rfl, by kernel_rfl, by kernel_rfl, by kernel_rfl⟩   -- table.book
theorem ti225 : TIok Try.prog 225 ⟨1, 8, [.map none], [], .other⟩ := ⟨by kernel_rfl, by kernel_rfl, by kernel_rfl, by kernel_rfl⟩   -- map[int]int
theorem ti231 : TIok Try.prog 231 ⟨2, 16, [.int .i64 0, .int .i64 0], [(0, 3, 1), (1, 3, 1)], .struct⟩ := ⟨by kernel_rfl, by kernel_rfl, by kernel_rfl, by kernel_rfl⟩   -- lock.owner
theorem ti233 : TIok Try.prog 233 ⟨5, 88, [.int .i64 0, .int .i64 0, .slice none 0 0, .slice none 0 0, .slice none 0 0], [(0, 231, 2), (2, 108, 3)], .struct⟩ := ⟨by kernel_rfl, by kernel_rfl, by kernel_rfl, by kernel_rfl⟩   -- lock.view
theorem ti236 : TIok Try.prog 236 ⟨1, 8, [.nilFunc], [], .other⟩ := ⟨by kernel_rfl, by kernel_rfl, by kernel_rfl, by kernel_rfl⟩   -- func(api.Hold) bool
theorem ti252 : TIok Try.prog 252 ⟨1, 8, [.pointer none], [], .other⟩ := ⟨by kernel_rfl, by kernel_rfl, by kernel_rfl, by kernel_rfl⟩   -- *device.world
theorem ti254 : TIok Try.prog 254 ⟨5, 104, [.slice none 0 0, .slice none 0 0, .slice none 0 0, .int .i64 0, .slice none 0 0], [(0, 40, 5)], .struct⟩ := ⟨by kernel_rfl, by kernel_rfl, by kernel_rfl, by kernel_rfl⟩   -- device.world
theorem ti257 : TIok Try.prog 257 ⟨2, 16, [.int .i64 0, .int .i64 0], [(0, 3, 1), (1, 3, 1)], .struct⟩ := ⟨by kernel_rfl, by kernel_rfl, by kernel_rfl, by kernel_rfl⟩   -- geo.stretch
theorem ti259 : TIok Try.prog 259 ⟨4, 32, [.int .i64 0, .int .i64 0, .int .i8 0, .int .i64 0], [(0, 257, 2), (2, 48, 1), (3, 3, 1)], .struct⟩ := ⟨by kernel_rfl, by kernel_rfl, by kernel_rfl, by kernel_rfl⟩   -- geo.region
theorem ti261 : TIok Try.prog 261 ⟨1, 8, [.pointer none], [], .other⟩ := ⟨by kernel_rfl, by kernel_rfl, by kernel_rfl, by kernel_rfl⟩   -- *strings.Builder
theorem ti263 : TIok Try.prog 263 ⟨2, 32, [.pointer none, .slice none 0 0], [(0, 261, 1), (1, 172, 1)], .struct⟩ := ⟨by kernel_rfl, by kernel_rfl, by kernel_rfl, by kernel_rfl⟩   -- strings.Builder
theorem ti270 : TIok Try.prog 270 ⟨1, 8, [.nilFunc], [], .other⟩ := ⟨by kernel_rfl, by kernel_rfl, by kernel_rfl, by kernel_rfl⟩   -- func(string) bool
theorem ti274 : TIok Try.prog 274 ⟨1, 8, [.pointer none], [], .other⟩ := ⟨by kernel_rfl, by kernel_rfl, by kernel_rfl, by kernel_rfl⟩   -- *seal.sector
theorem ti276 : TIok Try.prog 276 ⟨2, 32, [.slice none 0 0, .int .i64 0], [(0, 172, 1), (1, 31, 1)], .struct⟩ := ⟨by kernel_rfl, by kernel_rfl, by kernel_rfl, by kernel_rfl⟩   -- seal.bytes
theorem ti278 : TIok Try.prog 278 ⟨3, 40, [.slice none 0 0, .int .i64 0, .int .i8 0], [(0, 276, 2), (2, 48, 1)], .struct⟩ := ⟨by kernel_rfl, by kernel_rfl, by kernel_rfl, by kernel_rfl⟩   -- seal.sector
theorem ti285 : TIok Try.prog 285 ⟨1, 24, [.slice none 0 0], [], .slice 106⟩ := ⟨by kernel_rfl, by kernel_rfl, by kernel_rfl, by kernel_rfl⟩   -- [][]api.Hold
theorem ti288 : TIok Try.prog 288 ⟨1, 8, [.map none], [], .other⟩ := ⟨by kernel_rfl, by kernel_rfl, by kernel_rfl, by kernel_rfl⟩   -- map[int]bool
theorem ti289 : TIok Try.prog 289 ⟨1, 8, [.pointer none], [], .other⟩ := ⟨by kernel_rfl, by kernel_rfl, by kernel_rfl, by kernel_rfl⟩   -- *[]api.Hold
theorem ti297 : TIok Try.prog 297 ⟨1, 8, [.int .u64 0], [], .int .u64⟩ := ⟨by kernel_rfl, by kernel_rfl, by kernel_rfl, by kernel_rfl⟩   -- uint
theorem ti298 : TIok Try.prog 298 ⟨1, 8, [.pointer none], [], .other⟩ := ⟨by kernel_rfl, by kernel_rfl, by kernel_rfl, by kernel_rfl⟩   -- *record.entry
theorem ti300 : TIok Try.prog 300 ⟨6, 56, [.int .i64 0, .int .i64 0, .int .i64 0, .int .i64 0, .string ByteArray.empty, .int .i64 0], [(0, 99, 6)], .struct⟩ := ⟨by kernel_rfl, by kernel_rfl, by kernel_rfl, by kernel_rfl⟩   -- record.entry
theorem ti304 : TIok Try.prog 304 ⟨1, 24, [.slice none 0 0], [(0, 25, 1)], .struct⟩ := ⟨by kernel_rfl, by kernel_rfl, by kernel_rfl, by kernel_rfl⟩   -- buffer.row
theorem ti308 : TIok Try.prog 308 ⟨1, 24, [.slice none 0 0], [], .slice 259⟩ := ⟨by kernel_rfl, by kernel_rfl, by kernel_rfl, by kernel_rfl⟩   -- []geo.region
theorem ti310 : TIok Try.prog 310 ⟨1, 8, [.pointer none], [], .other⟩ := ⟨by kernel_rfl, by kernel_rfl, by kernel_rfl, by kernel_rfl⟩   -- *uint8
theorem ti314 : TIok Try.prog 314 ⟨1, 8, [.int .i64 0], [], .int .i64⟩ := ⟨by kernel_rfl, by kernel_rfl, by kernel_rfl, by kernel_rfl⟩   -- num.width
theorem ti315 : TIok Try.prog 315 ⟨1, 8, [.pointer none], [], .other⟩ := ⟨by kernel_rfl, by kernel_rfl, by kernel_rfl, by kernel_rfl⟩   -- *seal.bytes
theorem ti317 : TIok Try.prog 317 ⟨1, 8, [.nilFunc], [], .other⟩ := ⟨by kernel_rfl, by kernel_rfl, by kernel_rfl, by kernel_rfl⟩   -- func(api.Slot) bool
theorem ti319 : TIok Try.prog 319 ⟨1, 8, [.nilFunc], [], .other⟩ := ⟨by kernel_rfl, by kernel_rfl, by kernel_rfl, by kernel_rfl⟩   -- table.cond
theorem ti324 : TIok Try.prog 324 ⟨2, 16, [.int .i64 0, .int .i64 0], [(0, 112, 2)], .struct⟩ := ⟨by kernel_rfl, by kernel_rfl, by kernel_rfl, by kernel_rfl⟩   -- span.blocks
theorem ti327 : TIok Try.prog 327 ⟨1, 24, [.slice none 0 0], [], .slice 319⟩ := ⟨by kernel_rfl, by kernel_rfl, by kernel_rfl, by kernel_rfl⟩   -- []table.cond
theorem ti329 : TIok Try.prog 329 ⟨1, 8, [.nilFunc], [], .other⟩ := ⟨by kernel_rfl, by kernel_rfl, by kernel_rfl, by kernel_rfl⟩   -- func(table.cond) bool
theorem ti331 : TIok Try.prog 331 ⟨4, 32, [.int .i64 0, .int .i64 0, .int .i64 0, .int .i8 0], [(0, 324, 2), (2, 3, 1), (3, 48, 1)], .struct⟩ := ⟨by kernel_rfl, by kernel_rfl, by kernel_rfl, by kernel_rfl⟩   -- span.hold
theorem ti335 : TIok Try.prog 335 ⟨1, 8, [.pointer none], [], .other⟩ := ⟨by kernel_rfl, by kernel_rfl, by kernel_rfl, by kernel_rfl⟩   -- *buffer.row
theorem ti337 : TIok Try.prog 337 ⟨1, 8, [.nilFunc], [], .other⟩ := ⟨by kernel_rfl, by kernel_rfl, by kernel_rfl, by kernel_rfl⟩   -- func(api.Block) bool
theorem ti342 : TIok Try.prog 342 ⟨1, 8, [.pointer none], [], .other⟩ := ⟨by kernel_rfl, by kernel_rfl, by kernel_rfl, by kernel_rfl⟩   -- *command.order
theorem ti344 : TIok Try.prog 344 ⟨9, 88, [.int .i8 0, .int .i64 0, .int .i64 0, .int .i64 0, .int .i64 0, .int .i64 0, .int .i64 0, .int .i8 0, .slice none 0 0], [(0, 114, 8), (8, 172, 1)], .struct⟩ := ⟨by kernel_rfl, by kernel_rfl, by kernel_rfl, by kernel_rfl⟩   -- command.order
theorem ti347 : TIok Try.prog 347 ⟨1, 8, [.pointer none], [], .other⟩ := ⟨by kernel_rfl, by kernel_rfl, by kernel_rfl, by kernel_rfl⟩   -- *crc.summer
theorem ti350 : TIok Try.prog 350 ⟨1, 4, [.int .u32 0], [], .int .u32⟩ := ⟨by kernel_rfl, by kernel_rfl, by kernel_rfl, by kernel_rfl⟩   -- uint32
theorem ti352 : TIok Try.prog 352 ⟨1, 4, [.int .u32 0], [(0, 350, 1)], .struct⟩ := ⟨by kernel_rfl, by kernel_rfl, by kernel_rfl, by kernel_rfl⟩   -- crc.register
theorem ti353 : TIok Try.prog 353 ⟨16, 64, [.int .u32 0, .int .u32 0, .int .u32 0, .int .u32 0, .int .u32 0, .int .u32 0, .int .u32 0, .int .u32 0, .int .u32 0, .int .u32 0, .int .u32 0, .int .u32 0, .int .u32 0, .int .u32 0, .int .u32 0, .int .u32 0], [], .arr 16 350⟩ := ⟨by kernel_rfl, by kernel_rfl, by kernel_rfl, by kernel_rfl⟩   -- [16]uint32
theorem ti355 : TIok Try.prog 355 ⟨17, 68, [.int .u32 0, .int .u32 0, .int .u32 0, .int .u32 0, .int .u32 0, .int .u32 0, .int .u32 0, .int .u32 0, .int .u32 0, .int .u32 0, .int .u32 0, .int .u32 0, .int .u32 0, .int .u32 0, .int .u32 0, .int .u32 0, .int .u32 0], [(0, 352, 1), (1, 353, 16)], .struct⟩ := ⟨by kernel_rfl, by kernel_rfl, by kernel_rfl, by kernel_rfl⟩   -- crc.summer
theorem ti357 : TIok Try.prog 357 ⟨1, 8, [.int .u64 0], [], .int .u64⟩ := ⟨by kernel_rfl, by kernel_rfl, by kernel_rfl, by kernel_rfl⟩   -- uint64
theorem ti358 : TIok Try.prog 358 ⟨1, 8, [.pointer none], [], .other⟩ := ⟨by kernel_rfl, by kernel_rfl, by kernel_rfl, by kernel_rfl⟩   -- *crc.register
theorem tok : TTok Try.prog tt := TTok.cons ti1 <| TTok.cons ti2 <| TTok.cons ti3 <| TTok.cons ti4 <| TTok.cons ti5 <| TTok.cons ti6 <| TTok.cons ti7 <| TTok.cons ti8 <| TTok.cons ti9 <| TTok.cons ti23 <| TTok.cons ti24 <| TTok.cons ti25 <| TTok.cons ti30 <| TTok.cons ti31 <| TTok.cons ti37 <| TTok.cons ti38 <| TTok.cons ti40 <| TTok.cons ti41 <| TTok.cons ti43 <| TTok.cons ti48 <| TTok.cons ti50 <| TTok.cons ti65 <| TTok.cons ti71 <| TTok.cons ti99 <| TTok.cons ti104 <| TTok.cons ti105 <| TTok.cons ti106 <| TTok.cons ti108 <| TTok.cons ti112 <| TTok.cons ti114 <| TTok.cons ti121 <| TTok.cons ti126 <| TTok.cons ti128 <| TTok.cons ti139 <| TTok.cons ti144 <| TTok.cons ti147 <| TTok.cons ti149 <| TTok.cons ti156 <| TTok.cons ti158 <| TTok.cons ti169 <| TTok.cons ti172 <| TTok.cons ti175 <| TTok.cons ti177 <| TTok.cons ti180 <| TTok.cons ti182 <| TTok.cons ti184 <| TTok.cons ti188 <| TTok.cons ti192 <| TTok.cons ti194 <| TTok.cons ti196 <| TTok.cons ti199 <| TTok.cons ti204 <| TTok.cons ti211 <| TTok.cons ti212 <| TTok.cons ti213 <| TTok.cons ti215 <| TTok.cons ti218 <| TTok.cons ti225 <| TTok.cons ti231 <| TTok.cons ti233 <| TTok.cons ti236 <| TTok.cons ti252 <| TTok.cons ti254 <| TTok.cons ti257 <| TTok.cons ti259 <| TTok.cons ti261 <| TTok.cons ti263 <| TTok.cons ti270 <| TTok.cons ti274 <| TTok.cons ti276 <| TTok.cons ti278 <| TTok.cons ti285 <| TTok.cons ti288 <| TTok.cons ti289 <| TTok.cons ti297 <| TTok.cons ti298 <| TTok.cons ti300 <| TTok.cons ti304 <| TTok.cons ti308 <| TTok.cons ti310 <| TTok.cons ti314 <| TTok.cons ti315 <| TTok.cons ti317 <| TTok.cons ti319 <| TTok.cons ti324 <| TTok.cons ti327 <| TTok.cons ti329 <| TTok.cons ti331 <| TTok.cons ti335 <| TTok.cons ti337 <| TTok.cons ti342 <| TTok.cons ti344 <| TTok.cons ti347 <| TTok.cons ti350 <| TTok.cons ti352 <| TTok.cons ti353 <| TTok.cons ti355 <| TTok.cons ti357 <| TTok.cons ti358 <| TTok.nil _

theorem fnok3 : FnOk Try.prog 3 := ⟨_, Try.func3, by kernel_rfl, by kernel_rfl⟩
theorem fnok4 : FnOk Try.prog 4 := ⟨_, Try.func4, by kernel_rfl, by kernel_rfl⟩
theorem fnok5 : FnOk Try.prog 5 := ⟨_, Try.func5, by kernel_rfl, by kernel_rfl⟩
theorem fnok6 : FnOk Try.prog 6 := ⟨_, Try.func6, by kernel_rfl, by kernel_rfl⟩
theorem fnok7 : FnOk Try.prog 7 := ⟨_, Try.func7, by kernel_rfl, by kernel_rfl⟩
theorem fnok8 : FnOk Try.prog 8 := ⟨_, Try.func8, by kernel_rfl, by kernel_rfl⟩
theorem fnok9 : FnOk Try.prog 9 := ⟨_, Try.func9, by kernel_rfl, by kernel_rfl⟩
theorem fnok10 : FnOk Try.prog 10 := ⟨_, Try.func10, by kernel_rfl, by kernel_rfl⟩
theorem fnok11 : FnOk Try.prog 11 := ⟨_, Try.func11, by kernel_rfl, by kernel_rfl⟩
theorem fnok12 : FnOk Try.prog 12 := ⟨_, Try.func12, by kernel_rfl, by kernel_rfl⟩
theorem fnok13 : FnOk Try.prog 13 := ⟨_, Try.func13, by kernel_rfl, by kernel_rfl⟩
theorem fnok14 : FnOk Try.prog 14 := ⟨_, Try.func14, by kernel_rfl, by kernel_rfl⟩
theorem fnok15 : FnOk Try.prog 15 := ⟨_, Try.func15, by kernel_rfl, by kernel_rfl⟩
theorem fnok16 : FnOk Try.prog 16 := ⟨_, Try.func16, by kernel_rfl, by kernel_rfl⟩
theorem fnok17 : FnOk Try.prog 17 := ⟨_, Try.func17, by kernel_rfl, by kernel_rfl⟩
theorem fnok18 : FnOk Try.prog 18 := ⟨_, Try.func18, by kernel_rfl, by kernel_rfl⟩
theorem fnok19 : FnOk Try.prog 19 := ⟨_, Try.func19, by kernel_rfl, by kernel_rfl⟩
theorem fnok20 : FnOk Try.prog 20 := ⟨_, Try.func20, by kernel_rfl, by kernel_rfl⟩
theorem fnok21 : FnOk Try.prog 21 := ⟨_, Try.func21, by kernel_rfl, by kernel_rfl⟩
theorem fnok22 : FnOk Try.prog 22 := ⟨_, Try.func22, by kernel_rfl, by kernel_rfl⟩
theorem fnok23 : FnOk Try.prog 23 := ⟨_, Try.func23, by kernel_rfl, by kernel_rfl⟩
theorem fnok24 : FnOk Try.prog 24 := ⟨_, Try.func24, by kernel_rfl, by kernel_rfl⟩
theorem fnok25 : FnOk Try.prog 25 := ⟨_, Try.func25, by kernel_rfl, by kernel_rfl⟩
theorem fnok26 : FnOk Try.prog 26 := ⟨_, Try.func26, by kernel_rfl, by kernel_rfl⟩
theorem fnok27 : FnOk Try.prog 27 := ⟨_, Try.func27, by kernel_rfl, by kernel_rfl⟩
theorem fnok28 : FnOk Try.prog 28 := ⟨_, Try.func28, by kernel_rfl, by kernel_rfl⟩
theorem fnok29 : FnOk Try.prog 29 := ⟨_, Try.func29, by kernel_rfl, by kernel_rfl⟩
theorem fnok30 : FnOk Try.prog 30 := ⟨_, Try.func30, by kernel_rfl, by kernel_rfl⟩
theorem fnok31 : FnOk Try.prog 31 := ⟨_, Try.func31, by kernel_rfl, by kernel_rfl⟩
theorem fnok32 : FnOk Try.prog 32 := ⟨_, Try.func32, by kernel_rfl, by kernel_rfl⟩
theorem fnok33 : FnOk Try.prog 33 := ⟨_, Try.func33, by kernel_rfl, by kernel_rfl⟩
theorem fnok34 : FnOk Try.prog 34 := ⟨_, Try.func34, by kernel_rfl, by kernel_rfl⟩
theorem fnok35 : FnOk Try.prog 35 := ⟨_, Try.func35, by kernel_rfl, by kernel_rfl⟩
theorem fnok36 : FnOk Try.prog 36 := ⟨_, Try.func36, by kernel_rfl, by kernel_rfl⟩
theorem fnok37 : FnOk Try.prog 37 := ⟨_, Try.func37, by kernel_rfl, by kernel_rfl⟩
theorem fnok38 : FnOk Try.prog 38 := ⟨_, Try.func38, by kernel_rfl, by kernel_rfl⟩
theorem fnok39 : FnOk Try.prog 39 := ⟨_, Try.func39, by kernel_rfl, by kernel_rfl⟩
theorem fnok40 : FnOk Try.prog 40 := ⟨_, Try.func40, by kernel_rfl, by kernel_rfl⟩
theorem fnok41 : FnOk Try.prog 41 := ⟨_, Try.func41, by kernel_rfl, by kernel_rfl⟩
theorem fnok42 : FnOk Try.prog 42 := ⟨_, Try.func42, by kernel_rfl, by kernel_rfl⟩
theorem fnok43 : FnOk Try.prog 43 := ⟨_, Try.func43, by kernel_rfl, by kernel_rfl⟩
theorem fnok44 : FnOk Try.prog 44 := ⟨_, Try.func44, by kernel_rfl, by kernel_rfl⟩
theorem fnok45 : FnOk Try.prog 45 := ⟨_, Try.func45, by kernel_rfl, by kernel_rfl⟩
theorem fnok46 : FnOk Try.prog 46 := ⟨_, Try.func46, by kernel_rfl, by kernel_rfl⟩
theorem fnok47 : FnOk Try.prog 47 := ⟨_, Try.func47, by kernel_rfl, by kernel_rfl⟩
theorem fnok48 : FnOk Try.prog 48 := ⟨_, Try.func48, by kernel_rfl, by kernel_rfl⟩
theorem fnok49 : FnOk Try.prog 49 := ⟨_, Try.func49, by kernel_rfl, by kernel_rfl⟩
theorem fnok50 : FnOk Try.prog 50 := ⟨_, Try.func50, by kernel_rfl, by kernel_rfl⟩
theorem fnok51 : FnOk Try.prog 51 := ⟨_, Try.func51, by kernel_rfl, by kernel_rfl⟩
theorem fnok52 : FnOk Try.prog 52 := ⟨_, Try.func52, by kernel_rfl, by kernel_rfl⟩
theorem fnok53 : FnOk Try.prog 53 := ⟨_, Try.func53, by kernel_rfl, by kernel_rfl⟩
theorem fnok54 : FnOk Try.prog 54 := ⟨_, Try.func54, by kernel_rfl, by kernel_rfl⟩
theorem fnok55 : FnOk Try.prog 55 := ⟨_, Try.func55, by kernel_rfl, by kernel_rfl⟩
theorem fnok56 : FnOk Try.prog 56 := ⟨_, Try.func56, by kernel_rfl, by kernel_rfl⟩
theorem fnok57 : FnOk Try.prog 57 := ⟨_, Try.func57, by kernel_rfl, by kernel_rfl⟩
theorem fnok58 : FnOk Try.prog 58 := ⟨_, Try.func58, by kernel_rfl, by kernel_rfl⟩
theorem fnok59 : FnOk Try.prog 59 := ⟨_, Try.func59, by kernel_rfl, by kernel_rfl⟩
theorem fnok60 : FnOk Try.prog 60 := ⟨_, Try.func60, by kernel_rfl, by kernel_rfl⟩
theorem fnok61 : FnOk Try.prog 61 := ⟨_, Try.func61, by kernel_rfl, by kernel_rfl⟩
theorem fnok62 : FnOk Try.prog 62 := ⟨_, Try.func62, by kernel_rfl, by kernel_rfl⟩
theorem fnok63 : FnOk Try.prog 63 := ⟨_, Try.func63, by kernel_rfl, by kernel_rfl⟩
theorem fnok64 : FnOk Try.prog 64 := ⟨_, Try.func64, by kernel_rfl, by kernel_rfl⟩
theorem fnok65 : FnOk Try.prog 65 := ⟨_, Try.func65, by kernel_rfl, by kernel_rfl⟩
theorem fnok66 : FnOk Try.prog 66 := ⟨_, Try.func66, by kernel_rfl, by kernel_rfl⟩
theorem fnok67 : FnOk Try.prog 67 := ⟨_, Try.func67, by kernel_rfl, by kernel_rfl⟩
theorem fnok68 : FnOk Try.prog 68 := ⟨_, Try.func68, by kernel_rfl, by kernel_rfl⟩
theorem fnok69 : FnOk Try.prog 69 := ⟨_, Try.func69, by kernel_rfl, by kernel_rfl⟩
theorem fnok70 : FnOk Try.prog 70 := ⟨_, Try.func70, by kernel_rfl, by kernel_rfl⟩
theorem fnok71 : FnOk Try.prog 71 := ⟨_, Try.func71, by kernel_rfl, by kernel_rfl⟩
theorem fnok72 : FnOk Try.prog 72 := ⟨_, Try.func72, by kernel_rfl, by kernel_rfl⟩
theorem fnok73 : FnOk Try.prog 73 := ⟨_, Try.func73, by kernel_rfl, by kernel_rfl⟩
theorem fnok74 : FnOk Try.prog 74 := ⟨_, Try.func74, by kernel_rfl, by kernel_rfl⟩
theorem fnok75 : FnOk Try.prog 75 := ⟨_, Try.func75, by kernel_rfl, by kernel_rfl⟩
theorem fnok76 : FnOk Try.prog 76 := ⟨_, Try.func76, by kernel_rfl, by kernel_rfl⟩
theorem fnok77 : FnOk Try.prog 77 := ⟨_, Try.func77, by kernel_rfl, by kernel_rfl⟩
theorem fnok78 : FnOk Try.prog 78 := ⟨_, Try.func78, by kernel_rfl, by kernel_rfl⟩
theorem fnok79 : FnOk Try.prog 79 := ⟨_, Try.func79, by kernel_rfl, by kernel_rfl⟩
theorem fnok80 : FnOk Try.prog 80 := ⟨_, Try.func80, by kernel_rfl, by kernel_rfl⟩
theorem fnok81 : FnOk Try.prog 81 := ⟨_, Try.func81, by kernel_rfl, by kernel_rfl⟩
theorem fnok82 : FnOk Try.prog 82 := ⟨_, Try.func82, by kernel_rfl, by kernel_rfl⟩
theorem fnok83 : FnOk Try.prog 83 := ⟨_, Try.func83, by kernel_rfl, by kernel_rfl⟩
theorem fnok84 : FnOk Try.prog 84 := ⟨_, Try.func84, by kernel_rfl, by kernel_rfl⟩
theorem fnok85 : FnOk Try.prog 85 := ⟨_, Try.func85, by kernel_rfl, by kernel_rfl⟩
theorem fnok86 : FnOk Try.prog 86 := ⟨_, Try.func86, by kernel_rfl, by kernel_rfl⟩
theorem fnok87 : FnOk Try.prog 87 := ⟨_, Try.func87, by kernel_rfl, by kernel_rfl⟩
theorem fnok88 : FnOk Try.prog 88 := ⟨_, Try.func88, by kernel_rfl, by kernel_rfl⟩
theorem fnok89 : FnOk Try.prog 89 := ⟨_, Try.func89, by kernel_rfl, by kernel_rfl⟩
theorem fnok90 : FnOk Try.prog 90 := ⟨_, Try.func90, by kernel_rfl, by kernel_rfl⟩
theorem fnok91 : FnOk Try.prog 91 := ⟨_, Try.func91, by kernel_rfl, by kernel_rfl⟩
theorem fnok92 : FnOk Try.prog 92 := ⟨_, Try.func92, by kernel_rfl, by kernel_rfl⟩
theorem fnok93 : FnOk Try.prog 93 := ⟨_, Try.func93, by kernel_rfl, by kernel_rfl⟩
theorem fnok94 : FnOk Try.prog 94 := ⟨_, Try.func94, by kernel_rfl, by kernel_rfl⟩
theorem fnok95 : FnOk Try.prog 95 := ⟨_, Try.func95, by kernel_rfl, by kernel_rfl⟩
theorem fnok96 : FnOk Try.prog 96 := ⟨_, Try.func96, by kernel_rfl, by kernel_rfl⟩
theorem fnok97 : FnOk Try.prog 97 := ⟨_, Try.func97, by kernel_rfl, by kernel_rfl⟩
theorem fnok98 : FnOk Try.prog 98 := ⟨_, Try.func98, by kernel_rfl, by kernel_rfl⟩
theorem fnok99 : FnOk Try.prog 99 := ⟨_, Try.func99, by kernel_rfl, by kernel_rfl⟩
theorem fnok100 : FnOk Try.prog 100 := ⟨_, Try.func100, by kernel_rfl, by kernel_rfl⟩
theorem fnok101 : FnOk Try.prog 101 := ⟨_, Try.func101, by kernel_rfl, by kernel_rfl⟩
theorem fnok102 : FnOk Try.prog 102 := ⟨_, Try.func102, by kernel_rfl, by kernel_rfl⟩
theorem fnok103 : FnOk Try.prog 103 := ⟨_, Try.func103, by kernel_rfl, by kernel_rfl⟩
theorem fnok104 : FnOk Try.prog 104 := ⟨_, Try.func104, by kernel_rfl, by kernel_rfl⟩
theorem fnok105 : FnOk Try.prog 105 := ⟨_, Try.func105, by kernel_rfl, by kernel_rfl⟩
theorem fnok106 : FnOk Try.prog 106 := ⟨_, Try.func106, by kernel_rfl, by kernel_rfl⟩
theorem fnok107 : FnOk Try.prog 107 := ⟨_, Try.func107, by kernel_rfl, by kernel_rfl⟩
theorem fnok108 : FnOk Try.prog 108 := ⟨_, Try.func108, by kernel_rfl, by kernel_rfl⟩
theorem fnok109 : FnOk Try.prog 109 := ⟨_, Try.func109, by kernel_rfl, by kernel_rfl⟩
theorem fnok110 : FnOk Try.prog 110 := ⟨_, Try.func110, by kernel_rfl, by kernel_rfl⟩
theorem fnok111 : FnOk Try.prog 111 := ⟨_, Try.func111, by kernel_rfl, by kernel_rfl⟩
theorem fnok112 : FnOk Try.prog 112 := ⟨_, Try.func112, by kernel_rfl, by kernel_rfl⟩
theorem fnok113 : FnOk Try.prog 113 := ⟨_, Try.func113, by kernel_rfl, by kernel_rfl⟩
theorem fnok114 : FnOk Try.prog 114 := ⟨_, Try.func114, by kernel_rfl, by kernel_rfl⟩
theorem fnok115 : FnOk Try.prog 115 := ⟨_, Try.func115, by kernel_rfl, by kernel_rfl⟩
theorem fnok116 : FnOk Try.prog 116 := ⟨_, Try.func116, by kernel_rfl, by kernel_rfl⟩
theorem fnok117 : FnOk Try.prog 117 := ⟨_, Try.func117, by kernel_rfl, by kernel_rfl⟩
theorem fnok118 : FnOk Try.prog 118 := ⟨_, Try.func118, by kernel_rfl, by kernel_rfl⟩
theorem fnok119 : FnOk Try.prog 119 := ⟨_, Try.func119, by kernel_rfl, by kernel_rfl⟩
theorem fnok120 : FnOk Try.prog 120 := ⟨_, Try.func120, by kernel_rfl, by kernel_rfl⟩
theorem fnok121 : FnOk Try.prog 121 := ⟨_, Try.func121, by kernel_rfl, by kernel_rfl⟩
theorem fnok122 : FnOk Try.prog 122 := ⟨_, Try.func122, by kernel_rfl, by kernel_rfl⟩
theorem fnok123 : FnOk Try.prog 123 := ⟨_, Try.func123, by kernel_rfl, by kernel_rfl⟩
theorem fnok124 : FnOk Try.prog 124 := ⟨_, Try.func124, by kernel_rfl, by kernel_rfl⟩
theorem fnok125 : FnOk Try.prog 125 := ⟨_, Try.func125, by kernel_rfl, by kernel_rfl⟩
theorem fnok126 : FnOk Try.prog 126 := ⟨_, Try.func126, by kernel_rfl, by kernel_rfl⟩
theorem fnok127 : FnOk Try.prog 127 := ⟨_, Try.func127, by kernel_rfl, by kernel_rfl⟩
theorem fnok128 : FnOk Try.prog 128 := ⟨_, Try.func128, by kernel_rfl, by kernel_rfl⟩
theorem fnok129 : FnOk Try.prog 129 := ⟨_, Try.func129, by kernel_rfl, by kernel_rfl⟩
theorem fnok130 : FnOk Try.prog 130 := ⟨_, Try.func130, by kernel_rfl, by kernel_rfl⟩
theorem fnok131 : FnOk Try.prog 131 := ⟨_, Try.func131, by kernel_rfl, by kernel_rfl⟩
theorem fnok132 : FnOk Try.prog 132 := ⟨_, Try.func132, by kernel_rfl, by kernel_rfl⟩
theorem fnok133 : FnOk Try.prog 133 := ⟨_, Try.func133, by kernel_rfl, by kernel_rfl⟩
theorem fnok134 : FnOk Try.prog 134 := ⟨_, Try.func134, by kernel_rfl, by kernel_rfl⟩
theorem fnok135 : FnOk Try.prog 135 := ⟨_, Try.func135, by kernel_rfl, by kernel_rfl⟩
theorem fnok136 : FnOk Try.prog 136 := ⟨_, Try.func136, by kernel_rfl, by kernel_rfl⟩
theorem fnok137 : FnOk Try.prog 137 := ⟨_, Try.func137, by kernel_rfl, by kernel_rfl⟩
theorem fnok138 : FnOk Try.prog 138 := ⟨_, Try.func138, by kernel_rfl, by kernel_rfl⟩
theorem fnok139 : FnOk Try.prog 139 := ⟨_, Try.func139, by kernel_rfl, by kernel_rfl⟩
theorem fnok140 : FnOk Try.prog 140 := ⟨_, Try.func140, by kernel_rfl, by kernel_rfl⟩
theorem fnok141 : FnOk Try.prog 141 := ⟨_, Try.func141, by kernel_rfl, by kernel_rfl⟩
theorem fnok142 : FnOk Try.prog 142 := ⟨_, Try.func142, by kernel_rfl, by kernel_rfl⟩
theorem fnok143 : FnOk Try.prog 143 := ⟨_, Try.func143, by kernel_rfl, by kernel_rfl⟩
theorem fnok144 : FnOk Try.prog 144 := ⟨_, Try.func144, by kernel_rfl, by kernel_rfl⟩
theorem fnok145 : FnOk Try.prog 145 := ⟨_, Try.func145, by kernel_rfl, by kernel_rfl⟩
theorem fnok146 : FnOk Try.prog 146 := ⟨_, Try.func146, by kernel_rfl, by kernel_rfl⟩
theorem fnok147 : FnOk Try.prog 147 := ⟨_, Try.func147, by kernel_rfl, by kernel_rfl⟩
theorem fnok148 : FnOk Try.prog 148 := ⟨_, Try.func148, by kernel_rfl, by kernel_rfl⟩
theorem fnok149 : FnOk Try.prog 149 := ⟨_, Try.func149, by kernel_rfl, by kernel_rfl⟩
theorem fnok150 : FnOk Try.prog 150 := ⟨_, Try.func150, by kernel_rfl, by kernel_rfl⟩
theorem fnok151 : FnOk Try.prog 151 := ⟨_, Try.func151, by kernel_rfl, by kernel_rfl⟩
theorem fnok152 : FnOk Try.prog 152 := ⟨_, Try.func152, by kernel_rfl, by kernel_rfl⟩
theorem fnok153 : FnOk Try.prog 153 := ⟨_, Try.func153, by kernel_rfl, by kernel_rfl⟩
theorem fnok154 : FnOk Try.prog 154 := ⟨_, Try.func154, by kernel_rfl, by kernel_rfl⟩
theorem fnok155 : FnOk Try.prog 155 := ⟨_, Try.func155, by kernel_rfl, by kernel_rfl⟩
theorem fnok156 : FnOk Try.prog 156 := ⟨_, Try.func156, by kernel_rfl, by kernel_rfl⟩
theorem fnok157 : FnOk Try.prog 157 := ⟨_, Try.func157, by kernel_rfl, by kernel_rfl⟩
theorem fnok158 : FnOk Try.prog 158 := ⟨_, Try.func158, by kernel_rfl, by kernel_rfl⟩
theorem fnok159 : FnOk Try.prog 159 := ⟨_, Try.func159, by kernel_rfl, by kernel_rfl⟩
theorem fnok160 : FnOk Try.prog 160 := ⟨_, Try.func160, by kernel_rfl, by kernel_rfl⟩
theorem fnok161 : FnOk Try.prog 161 := ⟨_, Try.func161, by kernel_rfl, by kernel_rfl⟩
theorem fnok162 : FnOk Try.prog 162 := ⟨_, Try.func162, by kernel_rfl, by kernel_rfl⟩
theorem fnok163 : FnOk Try.prog 163 := ⟨_, Try.func163, by kernel_rfl, by kernel_rfl⟩
theorem fnok164 : FnOk Try.prog 164 := ⟨_, Try.func164, by kernel_rfl, by kernel_rfl⟩
theorem fnok165 : FnOk Try.prog 165 := ⟨_, Try.func165, by kernel_rfl, by kernel_rfl⟩
theorem fnok166 : FnOk Try.prog 166 := ⟨_, Try.func166, by kernel_rfl, by kernel_rfl⟩
theorem fnok167 : FnOk Try.prog 167 := ⟨_, Try.func167, by kernel_rfl, by kernel_rfl⟩
theorem fnok168 : FnOk Try.prog 168 := ⟨_, Try.func168, by kernel_rfl, by kernel_rfl⟩
theorem fnok169 : FnOk Try.prog 169 := ⟨_, Try.func169, by kernel_rfl, by kernel_rfl⟩
theorem fnok170 : FnOk Try.prog 170 := ⟨_, Try.func170, by kernel_rfl, by kernel_rfl⟩
theorem fnok171 : FnOk Try.prog 171 := ⟨_, Try.func171, by kernel_rfl, by kernel_rfl⟩
theorem fnok172 : FnOk Try.prog 172 := ⟨_, Try.func172, by kernel_rfl, by kernel_rfl⟩
theorem fnok173 : FnOk Try.prog 173 := ⟨_, Try.func173, by kernel_rfl, by kernel_rfl⟩
theorem fnok174 : FnOk Try.prog 174 := ⟨_, Try.func174, by kernel_rfl, by kernel_rfl⟩
theorem fnok175 : FnOk Try.prog 175 := ⟨_, Try.func175, by kernel_rfl, by kernel_rfl⟩
theorem fnok176 : FnOk Try.prog 176 := ⟨_, Try.func176, by kernel_rfl, by kernel_rfl⟩
theorem fnok177 : FnOk Try.prog 177 := ⟨_, Try.func177, by kernel_rfl, by kernel_rfl⟩
theorem fnok178 : FnOk Try.prog 178 := ⟨_, Try.func178, by kernel_rfl, by kernel_rfl⟩
theorem fnok179 : FnOk Try.prog 179 := ⟨_, Try.func179, by kernel_rfl, by kernel_rfl⟩
theorem fnok180 : FnOk Try.prog 180 := ⟨_, Try.func180, by kernel_rfl, by kernel_rfl⟩
theorem fnok181 : FnOk Try.prog 181 := ⟨_, Try.func181, by kernel_rfl, by kernel_rfl⟩
theorem fnok182 : FnOk Try.prog 182 := ⟨_, Try.func182, by kernel_rfl, by kernel_rfl⟩
theorem fnok183 : FnOk Try.prog 183 := ⟨_, Try.func183, by kernel_rfl, by kernel_rfl⟩
theorem fnok184 : FnOk Try.prog 184 := ⟨_, Try.func184, by kernel_rfl, by kernel_rfl⟩
theorem fnok185 : FnOk Try.prog 185 := ⟨_, Try.func185, by kernel_rfl, by kernel_rfl⟩
theorem fnok186 : FnOk Try.prog 186 := ⟨_, Try.func186, by kernel_rfl, by kernel_rfl⟩
theorem fnok187 : FnOk Try.prog 187 := ⟨_, Try.func187, by kernel_rfl, by kernel_rfl⟩
theorem fnok188 : FnOk Try.prog 188 := ⟨_, Try.func188, by kernel_rfl, by kernel_rfl⟩
theorem fnok189 : FnOk Try.prog 189 := ⟨_, Try.func189, by kernel_rfl, by kernel_rfl⟩
theorem fnok190 : FnOk Try.prog 190 := ⟨_, Try.func190, by kernel_rfl, by kernel_rfl⟩
theorem fnok191 : FnOk Try.prog 191 := ⟨_, Try.func191, by kernel_rfl, by kernel_rfl⟩
theorem fnok192 : FnOk Try.prog 192 := ⟨_, Try.func192, by kernel_rfl, by kernel_rfl⟩
theorem fnok193 : FnOk Try.prog 193 := ⟨_, Try.func193, by kernel_rfl, by kernel_rfl⟩
theorem fnok194 : FnOk Try.prog 194 := ⟨_, Try.func194, by kernel_rfl, by kernel_rfl⟩
theorem fnok195 : FnOk Try.prog 195 := ⟨_, Try.func195, by kernel_rfl, by kernel_rfl⟩
theorem fnok196 : FnOk Try.prog 196 := ⟨_, Try.func196, by kernel_rfl, by kernel_rfl⟩
theorem fnok197 : FnOk Try.prog 197 := ⟨_, Try.func197, by kernel_rfl, by kernel_rfl⟩
theorem fnok198 : FnOk Try.prog 198 := ⟨_, Try.func198, by kernel_rfl, by kernel_rfl⟩
theorem fnok199 : FnOk Try.prog 199 := ⟨_, Try.func199, by kernel_rfl, by kernel_rfl⟩
theorem fnok200 : FnOk Try.prog 200 := ⟨_, Try.func200, by kernel_rfl, by kernel_rfl⟩
theorem fnok201 : FnOk Try.prog 201 := ⟨_, Try.func201, by kernel_rfl, by kernel_rfl⟩
theorem fnok202 : FnOk Try.prog 202 := ⟨_, Try.func202, by kernel_rfl, by kernel_rfl⟩
theorem fnok203 : FnOk Try.prog 203 := ⟨_, Try.func203, by kernel_rfl, by kernel_rfl⟩
theorem fnok204 : FnOk Try.prog 204 := ⟨_, Try.func204, by kernel_rfl, by kernel_rfl⟩
theorem fnok205 : FnOk Try.prog 205 := ⟨_, Try.func205, by kernel_rfl, by kernel_rfl⟩
theorem fnok206 : FnOk Try.prog 206 := ⟨_, Try.func206, by kernel_rfl, by kernel_rfl⟩
theorem fnok207 : FnOk Try.prog 207 := ⟨_, Try.func207, by kernel_rfl, by kernel_rfl⟩
theorem fnok208 : FnOk Try.prog 208 := ⟨_, Try.func208, by kernel_rfl, by kernel_rfl⟩
theorem fnok209 : FnOk Try.prog 209 := ⟨_, Try.func209, by kernel_rfl, by kernel_rfl⟩
theorem fnok210 : FnOk Try.prog 210 := ⟨_, Try.func210, by kernel_rfl, by kernel_rfl⟩
theorem fnok211 : FnOk Try.prog 211 := ⟨_, Try.func211, by kernel_rfl, by kernel_rfl⟩
theorem fnok212 : FnOk Try.prog 212 := ⟨_, Try.func212, by kernel_rfl, by kernel_rfl⟩
theorem fnok213 : FnOk Try.prog 213 := ⟨_, Try.func213, by kernel_rfl, by kernel_rfl⟩
theorem fnok214 : FnOk Try.prog 214 := ⟨_, Try.func214, by kernel_rfl, by kernel_rfl⟩
theorem fnok215 : FnOk Try.prog 215 := ⟨_, Try.func215, by kernel_rfl, by kernel_rfl⟩
theorem fnok216 : FnOk Try.prog 216 := ⟨_, Try.func216, by kernel_rfl, by kernel_rfl⟩
theorem fnok217 : FnOk Try.prog 217 := ⟨_, Try.func217, by kernel_rfl, by kernel_rfl⟩
theorem fnok218 : FnOk Try.prog 218 := ⟨_, Try.func218, by kernel_rfl, by kernel_rfl⟩
theorem fnok219 : FnOk Try.prog 219 := ⟨_, Try.func219, by kernel_rfl, by kernel_rfl⟩
theorem fnok220 : FnOk Try.prog 220 := ⟨_, Try.func220, by kernel_rfl, by kernel_rfl⟩
theorem fnok221 : FnOk Try.prog 221 := ⟨_, Try.func221, by kernel_rfl, by kernel_rfl⟩
theorem fnok222 : FnOk Try.prog 222 := ⟨_, Try.func222, by kernel_rfl, by kernel_rfl⟩
theorem fnok223 : FnOk Try.prog 223 := ⟨_, Try.func223, by kernel_rfl, by kernel_rfl⟩
theorem fnok224 : FnOk Try.prog 224 := ⟨_, Try.func224, by kernel_rfl, by kernel_rfl⟩
theorem fnok225 : FnOk Try.prog 225 := ⟨_, Try.func225, by kernel_rfl, by kernel_rfl⟩
theorem fnok226 : FnOk Try.prog 226 := ⟨_, Try.func226, by kernel_rfl, by kernel_rfl⟩
theorem fnok227 : FnOk Try.prog 227 := ⟨_, Try.func227, by kernel_rfl, by kernel_rfl⟩
theorem fnok228 : FnOk Try.prog 228 := ⟨_, Try.func228, by kernel_rfl, by kernel_rfl⟩
theorem fnok229 : FnOk Try.prog 229 := ⟨_, Try.func229, by kernel_rfl, by kernel_rfl⟩
theorem fnok230 : FnOk Try.prog 230 := ⟨_, Try.func230, by kernel_rfl, by kernel_rfl⟩
theorem fnok231 : FnOk Try.prog 231 := ⟨_, Try.func231, by kernel_rfl, by kernel_rfl⟩
theorem fnok232 : FnOk Try.prog 232 := ⟨_, Try.func232, by kernel_rfl, by kernel_rfl⟩
theorem fnok233 : FnOk Try.prog 233 := ⟨_, Try.func233, by kernel_rfl, by kernel_rfl⟩
theorem fnok234 : FnOk Try.prog 234 := ⟨_, Try.func234, by kernel_rfl, by kernel_rfl⟩
theorem fnok235 : FnOk Try.prog 235 := ⟨_, Try.func235, by kernel_rfl, by kernel_rfl⟩
theorem fnok236 : FnOk Try.prog 236 := ⟨_, Try.func236, by kernel_rfl, by kernel_rfl⟩
theorem fnok237 : FnOk Try.prog 237 := ⟨_, Try.func237, by kernel_rfl, by kernel_rfl⟩
theorem fnok238 : FnOk Try.prog 238 := ⟨_, Try.func238, by kernel_rfl, by kernel_rfl⟩
theorem fnok239 : FnOk Try.prog 239 := ⟨_, Try.func239, by kernel_rfl, by kernel_rfl⟩
theorem fnok240 : FnOk Try.prog 240 := ⟨_, Try.func240, by kernel_rfl, by kernel_rfl⟩
theorem fnok241 : FnOk Try.prog 241 := ⟨_, Try.func241, by kernel_rfl, by kernel_rfl⟩
theorem fnok242 : FnOk Try.prog 242 := ⟨_, Try.func242, by kernel_rfl, by kernel_rfl⟩
theorem fnok243 : FnOk Try.prog 243 := ⟨_, Try.func243, by kernel_rfl, by kernel_rfl⟩
theorem fnok244 : FnOk Try.prog 244 := ⟨_, Try.func244, by kernel_rfl, by kernel_rfl⟩
theorem fnok245 : FnOk Try.prog 245 := ⟨_, Try.func245, by kernel_rfl, by kernel_rfl⟩
theorem fnok246 : FnOk Try.prog 246 := ⟨_, Try.func246, by kernel_rfl, by kernel_rfl⟩
theorem fnok247 : FnOk Try.prog 247 := ⟨_, Try.func247, by kernel_rfl, by kernel_rfl⟩
theorem fnok248 : FnOk Try.prog 248 := ⟨_, Try.func248, by kernel_rfl, by kernel_rfl⟩
theorem fnok249 : FnOk Try.prog 249 := ⟨_, Try.func249, by kernel_rfl, by kernel_rfl⟩
theorem fnok250 : FnOk Try.prog 250 := ⟨_, Try.func250, by kernel_rfl, by kernel_rfl⟩
theorem fnok251 : FnOk Try.prog 251 := ⟨_, Try.func251, by kernel_rfl, by kernel_rfl⟩
theorem fnok252 : FnOk Try.prog 252 := ⟨_, Try.func252, by kernel_rfl, by kernel_rfl⟩
theorem fnok253 : FnOk Try.prog 253 := ⟨_, Try.func253, by kernel_rfl, by kernel_rfl⟩
theorem fnok254 : FnOk Try.prog 254 := ⟨_, Try.func254, by kernel_rfl, by kernel_rfl⟩
theorem fnok255 : FnOk Try.prog 255 := ⟨_, Try.func255, by kernel_rfl, by kernel_rfl⟩
theorem fnok256 : FnOk Try.prog 256 := ⟨_, Try.func256, by kernel_rfl, by kernel_rfl⟩
theorem fnok257 : FnOk Try.prog 257 := ⟨_, Try.func257, by kernel_rfl, by kernel_rfl⟩
theorem fnok258 : FnOk Try.prog 258 := ⟨_, Try.func258, by kernel_rfl, by kernel_rfl⟩
theorem fnok259 : FnOk Try.prog 259 := ⟨_, Try.func259, by kernel_rfl, by kernel_rfl⟩
theorem fnok260 : FnOk Try.prog 260 := ⟨_, Try.func260, by kernel_rfl, by kernel_rfl⟩
theorem fnok261 : FnOk Try.prog 261 := ⟨_, Try.func261, by kernel_rfl, by kernel_rfl⟩
theorem fnok262 : FnOk Try.prog 262 := ⟨_, Try.func262, by kernel_rfl, by kernel_rfl⟩
theorem fnok263 : FnOk Try.prog 263 := ⟨_, Try.func263, by kernel_rfl, by kernel_rfl⟩
theorem fnok264 : FnOk Try.prog 264 := ⟨_, Try.func264, by kernel_rfl, by kernel_rfl⟩
theorem fnok265 : FnOk Try.prog 265 := ⟨_, Try.func265, by kernel_rfl, by kernel_rfl⟩
theorem fnok266 : FnOk Try.prog 266 := ⟨_, Try.func266, by kernel_rfl, by kernel_rfl⟩
theorem fnok267 : FnOk Try.prog 267 := ⟨_, Try.func267, by kernel_rfl, by kernel_rfl⟩
theorem fnok268 : FnOk Try.prog 268 := ⟨_, Try.func268, by kernel_rfl, by kernel_rfl⟩
theorem fnok269 : FnOk Try.prog 269 := ⟨_, Try.func269, by kernel_rfl, by kernel_rfl⟩
theorem fnok270 : FnOk Try.prog 270 := ⟨_, Try.func270, by kernel_rfl, by kernel_rfl⟩
theorem fnok271 : FnOk Try.prog 271 := ⟨_, Try.func271, by kernel_rfl, by kernel_rfl⟩
theorem fnok272 : FnOk Try.prog 272 := ⟨_, Try.func272, by kernel_rfl, by kernel_rfl⟩
theorem fnok273 : FnOk Try.prog 273 := ⟨_, Try.func273, by kernel_rfl, by kernel_rfl⟩
theorem fnok274 : FnOk Try.prog 274 := ⟨_, Try.func274, by kernel_rfl, by kernel_rfl⟩
theorem fnok275 : FnOk Try.prog 275 := ⟨_, Try.func275, by kernel_rfl, by kernel_rfl⟩
theorem fnok276 : FnOk Try.prog 276 := ⟨_, Try.func276, by kernel_rfl, by kernel_rfl⟩
theorem fnok277 : FnOk Try.prog 277 := ⟨_, Try.func277, by kernel_rfl, by kernel_rfl⟩
theorem fnok278 : FnOk Try.prog 278 := ⟨_, Try.func278, by kernel_rfl, by kernel_rfl⟩
theorem fnok279 : FnOk Try.prog 279 := ⟨_, Try.func279, by kernel_rfl, by kernel_rfl⟩
theorem fnok280 : FnOk Try.prog 280 := ⟨_, Try.func280, by kernel_rfl, by kernel_rfl⟩
theorem fnok281 : FnOk Try.prog 281 := ⟨_, Try.func281, by kernel_rfl, by kernel_rfl⟩
theorem fnok282 : FnOk Try.prog 282 := ⟨_, Try.func282, by kernel_rfl, by kernel_rfl⟩
theorem fnok283 : FnOk Try.prog 283 := ⟨_, Try.func283, by kernel_rfl, by kernel_rfl⟩
theorem fnok284 : FnOk Try.prog 284 := ⟨_, Try.func284, by kernel_rfl, by kernel_rfl⟩
theorem fnok285 : FnOk Try.prog 285 := ⟨_, Try.func285, by kernel_rfl, by kernel_rfl⟩
theorem fnok286 : FnOk Try.prog 286 := ⟨_, Try.func286, by kernel_rfl, by kernel_rfl⟩
theorem fnok287 : FnOk Try.prog 287 := ⟨_, Try.func287, by kernel_rfl, by kernel_rfl⟩
theorem fnok288 : FnOk Try.prog 288 := ⟨_, Try.func288, by kernel_rfl, by kernel_rfl⟩
theorem fnok289 : FnOk Try.prog 289 := ⟨_, Try.func289, by kernel_rfl, by kernel_rfl⟩
theorem fnok290 : FnOk Try.prog 290 := ⟨_, Try.func290, by kernel_rfl, by kernel_rfl⟩
theorem fnok293 : FnOk Try.prog 293 := ⟨_, Try.func293, by kernel_rfl, by kernel_rfl⟩
theorem fnok294 : FnOk Try.prog 294 := ⟨_, Try.func294, by kernel_rfl, by kernel_rfl⟩
theorem fnok295 : FnOk Try.prog 295 := ⟨_, Try.func295, by kernel_rfl, by kernel_rfl⟩
theorem fnok296 : FnOk Try.prog 296 := ⟨_, Try.func296, by kernel_rfl, by kernel_rfl⟩
theorem fnok297 : FnOk Try.prog 297 := ⟨_, Try.func297, by kernel_rfl, by kernel_rfl⟩
theorem fnok298 : FnOk Try.prog 298 := ⟨_, Try.func298, by kernel_rfl, by kernel_rfl⟩
theorem fnok299 : FnOk Try.prog 299 := ⟨_, Try.func299, by kernel_rfl, by kernel_rfl⟩
theorem fnok300 : FnOk Try.prog 300 := ⟨_, Try.func300, by kernel_rfl, by kernel_rfl⟩
theorem fnok301 : FnOk Try.prog 301 := ⟨_, Try.func301, by kernel_rfl, by kernel_rfl⟩
theorem fnok302 : FnOk Try.prog 302 := ⟨_, Try.func302, by kernel_rfl, by kernel_rfl⟩
theorem fnok303 : FnOk Try.prog 303 := ⟨_, Try.func303, by kernel_rfl, by kernel_rfl⟩
theorem fnok304 : FnOk Try.prog 304 := ⟨_, Try.func304, by kernel_rfl, by kernel_rfl⟩
theorem fnok305 : FnOk Try.prog 305 := ⟨_, Try.func305, by kernel_rfl, by kernel_rfl⟩
theorem fnok306 : FnOk Try.prog 306 := ⟨_, Try.func306, by kernel_rfl, by kernel_rfl⟩
theorem fnok307 : FnOk Try.prog 307 := ⟨_, Try.func307, by kernel_rfl, by kernel_rfl⟩
theorem fnok308 : FnOk Try.prog 308 := ⟨_, Try.func308, by kernel_rfl, by kernel_rfl⟩
theorem mixed : Try.prog.follows .mixedOrders = true := by kernel_rfl
end Go.Proofs.Ytflimioplnbopaa
