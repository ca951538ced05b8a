import Derived.Test.YtikdaehmaaogdaaGreatEng27
import Derived.Test.YtikdaehmaaogdaaGreatProg
import Derived.KernelRfl
/- The types' table of this program, and that its functions have bodies. -/
set_option linter.unusedVariables false
namespace Go.Proofs.YtikdaehmaaogdaaGreat
open Go Go.Eng
def tt : List (Nat × TI) := [
  (1, ⟨1, 8, [.nilFunc], [], .other⟩),
  (2, ⟨1, 8, [.int .i64 0], [], .int .i64⟩),
  (3, ⟨1, 8, [.int .i64 0], [], .int .i64⟩),
  (4, ⟨1, 1, [.bool false], [], .bool⟩),
  (5, ⟨1, 1, [.int .u8 0], [], .int .u8⟩),
  (6, ⟨1, 1, [.int .u8 0], [], .int .u8⟩),
  (7, ⟨4, 24, [.int .i64 0, .int .i64 0, .bool false, .int .u8 0], [(0, 2, 1), (1, 3, 1), (2, 4, 1), (3, 6, 1)], .struct⟩),
  (9, ⟨1, 16, [.string ByteArray.empty], [], .str⟩),
  (23, ⟨8, 64, [.int .i64 0, .int .i64 0, .int .i64 0, .int .i64 0, .int .i64 0, .int .i64 0, .int .i64 0, .int .i64 0], [(0, 3, 1), (1, 3, 1), (2, 3, 1), (3, 3, 1), (4, 3, 1), (5, 3, 1), (6, 3, 1), (7, 3, 1)], .struct⟩),
  (24, ⟨1, 24, [.slice none 0 0], [], .slice 9⟩),
  (25, ⟨1, 24, [.slice none 0 0], [], .slice 38⟩),
  (26, ⟨1, 24, [.slice none 0 0], [], .slice 3⟩),
  (28, ⟨5, 104, [.slice none 0 0, .slice none 0 0, .slice none 0 0, .int .i64 0, .slice none 0 0], [(0, 24, 1), (1, 25, 1), (2, 26, 1), (3, 3, 1), (4, 26, 1)], .struct⟩),
  (33, ⟨1, 24, [.slice none 0 0], [], .slice 78⟩),
  (34, ⟨1, 8, [.int .i64 0], [], .int .i64⟩),
  (37, ⟨1, 1, [.int .i8 0], [], .int .i8⟩),
  (38, ⟨1, 24, [.slice none 0 0], [], .slice 127⟩),
  (40, ⟨8, 96, [.int .i64 0, .int .i64 0, .int .i8 0, .int .i64 0, .slice none 0 0, .slice none 0 0, .int .i64 0, .int .i64 0], [(0, 3, 1), (1, 3, 1), (2, 37, 1), (3, 3, 1), (4, 33, 1), (5, 38, 1), (6, 3, 1), (7, 3, 1)], .struct⟩),
  (52, ⟨1, 24, [.slice none 0 0], [], .slice 76⟩),
  (63, ⟨4, 40, [.int .i8 0, .int .i64 0, .string ByteArray.empty, .int .i64 0], [(0, 37, 1), (1, 3, 1), (2, 9, 1), (3, 3, 1)], .struct⟩),
  (76, ⟨2, 24, [.int .i64 0, .string ByteArray.empty], [(0, 3, 1), (1, 9, 1)], .struct⟩),
  (78, ⟨6, 56, [.int .i64 0, .int .i64 0, .int .i64 0, .int .i64 0, .string ByteArray.empty, .int .i64 0], [(0, 3, 1), (1, 3, 1), (2, 3, 1), (3, 3, 1), (4, 9, 1), (5, 3, 1)], .struct⟩),
  (80, ⟨1, 8, [.nilFunc], [], .other⟩),
  (81, ⟨1, 8, [.nilFunc], [], .other⟩),
  (83, ⟨2, 16, [.nilFunc, .nilFunc], [(0, 80, 1), (1, 81, 1)], .struct⟩),
  (85, ⟨1, 1, [.int .i8 0], [], .int .i8⟩),
  (87, ⟨1, 8, [.pointer none], [], .other⟩),
  (89, ⟨16, 160, [.int .i64 0, .int .i64 0, .int .i8 0, .int .i64 0, .slice none 0 0, .slice none 0 0, .int .i64 0, .int .i64 0, .int .i64 0, .int .i64 0, .int .i64 0, .int .i64 0, .int .i64 0, .int .i64 0, .int .i64 0, .int .i64 0], [(0, 40, 8), (8, 23, 8)], .struct⟩),
  (96, ⟨1, 24, [.slice none 0 0], [], .slice 5⟩),
  (100, ⟨8, 64, [.nilFunc, .nilFunc, .nilFunc, .nilFunc, .nilFunc, .nilFunc, .nilFunc, .nilFunc], [], .arr 4 83⟩),
  (107, ⟨2, 16, [.int .i64 0, .int .i64 0], [(0, 3, 1), (1, 3, 1)], .struct⟩),
  (109, ⟨4, 32, [.int .i64 0, .int .i64 0, .int .i8 0, .int .i64 0], [(0, 107, 2), (2, 37, 1), (3, 3, 1)], .struct⟩),
  (113, ⟨1, 8, [.int .u64 0], [], .int .u64⟩),
  (117, ⟨1, 8, [.nilFunc], [], .other⟩),
  (118, ⟨1, 24, [.slice none 0 0], [], .slice 109⟩),
  (127, ⟨2, 24, [.int .i64 0, .string ByteArray.empty], [(0, 3, 1), (1, 9, 1)], .struct⟩),
  (136, ⟨1, 24, [.slice none 0 0], [], .slice 33⟩),
  (138, ⟨1, 8, [.pointer none], [], .other⟩),
  (140, ⟨6, 56, [.int .i64 0, .int .i64 0, .int .i64 0, .int .i64 0, .string ByteArray.empty, .int .i64 0], [(0, 78, 6)], .struct⟩),
  (145, ⟨1, 8, [.map none], [], .other⟩),
  (148, ⟨1, 8, [.pointer none], [], .other⟩),
  (150, ⟨2, 32, [.slice none 0 0, .int .i64 0], [(0, 96, 1), (1, 34, 1)], .struct⟩),
  (152, ⟨3, 40, [.slice none 0 0, .int .i64 0, .int .i8 0], [(0, 150, 2), (2, 37, 1)], .struct⟩),
  (155, ⟨1, 8, [.int .i64 0], [], .int .i64⟩),
  (156, ⟨1, 8, [.pointer none], [], .other⟩),
  (158, ⟨1, 24, [.slice none 0 0], [(0, 52, 1)], .struct⟩),
  (160, ⟨9, 88, [.slice none 0 0, .int .i64 0, .int .i64 0, .int .i64 0, .int .i64 0, .int .i64 0, .int .i64 0, .int .i64 0, .int .i64 0], [(0, 158, 1), (1, 23, 8)], .struct⟩),
  (161, ⟨1, 8, [.pointer none], [], .other⟩),
  (162, ⟨1, 8, [.pointer none], [], .other⟩),
  (165, ⟨1, 4, [.int .u32 0], [], .int .u32⟩),
  (167, ⟨1, 4, [.int .u32 0], [(0, 165, 1)], .struct⟩),
  (168, ⟨16, 64, [.int .u32 0, .int .u32 0, .int .u32 0, .int .u32 0, .int .u32 0, .int .u32 0, .int .u32 0, .int .u32 0, .int .u32 0, .int .u32 0, .int .u32 0, .int .u32 0, .int .u32 0, .int .u32 0, .int .u32 0, .int .u32 0], [], .arr 16 165⟩),
  (170, ⟨17, 68, [.int .u32 0, .int .u32 0, .int .u32 0, .int .u32 0, .int .u32 0, .int .u32 0, .int .u32 0, .int .u32 0, .int .u32 0, .int .u32 0, .int .u32 0, .int .u32 0, .int .u32 0, .int .u32 0, .int .u32 0, .int .u32 0, .int .u32 0], [(0, 167, 1), (1, 168, 16)], .struct⟩),
  (171, ⟨1, 8, [.int .u64 0], [], .int .u64⟩),
  (172, ⟨1, 8, [.pointer none], [], .other⟩)]

theorem ti1 : TIok Tryz.prog 1 ⟨1, 8, [.nilFunc], [], .other⟩ := ⟨by kernel_rfl, by kernel_rfl, by kernel_rfl, by kernel_rfl⟩   -- func()
theorem ti2 : TIok Tryz.prog 2 ⟨1, 8, [.int .i64 0], [], .int .i64⟩ := ⟨by kernel_rfl, by kernel_rfl, by kernel_rfl, by kernel_rfl⟩   -- int64
theorem ti3 : TIok Tryz.prog 3 ⟨1, 8, [.int .i64 0], [], .int .i64⟩ := ⟨by kernel_rfl, by kernel_rfl, by kernel_rfl, by kernel_rfl⟩   -- int
theorem ti4 : TIok Tryz.prog 4 ⟨1, 1, [.bool false], [], .bool⟩ := ⟨by kernel_rfl, by kernel_rfl, by kernel_rfl, by kernel_rfl⟩   -- bool
theorem ti5 : TIok Tryz.prog 5 ⟨1, 1, [.int .u8 0], [], .int .u8⟩ := ⟨by kernel_rfl, by kernel_rfl, by kernel_rfl, by kernel_rfl⟩   -- uint8
theorem ti6 : TIok Tryz.prog 6 ⟨1, 1, [.int .u8 0], [], .int .u8⟩ := ⟨by kernel_rfl, by kernel_rfl, by kernel_rfl, by kernel_rfl⟩   -- abi.BoundsErrorCode
theorem ti7 : TIok Tryz.prog 7 ⟨4, 24, [.int .i64 0, .int .i64 0, .bool false, .int .u8 0], [(0, 2, 1), (1, 3, 1), (2, 4, 1), (3, 6, 1)], .struct⟩ := ⟨by kernel_rfl, by kernel_rfl, by kernel_rfl, by kernel_rfl⟩   -- struct { x int64; y int; signed bool; code abi.BoundsErrorCode }
theorem ti9 : TIok Tryz.prog 9 ⟨1, 16, [.string ByteArray.empty], [], .str⟩ := ⟨by kernel_rfl, by kernel_rfl, by kernel_rfl, by kernel_rfl⟩   -- string
theorem ti23 : TIok Tryz.prog 23 ⟨8, 64, [.int .i64 0, .int .i64 0, .int .i64 0, .int .i64 0, .int .i64 0, .int .i64 0, .int .i64 0, .int .i64 0], [(0, 3, 1), (1, 3, 1), (2, 3, 1), (3, 3, 1), (4, 3, 1), (5, 3, 1), (6, 3, 1), (7, 3, 1)], .struct⟩ := ⟨by kernel_rfl, by kernel_rfl, by kernel_rfl, by kernel_rfl⟩   -- api.Geo
theorem ti24 : TIok Tryz.prog 24 ⟨1, 24, [.slice none 0 0], [], .slice 9⟩ := ⟨by kernel_rfl, by kernel_rfl, by kernel_rfl, by kernel_rfl⟩   -- []string
theorem ti25 : TIok Tryz.prog 25 ⟨1, 24, [.slice none 0 0], [], .slice 38⟩ := ⟨by kernel_rfl, by kernel_rfl, by kernel_rfl, by kernel_rfl⟩   -- [][]api.Cell
theorem ti26 : TIok Tryz.prog 26 ⟨1, 24, [.slice none 0 0], [], .slice 3⟩ := ⟨by kernel_rfl, by kernel_rfl, by kernel_rfl, by kernel_rfl⟩   -- []int
theorem ti28 : TIok Tryz.prog 28 ⟨5, 104, [.slice none 0 0, .slice none 0 0, .slice none 0 0, .int .i64 0, .slice none 0 0], [(0, 24, 1), (1, 25, 1), (2, 26, 1), (3, 3, 1), (4, 26, 1)], .struct⟩ := ⟨by kernel_rfl, by kernel_rfl, by kernel_rfl, by kernel_rfl⟩   -- api.Device
theorem ti33 : TIok Tryz.prog 33 ⟨1, 24, [.slice none 0 0], [], .slice 78⟩ := ⟨by kernel_rfl, by kernel_rfl, by kernel_rfl, by kernel_rfl⟩   -- []api.Record
theorem ti34 : TIok Tryz.prog 34 ⟨1, 8, [.int .i64 0], [], .int .i64⟩ := ⟨by kernel_rfl, by kernel_rfl, by kernel_rfl, by kernel_rfl⟩   -- api.Errno
theorem ti37 : TIok Tryz.prog 37 ⟨1, 1, [.int .i8 0], [], .int .i8⟩ := ⟨by kernel_rfl, by kernel_rfl, by kernel_rfl, by kernel_rfl⟩   -- int8
theorem ti38 : TIok Tryz.prog 38 ⟨1, 24, [.slice none 0 0], [], .slice 127⟩ := ⟨by kernel_rfl, by kernel_rfl, by kernel_rfl, by kernel_rfl⟩   -- []api.Cell
theorem ti40 : TIok Tryz.prog 40 ⟨8, 96, [.int .i64 0, .int .i64 0, .int .i8 0, .int .i64 0, .slice none 0 0, .slice none 0 0, .int .i64 0, .int .i64 0], [(0, 3, 1), (1, 3, 1), (2, 37, 1), (3, 3, 1), (4, 33, 1), (5, 38, 1), (6, 3, 1), (7, 3, 1)], .struct⟩ := ⟨by kernel_rfl, by kernel_rfl, by kernel_rfl, by kernel_rfl⟩   -- api.Replaying
theorem ti52 : TIok Tryz.prog 52 ⟨1, 24, [.slice none 0 0], [], .slice 76⟩ := ⟨by kernel_rfl, by kernel_rfl, by kernel_rfl, by kernel_rfl⟩   -- []api.Block
theorem ti63 : TIok Tryz.prog 63 ⟨4, 40, [.int .i8 0, .int .i64 0, .string ByteArray.empty, .int .i64 0], [(0, 37, 1), (1, 3, 1), (2, 9, 1), (3, 3, 1)], .struct⟩ := ⟨by kernel_rfl, by kernel_rfl, by kernel_rfl, by kernel_rfl⟩   -- api.Act
theorem ti76 : TIok Tryz.prog 76 ⟨2, 24, [.int .i64 0, .string ByteArray.empty], [(0, 3, 1), (1, 9, 1)], .struct⟩ := ⟨by kernel_rfl, by kernel_rfl, by kernel_rfl, by kernel_rfl⟩   -- api.Block
theorem ti78 : TIok Tryz.prog 78 ⟨6, 56, [.int .i64 0, .int .i64 0, .int .i64 0, .int .i64 0, .string ByteArray.empty, .int .i64 0], [(0, 3, 1), (1, 3, 1), (2, 3, 1), (3, 3, 1), (4, 9, 1), (5, 3, 1)], .struct⟩ := ⟨by kernel_rfl, by kernel_rfl, by kernel_rfl, by kernel_rfl⟩   -- api.Record
theorem ti80 : TIok Tryz.prog 80 ⟨1, 8, [.nilFunc], [], .other⟩ := ⟨by kernel_rfl, by kernel_rfl, by kernel_rfl, by kernel_rfl⟩   -- func(*replay.walk) api.Act
theorem ti81 : TIok Tryz.prog 81 ⟨1, 8, [.nilFunc], [], .other⟩ := ⟨by kernel_rfl, by kernel_rfl, by kernel_rfl, by kernel_rfl⟩   -- func(*replay.walk, string) api.Errno
theorem ti83 : TIok Tryz.prog 83 ⟨2, 16, [.nilFunc, .nilFunc], [(0, 80, 1), (1, 81, 1)], .struct⟩ := ⟨by kernel_rfl, by kernel_rfl, by kernel_rfl, by kernel_rfl⟩   -- replay.deed
theorem ti85 : TIok Tryz.prog 85 ⟨1, 1, [.int .i8 0], [], .int .i8⟩ := ⟨by kernel_rfl, by kernel_rfl, by kernel_rfl, by kernel_rfl⟩   -- replay.place
theorem ti87 : TIok Tryz.prog 87 ⟨1, 8, [.pointer none], [], .other⟩ := ⟨by kernel_rfl, by kernel_rfl, by kernel_rfl, by kernel_rfl⟩   -- *replay.walk
theorem ti89 : TIok Tryz.prog 89 ⟨16, 160, [.int .i64 0, .int .i64 0, .int .i8 0, .int .i64 0, .slice none 0 0, .slice none 0 0, .int .i64 0, .int .i64 0, .int .i64 0, .int .i64 0, .int .i64 0, .int .i64 0, .int .i64 0, .int .i64 0, .int .i64 0, .int .i64 0], [(0, 40, 8), (8, 23, 8)], .struct⟩ := ⟨by kernel_rfl, by kernel_rfl, by kernel_rfl, by kernel_rfl⟩   -- replay.walk
theorem ti96 : TIok Tryz.prog 96 ⟨1, 24, [.slice none 0 0], [], .slice 5⟩ := ⟨by kernel_rfl, by kernel_rfl, by kernel_rfl, by kernel_rfl⟩   -- []uint8
theorem ti100 : TIok Tryz.prog 100 ⟨8, 64, [.nilFunc, .nilFunc, .nilFunc, .nilFunc, .nilFunc, .nilFunc, .nilFunc, .nilFunc], [], .arr 4 83⟩ := ⟨by kernel_rfl, by kernel_rfl, by kernel_rfl, by kernel_rfl⟩   -- [4]replay.deed
theorem ti107 : TIok Tryz.prog 107 ⟨2, 16, [.int .i64 0, .int .i64 0], [(0, 3, 1), (1, 3, 1)], .struct⟩ := ⟨by kernel_rfl, by kernel_rfl, by kernel_rfl, by kernel_rfl⟩   -- geo.stretch
theorem ti109 : TIok Tryz.prog 109 ⟨4, 32, [.int .i64 0, .int .i64 0, .int .i8 0, .int .i64 0], [(0, 107, 2), (2, 37, 1), (3, 3, 1)], .struct⟩ := ⟨by kernel_rfl, by kernel_rfl, by kernel_rfl, by kernel_rfl⟩   -- geo.region
theorem ti113 : TIok Tryz.prog 113 ⟨1, 8, [.int .u64 0], [], .int .u64⟩ := ⟨by kernel_rfl, by kernel_rfl, by kernel_rfl, by kernel_rfl⟩   -- uint
theorem ti117 : TIok Tryz.prog 117 ⟨1, 8, [.nilFunc], [], .other⟩ := ⟨by kernel_rfl, by kernel_rfl, by kernel_rfl, by kernel_rfl⟩   -- func(api.Record) bool
theorem ti118 : TIok Tryz.prog 118 ⟨1, 24, [.slice none 0 0], [], .slice 109⟩ := ⟨by kernel_rfl, by kernel_rfl, by kernel_rfl, by kernel_rfl⟩   -- []geo.region
theorem ti127 : TIok Tryz.prog 127 ⟨2, 24, [.int .i64 0, .string ByteArray.empty], [(0, 3, 1), (1, 9, 1)], .struct⟩ := ⟨by kernel_rfl, by kernel_rfl, by kernel_rfl, by kernel_rfl⟩   -- api.Cell
theorem ti136 : TIok Tryz.prog 136 ⟨1, 24, [.slice none 0 0], [], .slice 33⟩ := ⟨by kernel_rfl, by kernel_rfl, by kernel_rfl, by kernel_rfl⟩   -- [][]api.Record
theorem ti138 : TIok Tryz.prog 138 ⟨1, 8, [.pointer none], [], .other⟩ := ⟨by kernel_rfl, by kernel_rfl, by kernel_rfl, by kernel_rfl⟩   -- *record.entry
theorem ti140 : TIok Tryz.prog 140 ⟨6, 56, [.int .i64 0, .int .i64 0, .int .i64 0, .int .i64 0, .string ByteArray.empty, .int .i64 0], [(0, 78, 6)], .struct⟩ := ⟨by kernel_rfl, by kernel_rfl, by kernel_rfl, by kernel_rfl⟩   -- record.entry
theorem ti145 : TIok Tryz.prog 145 ⟨1, 8, [.map none], [], .other⟩ := ⟨by kernel_rfl, by kernel_rfl, by kernel_rfl, by kernel_rfl⟩   -- scan.texts
theorem ti148 : TIok Tryz.prog 148 ⟨1, 8, [.pointer none], [], .other⟩ := ⟨by kernel_rfl, by kernel_rfl, by kernel_rfl, by kernel_rfl⟩   -- *seal.sector
theorem ti150 : TIok Tryz.prog 150 ⟨2, 32, [.slice none 0 0, .int .i64 0], [(0, 96, 1), (1, 34, 1)], .struct⟩ := ⟨by kernel_rfl, by kernel_rfl, by kernel_rfl, by kernel_rfl⟩   -- seal.bytes
theorem ti152 : TIok Tryz.prog 152 ⟨3, 40, [.slice none 0 0, .int .i64 0, .int .i8 0], [(0, 150, 2), (2, 37, 1)], .struct⟩ := ⟨by kernel_rfl, by kernel_rfl, by kernel_rfl, by kernel_rfl⟩   -- seal.sector
theorem ti155 : TIok Tryz.prog 155 ⟨1, 8, [.int .i64 0], [], .int .i64⟩ := ⟨by kernel_rfl, by kernel_rfl, by kernel_rfl, by kernel_rfl⟩   -- num.width
theorem ti156 : TIok Tryz.prog 156 ⟨1, 8, [.pointer none], [], .other⟩ := ⟨by kernel_rfl, by kernel_rfl, by kernel_rfl, by kernel_rfl⟩   -- *buffer.sized
theorem ti158 : TIok Tryz.prog 158 ⟨1, 24, [.slice none 0 0], [(0, 52, 1)], .struct⟩ := ⟨by kernel_rfl, by kernel_rfl, by kernel_rfl, by kernel_rfl⟩   -- buffer.row
theorem ti160 : TIok Tryz.prog 160 ⟨9, 88, [.slice none 0 0, .int .i64 0, .int .i64 0, .int .i64 0, .int .i64 0, .int .i64 0, .int .i64 0, .int .i64 0, .int .i64 0], [(0, 158, 1), (1, 23, 8)], .struct⟩ := ⟨by kernel_rfl, by kernel_rfl, by kernel_rfl, by kernel_rfl⟩   -- buffer.sized
theorem ti161 : TIok Tryz.prog 161 ⟨1, 8, [.pointer none], [], .other⟩ := ⟨by kernel_rfl, by kernel_rfl, by kernel_rfl, by kernel_rfl⟩   -- *seal.bytes
theorem ti162 : TIok Tryz.prog 162 ⟨1, 8, [.pointer none], [], .other⟩ := ⟨by kernel_rfl, by kernel_rfl, by kernel_rfl, by kernel_rfl⟩   -- *crc.summer
theorem ti165 : TIok Tryz.prog 165 ⟨1, 4, [.int .u32 0], [], .int .u32⟩ := ⟨by kernel_rfl, by kernel_rfl, by kernel_rfl, by kernel_rfl⟩   -- uint32
theorem ti167 : TIok Tryz.prog 167 ⟨1, 4, [.int .u32 0], [(0, 165, 1)], .struct⟩ := ⟨by kernel_rfl, by kernel_rfl, by kernel_rfl, by kernel_rfl⟩   -- crc.register
theorem ti168 : TIok Tryz.prog 168 ⟨16, 64, [.int .u32 0, .int .u32 0, .int .u32 0, .int .u32 0, .int .u32 0, .int .u32 0, .int .u32 0, .int .u32 0, .int .u32 0, .int .u32 0, .int .u32 0, .int .u32 0, .int .u32 0, .int .u32 0, .int .u32 0, .int .u32 0], [], .arr 16 165⟩ := ⟨by kernel_rfl, by kernel_rfl, by kernel_rfl, by kernel_rfl⟩   -- [16]uint32
theorem ti170 : TIok Tryz.prog 170 ⟨17, 68, [.int .u32 0, .int .u32 0, .int .u32 0, .int .u32 0, .int .u32 0, .int .u32 0, .int .u32 0, .int .u32 0, .int .u32 0, .int .u32 0, .int .u32 0, .int .u32 0, .int .u32 0, .int .u32 0, .int .u32 0, .int .u32 0, .int .u32 0], [(0, 167, 1), (1, 168, 16)], .struct⟩ := ⟨by kernel_rfl, by kernel_rfl, by kernel_rfl, by kernel_rfl⟩   -- crc.summer
theorem ti171 : TIok Tryz.prog 171 ⟨1, 8, [.int .u64 0], [], .int .u64⟩ := ⟨by kernel_rfl, by kernel_rfl, by kernel_rfl, by kernel_rfl⟩   -- uint64
theorem ti172 : TIok Tryz.prog 172 ⟨1, 8, [.pointer none], [], .other⟩ := ⟨by kernel_rfl, by kernel_rfl, by kernel_rfl, by kernel_rfl⟩   -- *crc.register
theorem tok : TTok Tryz.prog tt := TTok.cons ti1 <| TTok.cons ti2 <| TTok.cons ti3 <| TTok.cons ti4 <| TTok.cons ti5 <| TTok.cons ti6 <| TTok.cons ti7 <| TTok.cons ti9 <| TTok.cons ti23 <| TTok.cons ti24 <| TTok.cons ti25 <| TTok.cons ti26 <| TTok.cons ti28 <| TTok.cons ti33 <| TTok.cons ti34 <| TTok.cons ti37 <| TTok.cons ti38 <| TTok.cons ti40 <| TTok.cons ti52 <| TTok.cons ti63 <| TTok.cons ti76 <| TTok.cons ti78 <| TTok.cons ti80 <| TTok.cons ti81 <| TTok.cons ti83 <| TTok.cons ti85 <| TTok.cons ti87 <| TTok.cons ti89 <| TTok.cons ti96 <| TTok.cons ti100 <| TTok.cons ti107 <| TTok.cons ti109 <| TTok.cons ti113 <| TTok.cons ti117 <| TTok.cons ti118 <| TTok.cons ti127 <| TTok.cons ti136 <| TTok.cons ti138 <| TTok.cons ti140 <| TTok.cons ti145 <| TTok.cons ti148 <| TTok.cons ti150 <| TTok.cons ti152 <| TTok.cons ti155 <| TTok.cons ti156 <| TTok.cons ti158 <| TTok.cons ti160 <| TTok.cons ti161 <| TTok.cons ti162 <| TTok.cons ti165 <| TTok.cons ti167 <| TTok.cons ti168 <| TTok.cons ti170 <| TTok.cons ti171 <| TTok.cons ti172 <| TTok.nil _

theorem fnok3 : FnOk Tryz.prog 3 := ⟨_, Tryz.func3, by kernel_rfl, by kernel_rfl⟩
theorem fnok4 : FnOk Tryz.prog 4 := ⟨_, Tryz.func4, by kernel_rfl, by kernel_rfl⟩
theorem fnok5 : FnOk Tryz.prog 5 := ⟨_, Tryz.func5, by kernel_rfl, by kernel_rfl⟩
theorem fnok6 : FnOk Tryz.prog 6 := ⟨_, Tryz.func6, by kernel_rfl, by kernel_rfl⟩
theorem fnok7 : FnOk Tryz.prog 7 := ⟨_, Tryz.func7, by kernel_rfl, by kernel_rfl⟩
theorem fnok8 : FnOk Tryz.prog 8 := ⟨_, Tryz.func8, by kernel_rfl, by kernel_rfl⟩
theorem fnok9 : FnOk Tryz.prog 9 := ⟨_, Tryz.func9, by kernel_rfl, by kernel_rfl⟩
theorem fnok10 : FnOk Tryz.prog 10 := ⟨_, Tryz.func10, by kernel_rfl, by kernel_rfl⟩
theorem fnok11 : FnOk Tryz.prog 11 := ⟨_, Tryz.func11, by kernel_rfl, by kernel_rfl⟩
theorem fnok12 : FnOk Tryz.prog 12 := ⟨_, Tryz.func12, by kernel_rfl, by kernel_rfl⟩
theorem fnok13 : FnOk Tryz.prog 13 := ⟨_, Tryz.func13, by kernel_rfl, by kernel_rfl⟩
theorem fnok14 : FnOk Tryz.prog 14 := ⟨_, Tryz.func14, by kernel_rfl, by kernel_rfl⟩
theorem fnok15 : FnOk Tryz.prog 15 := ⟨_, Tryz.func15, by kernel_rfl, by kernel_rfl⟩
theorem fnok16 : FnOk Tryz.prog 16 := ⟨_, Tryz.func16, by kernel_rfl, by kernel_rfl⟩
theorem fnok17 : FnOk Tryz.prog 17 := ⟨_, Tryz.func17, by kernel_rfl, by kernel_rfl⟩
theorem fnok18 : FnOk Tryz.prog 18 := ⟨_, Tryz.func18, by kernel_rfl, by kernel_rfl⟩
theorem fnok19 : FnOk Tryz.prog 19 := ⟨_, Tryz.func19, by kernel_rfl, by kernel_rfl⟩
theorem fnok20 : FnOk Tryz.prog 20 := ⟨_, Tryz.func20, by kernel_rfl, by kernel_rfl⟩
theorem fnok21 : FnOk Tryz.prog 21 := ⟨_, Tryz.func21, by kernel_rfl, by kernel_rfl⟩
theorem fnok22 : FnOk Tryz.prog 22 := ⟨_, Tryz.func22, by kernel_rfl, by kernel_rfl⟩
theorem fnok23 : FnOk Tryz.prog 23 := ⟨_, Tryz.func23, by kernel_rfl, by kernel_rfl⟩
theorem fnok24 : FnOk Tryz.prog 24 := ⟨_, Tryz.func24, by kernel_rfl, by kernel_rfl⟩
theorem fnok25 : FnOk Tryz.prog 25 := ⟨_, Tryz.func25, by kernel_rfl, by kernel_rfl⟩
theorem fnok26 : FnOk Tryz.prog 26 := ⟨_, Tryz.func26, by kernel_rfl, by kernel_rfl⟩
theorem fnok27 : FnOk Tryz.prog 27 := ⟨_, Tryz.func27, by kernel_rfl, by kernel_rfl⟩
theorem fnok28 : FnOk Tryz.prog 28 := ⟨_, Tryz.func28, by kernel_rfl, by kernel_rfl⟩
theorem fnok29 : FnOk Tryz.prog 29 := ⟨_, Tryz.func29, by kernel_rfl, by kernel_rfl⟩
theorem fnok30 : FnOk Tryz.prog 30 := ⟨_, Tryz.func30, by kernel_rfl, by kernel_rfl⟩
theorem fnok31 : FnOk Tryz.prog 31 := ⟨_, Tryz.func31, by kernel_rfl, by kernel_rfl⟩
theorem fnok32 : FnOk Tryz.prog 32 := ⟨_, Tryz.func32, by kernel_rfl, by kernel_rfl⟩
theorem fnok33 : FnOk Tryz.prog 33 := ⟨_, Tryz.func33, by kernel_rfl, by kernel_rfl⟩
theorem fnok34 : FnOk Tryz.prog 34 := ⟨_, Tryz.func34, by kernel_rfl, by kernel_rfl⟩
theorem fnok35 : FnOk Tryz.prog 35 := ⟨_, Tryz.func35, by kernel_rfl, by kernel_rfl⟩
theorem fnok36 : FnOk Tryz.prog 36 := ⟨_, Tryz.func36, by kernel_rfl, by kernel_rfl⟩
theorem fnok37 : FnOk Tryz.prog 37 := ⟨_, Tryz.func37, by kernel_rfl, by kernel_rfl⟩
theorem fnok38 : FnOk Tryz.prog 38 := ⟨_, Tryz.func38, by kernel_rfl, by kernel_rfl⟩
theorem fnok39 : FnOk Tryz.prog 39 := ⟨_, Tryz.func39, by kernel_rfl, by kernel_rfl⟩
theorem fnok40 : FnOk Tryz.prog 40 := ⟨_, Tryz.func40, by kernel_rfl, by kernel_rfl⟩
theorem fnok41 : FnOk Tryz.prog 41 := ⟨_, Tryz.func41, by kernel_rfl, by kernel_rfl⟩
theorem fnok42 : FnOk Tryz.prog 42 := ⟨_, Tryz.func42, by kernel_rfl, by kernel_rfl⟩
theorem fnok43 : FnOk Tryz.prog 43 := ⟨_, Tryz.func43, by kernel_rfl, by kernel_rfl⟩
theorem fnok44 : FnOk Tryz.prog 44 := ⟨_, Tryz.func44, by kernel_rfl, by kernel_rfl⟩
theorem fnok45 : FnOk Tryz.prog 45 := ⟨_, Tryz.func45, by kernel_rfl, by kernel_rfl⟩
theorem fnok46 : FnOk Tryz.prog 46 := ⟨_, Tryz.func46, by kernel_rfl, by kernel_rfl⟩
theorem fnok47 : FnOk Tryz.prog 47 := ⟨_, Tryz.func47, by kernel_rfl, by kernel_rfl⟩
theorem fnok48 : FnOk Tryz.prog 48 := ⟨_, Tryz.func48, by kernel_rfl, by kernel_rfl⟩
theorem fnok49 : FnOk Tryz.prog 49 := ⟨_, Tryz.func49, by kernel_rfl, by kernel_rfl⟩
theorem fnok50 : FnOk Tryz.prog 50 := ⟨_, Tryz.func50, by kernel_rfl, by kernel_rfl⟩
theorem fnok51 : FnOk Tryz.prog 51 := ⟨_, Tryz.func51, by kernel_rfl, by kernel_rfl⟩
theorem fnok52 : FnOk Tryz.prog 52 := ⟨_, Tryz.func52, by kernel_rfl, by kernel_rfl⟩
theorem fnok53 : FnOk Tryz.prog 53 := ⟨_, Tryz.func53, by kernel_rfl, by kernel_rfl⟩
theorem fnok54 : FnOk Tryz.prog 54 := ⟨_, Tryz.func54, by kernel_rfl, by kernel_rfl⟩
theorem fnok55 : FnOk Tryz.prog 55 := ⟨_, Tryz.func55, by kernel_rfl, by kernel_rfl⟩
theorem fnok56 : FnOk Tryz.prog 56 := ⟨_, Tryz.func56, by kernel_rfl, by kernel_rfl⟩
theorem fnok57 : FnOk Tryz.prog 57 := ⟨_, Tryz.func57, by kernel_rfl, by kernel_rfl⟩
theorem fnok58 : FnOk Tryz.prog 58 := ⟨_, Tryz.func58, by kernel_rfl, by kernel_rfl⟩
theorem fnok59 : FnOk Tryz.prog 59 := ⟨_, Tryz.func59, by kernel_rfl, by kernel_rfl⟩
theorem fnok60 : FnOk Tryz.prog 60 := ⟨_, Tryz.func60, by kernel_rfl, by kernel_rfl⟩
theorem fnok61 : FnOk Tryz.prog 61 := ⟨_, Tryz.func61, by kernel_rfl, by kernel_rfl⟩
theorem fnok62 : FnOk Tryz.prog 62 := ⟨_, Tryz.func62, by kernel_rfl, by kernel_rfl⟩
theorem fnok63 : FnOk Tryz.prog 63 := ⟨_, Tryz.func63, by kernel_rfl, by kernel_rfl⟩
theorem fnok64 : FnOk Tryz.prog 64 := ⟨_, Tryz.func64, by kernel_rfl, by kernel_rfl⟩
theorem fnok65 : FnOk Tryz.prog 65 := ⟨_, Tryz.func65, by kernel_rfl, by kernel_rfl⟩
theorem fnok66 : FnOk Tryz.prog 66 := ⟨_, Tryz.func66, by kernel_rfl, by kernel_rfl⟩
theorem fnok67 : FnOk Tryz.prog 67 := ⟨_, Tryz.func67, by kernel_rfl, by kernel_rfl⟩
theorem fnok68 : FnOk Tryz.prog 68 := ⟨_, Tryz.func68, by kernel_rfl, by kernel_rfl⟩
theorem fnok69 : FnOk Tryz.prog 69 := ⟨_, Tryz.func69, by kernel_rfl, by kernel_rfl⟩
theorem fnok70 : FnOk Tryz.prog 70 := ⟨_, Tryz.func70, by kernel_rfl, by kernel_rfl⟩
theorem fnok71 : FnOk Tryz.prog 71 := ⟨_, Tryz.func71, by kernel_rfl, by kernel_rfl⟩
theorem fnok72 : FnOk Tryz.prog 72 := ⟨_, Tryz.func72, by kernel_rfl, by kernel_rfl⟩
theorem fnok73 : FnOk Tryz.prog 73 := ⟨_, Tryz.func73, by kernel_rfl, by kernel_rfl⟩
theorem fnok74 : FnOk Tryz.prog 74 := ⟨_, Tryz.func74, by kernel_rfl, by kernel_rfl⟩
theorem fnok75 : FnOk Tryz.prog 75 := ⟨_, Tryz.func75, by kernel_rfl, by kernel_rfl⟩
theorem fnok76 : FnOk Tryz.prog 76 := ⟨_, Tryz.func76, by kernel_rfl, by kernel_rfl⟩
theorem fnok77 : FnOk Tryz.prog 77 := ⟨_, Tryz.func77, by kernel_rfl, by kernel_rfl⟩
theorem fnok78 : FnOk Tryz.prog 78 := ⟨_, Tryz.func78, by kernel_rfl, by kernel_rfl⟩
theorem fnok79 : FnOk Tryz.prog 79 := ⟨_, Tryz.func79, by kernel_rfl, by kernel_rfl⟩
theorem fnok80 : FnOk Tryz.prog 80 := ⟨_, Tryz.func80, by kernel_rfl, by kernel_rfl⟩
theorem fnok81 : FnOk Tryz.prog 81 := ⟨_, Tryz.func81, by kernel_rfl, by kernel_rfl⟩
theorem fnok82 : FnOk Tryz.prog 82 := ⟨_, Tryz.func82, by kernel_rfl, by kernel_rfl⟩
theorem fnok83 : FnOk Tryz.prog 83 := ⟨_, Tryz.func83, by kernel_rfl, by kernel_rfl⟩
theorem fnok84 : FnOk Tryz.prog 84 := ⟨_, Tryz.func84, by kernel_rfl, by kernel_rfl⟩
theorem fnok85 : FnOk Tryz.prog 85 := ⟨_, Tryz.func85, by kernel_rfl, by kernel_rfl⟩
theorem fnok86 : FnOk Tryz.prog 86 := ⟨_, Tryz.func86, by kernel_rfl, by kernel_rfl⟩
theorem fnok87 : FnOk Tryz.prog 87 := ⟨_, Tryz.func87, by kernel_rfl, by kernel_rfl⟩
theorem fnok88 : FnOk Tryz.prog 88 := ⟨_, Tryz.func88, by kernel_rfl, by kernel_rfl⟩
theorem fnok89 : FnOk Tryz.prog 89 := ⟨_, Tryz.func89, by kernel_rfl, by kernel_rfl⟩
theorem fnok90 : FnOk Tryz.prog 90 := ⟨_, Tryz.func90, by kernel_rfl, by kernel_rfl⟩
theorem fnok91 : FnOk Tryz.prog 91 := ⟨_, Tryz.func91, by kernel_rfl, by kernel_rfl⟩
theorem fnok92 : FnOk Tryz.prog 92 := ⟨_, Tryz.func92, by kernel_rfl, by kernel_rfl⟩
theorem fnok93 : FnOk Tryz.prog 93 := ⟨_, Tryz.func93, by kernel_rfl, by kernel_rfl⟩
theorem fnok94 : FnOk Tryz.prog 94 := ⟨_, Tryz.func94, by kernel_rfl, by kernel_rfl⟩
theorem fnok95 : FnOk Tryz.prog 95 := ⟨_, Tryz.func95, by kernel_rfl, by kernel_rfl⟩
theorem fnok96 : FnOk Tryz.prog 96 := ⟨_, Tryz.func96, by kernel_rfl, by kernel_rfl⟩
theorem fnok97 : FnOk Tryz.prog 97 := ⟨_, Tryz.func97, by kernel_rfl, by kernel_rfl⟩
theorem fnok98 : FnOk Tryz.prog 98 := ⟨_, Tryz.func98, by kernel_rfl, by kernel_rfl⟩
theorem fnok99 : FnOk Tryz.prog 99 := ⟨_, Tryz.func99, by kernel_rfl, by kernel_rfl⟩
theorem fnok100 : FnOk Tryz.prog 100 := ⟨_, Tryz.func100, by kernel_rfl, by kernel_rfl⟩
theorem fnok101 : FnOk Tryz.prog 101 := ⟨_, Tryz.func101, by kernel_rfl, by kernel_rfl⟩
theorem fnok102 : FnOk Tryz.prog 102 := ⟨_, Tryz.func102, by kernel_rfl, by kernel_rfl⟩
theorem fnok103 : FnOk Tryz.prog 103 := ⟨_, Tryz.func103, by kernel_rfl, by kernel_rfl⟩
theorem fnok104 : FnOk Tryz.prog 104 := ⟨_, Tryz.func104, by kernel_rfl, by kernel_rfl⟩
theorem fnok105 : FnOk Tryz.prog 105 := ⟨_, Tryz.func105, by kernel_rfl, by kernel_rfl⟩
theorem fnok106 : FnOk Tryz.prog 106 := ⟨_, Tryz.func106, by kernel_rfl, by kernel_rfl⟩
theorem fnok107 : FnOk Tryz.prog 107 := ⟨_, Tryz.func107, by kernel_rfl, by kernel_rfl⟩
theorem fnok108 : FnOk Tryz.prog 108 := ⟨_, Tryz.func108, by kernel_rfl, by kernel_rfl⟩
theorem fnok109 : FnOk Tryz.prog 109 := ⟨_, Tryz.func109, by kernel_rfl, by kernel_rfl⟩
theorem fnok110 : FnOk Tryz.prog 110 := ⟨_, Tryz.func110, by kernel_rfl, by kernel_rfl⟩
theorem fnok111 : FnOk Tryz.prog 111 := ⟨_, Tryz.func111, by kernel_rfl, by kernel_rfl⟩
theorem fnok112 : FnOk Tryz.prog 112 := ⟨_, Tryz.func112, by kernel_rfl, by kernel_rfl⟩
theorem fnok113 : FnOk Tryz.prog 113 := ⟨_, Tryz.func113, by kernel_rfl, by kernel_rfl⟩
theorem fnok114 : FnOk Tryz.prog 114 := ⟨_, Tryz.func114, by kernel_rfl, by kernel_rfl⟩
theorem fnok115 : FnOk Tryz.prog 115 := ⟨_, Tryz.func115, by kernel_rfl, by kernel_rfl⟩
theorem fnok116 : FnOk Tryz.prog 116 := ⟨_, Tryz.func116, by kernel_rfl, by kernel_rfl⟩
theorem fnok117 : FnOk Tryz.prog 117 := ⟨_, Tryz.func117, by kernel_rfl, by kernel_rfl⟩
theorem mixed : Tryz.prog.follows .mixedOrders = true := by kernel_rfl
end Go.Proofs.YtikdaehmaaogdaaGreat
