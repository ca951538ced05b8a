import Derived.Test.YtlafboeohojcbaaGreatEng27
import Derived.Test.YtlafboeohojcbaaGreatProg
import Derived.KernelRfl
/- The types' table of this program, and that its functions have bodies. -/
set_option linter.unusedVariables false
namespace Go.Proofs.YtlafboeohojcbaaGreat
open Go Go.Eng
def tt : List (Nat × TI) := [
 (1, ⟨1, 8, [.nilFunc], [], .other⟩),
 (2, ⟨1, 8, [.int .i64 0], [], .int .i64⟩),
 (3, ⟨1, 8, [.int .i64 0], [], .int .i64⟩),
 (4, ⟨1, 1, [.bool false], [], .bool⟩),
 (5, ⟨1, 1, [.int .u8 0], [], .int .u8⟩),
 (6, ⟨1, 1, [.int .u8 0], [], .int .u8⟩),
 (7, ⟨4, 24, [.int .i64 0, .int .i64 0, .bool false, .int .u8 0], [(0, 2, 1), (1, 3, 1), (2, 4, 1), (3, 6, 1)], .struct⟩),
 (9, ⟨1, 16, [.string ByteArray.empty], [], .str⟩),
 (23, ⟨8, 64, [.int .i64 0, .int .i64 0, .int .i64 0, .int .i64 0, .int .i64 0, .int .i64 0, .int .i64 0, .int .i64 0], [(0, 3, 1), (1, 3, 1), (2, 3, 1), (3, 3, 1), (4, 3, 1), (5, 3, 1), (6, 3, 1), (7, 3, 1)], .struct⟩),
 (24, ⟨1, 24, [.slice none 0 0], [], .slice 9⟩),
 (25, ⟨1, 24, [.slice none 0 0], [], .slice 42⟩),
 (26, ⟨1, 24, [.slice none 0 0], [], .slice 3⟩),
 (28, ⟨5, 104, [.slice none 0 0, .slice none 0 0, .slice none 0 0, .int .i64 0, .slice none 0 0], [(0, 24, 1), (1, 25, 1), (2, 26, 1), (3, 3, 1), (4, 26, 1)], .struct⟩),
 (33, ⟨1, 1, [.int .i8 0], [], .int .i8⟩),
 (36, ⟨1, 24, [.slice none 0 0], [], .slice 74⟩),
 (37, ⟨1, 8, [.int .i64 0], [], .int .i64⟩),
 (40, ⟨1, 24, [.slice none 0 0], [], .slice 72⟩),
 (42, ⟨1, 24, [.slice none 0 0], [], .slice 126⟩),
 (44, ⟨8, 96, [.int .i64 0, .int .i64 0, .int .i8 0, .int .i64 0, .slice none 0 0, .slice none 0 0, .int .i64 0, .int .i64 0], [(0, 3, 1), (1, 3, 1), (2, 33, 1), (3, 3, 1), (4, 36, 1), (5, 42, 1), (6, 3, 1), (7, 3, 1)], .struct⟩),
 (61, ⟨4, 40, [.int .i8 0, .int .i64 0, .string ByteArray.empty, .int .i64 0], [(0, 33, 1), (1, 3, 1), (2, 9, 1), (3, 3, 1)], .struct⟩),
 (72, ⟨2, 24, [.int .i64 0, .string ByteArray.empty], [(0, 3, 1), (1, 9, 1)], .struct⟩),
 (74, ⟨6, 56, [.int .i64 0, .int .i64 0, .int .i64 0, .int .i64 0, .string ByteArray.empty, .int .i64 0], [(0, 3, 1), (1, 3, 1), (2, 3, 1), (3, 3, 1), (4, 9, 1), (5, 3, 1)], .struct⟩),
 (79, ⟨1, 8, [.nilFunc], [], .other⟩),
 (80, ⟨1, 8, [.nilFunc], [], .other⟩),
 (82, ⟨2, 16, [.nilFunc, .nilFunc], [(0, 79, 1), (1, 80, 1)], .struct⟩),
 (84, ⟨1, 1, [.int .i8 0], [], .int .i8⟩),
 (86, ⟨1, 8, [.pointer none], [], .other⟩),
 (88, ⟨16, 160, [.int .i64 0, .int .i64 0, .int .i8 0, .int .i64 0, .slice none 0 0, .slice none 0 0, .int .i64 0, .int .i64 0, .int .i64 0, .int .i64 0, .int .i64 0, .int .i64 0, .int .i64 0, .int .i64 0, .int .i64 0, .int .i64 0], [(0, 44, 8), (8, 23, 8)], .struct⟩),
 (94, ⟨1, 24, [.slice none 0 0], [], .slice 5⟩),
 (99, ⟨8, 64, [.nilFunc, .nilFunc, .nilFunc, .nilFunc, .nilFunc, .nilFunc, .nilFunc, .nilFunc], [], .arr 4 82⟩),
 (107, ⟨1, 8, [.int .u64 0], [], .int .u64⟩),
 (109, ⟨2, 16, [.int .i64 0, .int .i64 0], [(0, 3, 1), (1, 3, 1)], .struct⟩),
 (111, ⟨4, 32, [.int .i64 0, .int .i64 0, .int .i8 0, .int .i64 0], [(0, 109, 2), (2, 33, 1), (3, 3, 1)], .struct⟩),
 (116, ⟨1, 8, [.nilFunc], [], .other⟩),
 (118, ⟨1, 24, [.slice none 0 0], [], .slice 111⟩),
 (126, ⟨2, 24, [.int .i64 0, .string ByteArray.empty], [(0, 3, 1), (1, 9, 1)], .struct⟩),
 (135, ⟨1, 24, [.slice none 0 0], [], .slice 36⟩),
 (137, ⟨1, 8, [.pointer none], [], .other⟩),
 (139, ⟨6, 56, [.int .i64 0, .int .i64 0, .int .i64 0, .int .i64 0, .string ByteArray.empty, .int .i64 0], [(0, 74, 6)], .struct⟩),
 (144, ⟨1, 8, [.map none], [], .other⟩),
 (147, ⟨1, 8, [.pointer none], [], .other⟩),
 (149, ⟨2, 32, [.slice none 0 0, .int .i64 0], [(0, 94, 1), (1, 37, 1)], .struct⟩),
 (151, ⟨3, 40, [.slice none 0 0, .int .i64 0, .int .i8 0], [(0, 149, 2), (2, 33, 1)], .struct⟩),
 (154, ⟨1, 8, [.int .i64 0], [], .int .i64⟩),
 (155, ⟨1, 8, [.pointer none], [], .other⟩),
 (157, ⟨1, 24, [.slice none 0 0], [(0, 40, 1)], .struct⟩),
 (159, ⟨9, 88, [.slice none 0 0, .int .i64 0, .int .i64 0, .int .i64 0, .int .i64 0, .int .i64 0, .int .i64 0, .int .i64 0, .int .i64 0], [(0, 157, 1), (1, 23, 8)], .struct⟩),
 (160, ⟨1, 8, [.pointer none], [], .other⟩),
 (161, ⟨1, 8, [.pointer none], [], .other⟩),
 (164, ⟨1, 4, [.int .u32 0], [], .int .u32⟩),
 (166, ⟨1, 4, [.int .u32 0], [(0, 164, 1)], .struct⟩),
 (167, ⟨16, 64, [.int .u32 0, .int .u32 0, .int .u32 0, .int .u32 0, .int .u32 0, .int .u32 0, .int .u32 0, .int .u32 0, .int .u32 0, .int .u32 0, .int .u32 0, .int .u32 0, .int .u32 0, .int .u32 0, .int .u32 0, .int .u32 0], [], .arr 16 164⟩),
 (169, ⟨17, 68, [.int .u32 0, .int .u32 0, .int .u32 0, .int .u32 0, .int .u32 0, .int .u32 0, .int .u32 0, .int .u32 0, .int .u32 0, .int .u32 0, .int .u32 0, .int .u32 0, .int .u32 0, .int .u32 0, .int .u32 0, .int .u32 0, .int .u32 0], [(0, 166, 1), (1, 167, 16)], .struct⟩),
 (170, ⟨1, 8, [.int .u64 0], [], .int .u64⟩),
 (171, ⟨1, 8, [.pointer none], [], .other⟩)]
theorem ti1 : TIok Tryz.prog 1 ⟨1, 8, [.nilFunc], [], .other⟩ := ⟨by kernel_rfl, by kernel_rfl, by kernel_rfl, by kernel_rfl⟩   -- func()
theorem ti2 : TIok Tryz.prog 2 ⟨1, 8, [.int .i64 0], [], .int .i64⟩ := ⟨by kernel_rfl, by kernel_rfl, by kernel_rfl, by kernel_rfl⟩   -- int64
theorem ti3 : TIok Tryz.prog 3 ⟨1, 8, [.int .i64 0], [], .int .i64⟩ := ⟨by kernel_rfl, by kernel_rfl, by kernel_rfl, by kernel_rfl⟩   -- int
theorem ti4 : TIok Tryz.prog 4 ⟨1, 1, [.bool false], [], .bool⟩ := ⟨by kernel_rfl, by kernel_rfl, by kernel_rfl, by kernel_rfl⟩   -- bool
theorem ti5 : TIok Tryz.prog 5 ⟨1, 1, [.int .u8 0], [], .int .u8⟩ := ⟨by kernel_rfl, by kernel_rfl, by kernel_rfl, by kernel_rfl⟩   -- uint8
theorem ti6 : TIok Tryz.prog 6 ⟨1, 1, [.int .u8 0], [], .int .u8⟩ := ⟨by kernel_rfl, by kernel_rfl, by kernel_rfl, by kernel_rfl⟩   -- abi.BoundsErrorCode
theorem ti7 : TIok Tryz.prog 7 ⟨4, 24, [.int .i64 0, .int .i64 0, .bool false, .int .u8 0], [(0, 2, 1), (1, 3, 1), (2, 4, 1), (3, 6, 1)], .struct⟩ := ⟨by kernel_rfl, by kernel_rfl, by kernel_rfl, by kernel_rfl⟩   -- struct { x int64; y int; signed bool; code abi.BoundsErrorCode }
theorem ti9 : TIok Tryz.prog 9 ⟨1, 16, [.string ByteArray.empty], [], .str⟩ := ⟨by kernel_rfl, by kernel_rfl, by kernel_rfl, by kernel_rfl⟩   -- string
theorem ti23 : TIok Tryz.prog 23 ⟨8, 64, [.int .i64 0, .int .i64 0, .int .i64 0, .int .i64 0, .int .i64 0, .int .i64 0, .int .i64 0, .int .i64 0], [(0, 3, 1), (1, 3, 1), (2, 3, 1), (3, 3, 1), (4, 3, 1), (5, 3, 1), (6, 3, 1), (7, 3, 1)], .struct⟩ := ⟨by kernel_rfl, by kernel_rfl, by kernel_rfl, by kernel_rfl⟩   -- api.Geo
theorem ti24 : TIok Tryz.prog 24 ⟨1, 24, [.slice none 0 0], [], .slice 9⟩ := ⟨by kernel_rfl, by kernel_rfl, by kernel_rfl, by kernel_rfl⟩   -- []string
theorem ti25 : TIok Tryz.prog 25 ⟨1, 24, [.slice none 0 0], [], .slice 42⟩ := ⟨by kernel_rfl, by kernel_rfl, by kernel_rfl, by kernel_rfl⟩   -- [][]api.Cell
theorem ti26 : TIok Tryz.prog 26 ⟨1, 24, [.slice none 0 0], [], .slice 3⟩ := ⟨by kernel_rfl, by kernel_rfl, by kernel_rfl, by kernel_rfl⟩   -- []int
theorem ti28 : TIok Tryz.prog 28 ⟨5, 104, [.slice none 0 0, .slice none 0 0, .slice none 0 0, .int .i64 0, .slice none 0 0], [(0, 24, 1), (1, 25, 1), (2, 26, 1), (3, 3, 1), (4, 26, 1)], .struct⟩ := ⟨by kernel_rfl, by kernel_rfl, by kernel_rfl, by kernel_rfl⟩   -- api.Device
theorem ti33 : TIok Tryz.prog 33 ⟨1, 1, [.int .i8 0], [], .int .i8⟩ := ⟨by kernel_rfl, by kernel_rfl, by kernel_rfl, by kernel_rfl⟩   -- int8
theorem ti36 : TIok Tryz.prog 36 ⟨1, 24, [.slice none 0 0], [], .slice 74⟩ := ⟨by kernel_rfl, by kernel_rfl, by kernel_rfl, by kernel_rfl⟩   -- []api.Record
theorem ti37 : TIok Tryz.prog 37 ⟨1, 8, [.int .i64 0], [], .int .i64⟩ := ⟨by kernel_rfl, by kernel_rfl, by kernel_rfl, by kernel_rfl⟩   -- api.Errno
theorem ti40 : TIok Tryz.prog 40 ⟨1, 24, [.slice none 0 0], [], .slice 72⟩ := ⟨by kernel_rfl, by kernel_rfl, by kernel_rfl, by kernel_rfl⟩   -- []api.Block
theorem ti42 : TIok Tryz.prog 42 ⟨1, 24, [.slice none 0 0], [], .slice 126⟩ := ⟨by kernel_rfl, by kernel_rfl, by kernel_rfl, by kernel_rfl⟩   -- []api.Cell
theorem ti44 : TIok Tryz.prog 44 ⟨8, 96, [.int .i64 0, .int .i64 0, .int .i8 0, .int .i64 0, .slice none 0 0, .slice none 0 0, .int .i64 0, .int .i64 0], [(0, 3, 1), (1, 3, 1), (2, 33, 1), (3, 3, 1), (4, 36, 1), (5, 42, 1), (6, 3, 1), (7, 3, 1)], .struct⟩ := ⟨by kernel_rfl, by kernel_rfl, by kernel_rfl, by kernel_rfl⟩   -- api.Replaying
theorem ti61 : TIok Tryz.prog 61 ⟨4, 40, [.int .i8 0, .int .i64 0, .string ByteArray.empty, .int .i64 0], [(0, 33, 1), (1, 3, 1), (2, 9, 1), (3, 3, 1)], .struct⟩ := ⟨by kernel_rfl, by kernel_rfl, by kernel_rfl, by kernel_rfl⟩   -- api.Act
theorem ti72 : TIok Tryz.prog 72 ⟨2, 24, [.int .i64 0, .string ByteArray.empty], [(0, 3, 1), (1, 9, 1)], .struct⟩ := ⟨by kernel_rfl, by kernel_rfl, by kernel_rfl, by kernel_rfl⟩   -- api.Block
theorem ti74 : TIok Tryz.prog 74 ⟨6, 56, [.int .i64 0, .int .i64 0, .int .i64 0, .int .i64 0, .string ByteArray.empty, .int .i64 0], [(0, 3, 1), (1, 3, 1), (2, 3, 1), (3, 3, 1), (4, 9, 1), (5, 3, 1)], .struct⟩ := ⟨by kernel_rfl, by kernel_rfl, by kernel_rfl, by kernel_rfl⟩   -- api.Record
theorem ti79 : TIok Tryz.prog 79 ⟨1, 8, [.nilFunc], [], .other⟩ := ⟨by kernel_rfl, by kernel_rfl, by kernel_rfl, by kernel_rfl⟩   -- func(*replay.walk) api.Act
theorem ti80 : TIok Tryz.prog 80 ⟨1, 8, [.nilFunc], [], .other⟩ := ⟨by kernel_rfl, by kernel_rfl, by kernel_rfl, by kernel_rfl⟩   -- func(*replay.walk, string) api.Errno
theorem ti82 : TIok Tryz.prog 82 ⟨2, 16, [.nilFunc, .nilFunc], [(0, 79, 1), (1, 80, 1)], .struct⟩ := ⟨by kernel_rfl, by kernel_rfl, by kernel_rfl, by kernel_rfl⟩   -- replay.deed
theorem ti84 : TIok Tryz.prog 84 ⟨1, 1, [.int .i8 0], [], .int .i8⟩ := ⟨by kernel_rfl, by kernel_rfl, by kernel_rfl, by kernel_rfl⟩   -- replay.place
theorem ti86 : TIok Tryz.prog 86 ⟨1, 8, [.pointer none], [], .other⟩ := ⟨by kernel_rfl, by kernel_rfl, by kernel_rfl, by kernel_rfl⟩   -- *replay.walk
theorem ti88 : TIok Tryz.prog 88 ⟨16, 160, [.int .i64 0, .int .i64 0, .int .i8 0, .int .i64 0, .slice none 0 0, .slice none 0 0, .int .i64 0, .int .i64 0, .int .i64 0, .int .i64 0, .int .i64 0, .int .i64 0, .int .i64 0, .int .i64 0, .int .i64 0, .int .i64 0], [(0, 44, 8), (8, 23, 8)], .struct⟩ := ⟨by kernel_rfl, by kernel_rfl, by kernel_rfl, by kernel_rfl⟩   -- replay.walk
theorem ti94 : TIok Tryz.prog 94 ⟨1, 24, [.slice none 0 0], [], .slice 5⟩ := ⟨by kernel_rfl, by kernel_rfl, by kernel_rfl, by kernel_rfl⟩   -- []uint8
theorem ti99 : TIok Tryz.prog 99 ⟨8, 64, [.nilFunc, .nilFunc, .nilFunc, .nilFunc, .nilFunc, .nilFunc, .nilFunc, .nilFunc], [], .arr 4 82⟩ := ⟨by kernel_rfl, by kernel_rfl, by kernel_rfl, by kernel_rfl⟩   -- [4]replay.deed
theorem ti107 : TIok Tryz.prog 107 ⟨1, 8, [.int .u64 0], [], .int .u64⟩ := ⟨by kernel_rfl, by kernel_rfl, by kernel_rfl, by kernel_rfl⟩   -- uint
theorem ti109 : TIok Tryz.prog 109 ⟨2, 16, [.int .i64 0, .int .i64 0], [(0, 3, 1), (1, 3, 1)], .struct⟩ := ⟨by kernel_rfl, by kernel_rfl, by kernel_rfl, by kernel_rfl⟩   -- geo.stretch
theorem ti111 : TIok Tryz.prog 111 ⟨4, 32, [.int .i64 0, .int .i64 0, .int .i8 0, .int .i64 0], [(0, 109, 2), (2, 33, 1), (3, 3, 1)], .struct⟩ := ⟨by kernel_rfl, by kernel_rfl, by kernel_rfl, by kernel_rfl⟩   -- geo.region
theorem ti116 : TIok Tryz.prog 116 ⟨1, 8, [.nilFunc], [], .other⟩ := ⟨by kernel_rfl, by kernel_rfl, by kernel_rfl, by kernel_rfl⟩   -- func(api.Record) bool
theorem ti118 : TIok Tryz.prog 118 ⟨1, 24, [.slice none 0 0], [], .slice 111⟩ := ⟨by kernel_rfl, by kernel_rfl, by kernel_rfl, by kernel_rfl⟩   -- []geo.region
theorem ti126 : TIok Tryz.prog 126 ⟨2, 24, [.int .i64 0, .string ByteArray.empty], [(0, 3, 1), (1, 9, 1)], .struct⟩ := ⟨by kernel_rfl, by kernel_rfl, by kernel_rfl, by kernel_rfl⟩   -- api.Cell
theorem ti135 : TIok Tryz.prog 135 ⟨1, 24, [.slice none 0 0], [], .slice 36⟩ := ⟨by kernel_rfl, by kernel_rfl, by kernel_rfl, by kernel_rfl⟩   -- [][]api.Record
theorem ti137 : TIok Tryz.prog 137 ⟨1, 8, [.pointer none], [], .other⟩ := ⟨by kernel_rfl, by kernel_rfl, by kernel_rfl, by kernel_rfl⟩   -- *record.entry
theorem ti139 : TIok Tryz.prog 139 ⟨6, 56, [.int .i64 0, .int .i64 0, .int .i64 0, .int .i64 0, .string ByteArray.empty, .int .i64 0], [(0, 74, 6)], .struct⟩ := ⟨by kernel_rfl, by kernel_rfl, by kernel_rfl, by kernel_rfl⟩   -- record.entry
theorem ti144 : TIok Tryz.prog 144 ⟨1, 8, [.map none], [], .other⟩ := ⟨by kernel_rfl, by kernel_rfl, by kernel_rfl, by kernel_rfl⟩   -- scan.texts
theorem ti147 : TIok Tryz.prog 147 ⟨1, 8, [.pointer none], [], .other⟩ := ⟨by kernel_rfl, by kernel_rfl, by kernel_rfl, by kernel_rfl⟩   -- *seal.sector
theorem ti149 : TIok Tryz.prog 149 ⟨2, 32, [.slice none 0 0, .int .i64 0], [(0, 94, 1), (1, 37, 1)], .struct⟩ := ⟨by kernel_rfl, by kernel_rfl, by kernel_rfl, by kernel_rfl⟩   -- seal.bytes
theorem ti151 : TIok Tryz.prog 151 ⟨3, 40, [.slice none 0 0, .int .i64 0, .int .i8 0], [(0, 149, 2), (2, 33, 1)], .struct⟩ := ⟨by kernel_rfl, by kernel_rfl, by kernel_rfl, by kernel_rfl⟩   -- seal.sector
theorem ti154 : TIok Tryz.prog 154 ⟨1, 8, [.int .i64 0], [], .int .i64⟩ := ⟨by kernel_rfl, by kernel_rfl, by kernel_rfl, by kernel_rfl⟩   -- num.width
theorem ti155 : TIok Tryz.prog 155 ⟨1, 8, [.pointer none], [], .other⟩ := ⟨by kernel_rfl, by kernel_rfl, by kernel_rfl, by kernel_rfl⟩   -- *buffer.sized
theorem ti157 : TIok Tryz.prog 157 ⟨1, 24, [.slice none 0 0], [(0, 40, 1)], .struct⟩ := ⟨by kernel_rfl, by kernel_rfl, by kernel_rfl, by kernel_rfl⟩   -- buffer.row
theorem ti159 : TIok Tryz.prog 159 ⟨9, 88, [.slice none 0 0, .int .i64 0, .int .i64 0, .int .i64 0, .int .i64 0, .int .i64 0, .int .i64 0, .int .i64 0, .int .i64 0], [(0, 157, 1), (1, 23, 8)], .struct⟩ := ⟨by kernel_rfl, by kernel_rfl, by kernel_rfl, by kernel_rfl⟩   -- buffer.sized
theorem ti160 : TIok Tryz.prog 160 ⟨1, 8, [.pointer none], [], .other⟩ := ⟨by kernel_rfl, by kernel_rfl, by kernel_rfl, by kernel_rfl⟩   -- *seal.bytes
theorem ti161 : TIok Tryz.prog 161 ⟨1, 8, [.pointer none], [], .other⟩ := ⟨by kernel_rfl, by kernel_rfl, by kernel_rfl, by kernel_rfl⟩   -- *crc.summer
theorem ti164 : TIok Tryz.prog 164 ⟨1, 4, [.int .u32 0], [], .int .u32⟩ := ⟨by kernel_rfl, by kernel_rfl, by kernel_rfl, by kernel_rfl⟩   -- uint32
theorem ti166 : TIok Tryz.prog 166 ⟨1, 4, [.int .u32 0], [(0, 164, 1)], .struct⟩ := ⟨by kernel_rfl, by kernel_rfl, by kernel_rfl, by kernel_rfl⟩   -- crc.register
theorem ti167 : TIok Tryz.prog 167 ⟨16, 64, [.int .u32 0, .int .u32 0, .int .u32 0, .int .u32 0, .int .u32 0, .int .u32 0, .int .u32 0, .int .u32 0, .int .u32 0, .int .u32 0, .int .u32 0, .int .u32 0, .int .u32 0, .int .u32 0, .int .u32 0, .int .u32 0], [], .arr 16 164⟩ := ⟨by kernel_rfl, by kernel_rfl, by kernel_rfl, by kernel_rfl⟩   -- [16]uint32
theorem ti169 : TIok Tryz.prog 169 ⟨17, 68, [.int .u32 0, .int .u32 0, .int .u32 0, .int .u32 0, .int .u32 0, .int .u32 0, .int .u32 0, .int .u32 0, .int .u32 0, .int .u32 0, .int .u32 0, .int .u32 0, .int .u32 0, .int .u32 0, .int .u32 0, .int .u32 0, .int .u32 0], [(0, 166, 1), (1, 167, 16)], .struct⟩ := ⟨by kernel_rfl, by kernel_rfl, by kernel_rfl, by kernel_rfl⟩   -- crc.summer
theorem ti170 : TIok Tryz.prog 170 ⟨1, 8, [.int .u64 0], [], .int .u64⟩ := ⟨by kernel_rfl, by kernel_rfl, by kernel_rfl, by kernel_rfl⟩   -- uint64
theorem ti171 : TIok Tryz.prog 171 ⟨1, 8, [.pointer none], [], .other⟩ := ⟨by kernel_rfl, by kernel_rfl, by kernel_rfl, by kernel_rfl⟩   -- *crc.register
theorem tok : TTok Tryz.prog tt := TTok.cons ti1 <| TTok.cons ti2 <| TTok.cons ti3 <| TTok.cons ti4 <| TTok.cons ti5 <| TTok.cons ti6 <| TTok.cons ti7 <| TTok.cons ti9 <| TTok.cons ti23 <| TTok.cons ti24 <| TTok.cons ti25 <| TTok.cons ti26 <| TTok.cons ti28 <| TTok.cons ti33 <| TTok.cons ti36 <| TTok.cons ti37 <| TTok.cons ti40 <| TTok.cons ti42 <| TTok.cons ti44 <| TTok.cons ti61 <| TTok.cons ti72 <| TTok.cons ti74 <| TTok.cons ti79 <| TTok.cons ti80 <| TTok.cons ti82 <| TTok.cons ti84 <| TTok.cons ti86 <| TTok.cons ti88 <| TTok.cons ti94 <| TTok.cons ti99 <| TTok.cons ti107 <| TTok.cons ti109 <| TTok.cons ti111 <| TTok.cons ti116 <| TTok.cons ti118 <| TTok.cons ti126 <| TTok.cons ti135 <| TTok.cons ti137 <| TTok.cons ti139 <| TTok.cons ti144 <| TTok.cons ti147 <| TTok.cons ti149 <| TTok.cons ti151 <| TTok.cons ti154 <| TTok.cons ti155 <| TTok.cons ti157 <| TTok.cons ti159 <| TTok.cons ti160 <| TTok.cons ti161 <| TTok.cons ti164 <| TTok.cons ti166 <| TTok.cons ti167 <| TTok.cons ti169 <| TTok.cons ti170 <| TTok.cons ti171 <| TTok.nil _
theorem fnok3 : FnOk Tryz.prog 3 := ⟨_, Tryz.func3, by kernel_rfl, by kernel_rfl⟩
theorem fnok4 : FnOk Tryz.prog 4 := ⟨_, Tryz.func4, by kernel_rfl, by kernel_rfl⟩
theorem fnok5 : FnOk Tryz.prog 5 := ⟨_, Tryz.func5, by kernel_rfl, by kernel_rfl⟩
theorem fnok6 : FnOk Tryz.prog 6 := ⟨_, Tryz.func6, by kernel_rfl, by kernel_rfl⟩
theorem fnok7 : FnOk Tryz.prog 7 := ⟨_, Tryz.func7, by kernel_rfl, by kernel_rfl⟩
theorem fnok8 : FnOk Tryz.prog 8 := ⟨_, Tryz.func8, by kernel_rfl, by kernel_rfl⟩
theorem fnok9 : FnOk Tryz.prog 9 := ⟨_, Tryz.func9, by kernel_rfl, by kernel_rfl⟩
theorem fnok10 : FnOk Tryz.prog 10 := ⟨_, Tryz.func10, by kernel_rfl, by kernel_rfl⟩
theorem fnok11 : FnOk Tryz.prog 11 := ⟨_, Tryz.func11, by kernel_rfl, by kernel_rfl⟩
theorem fnok12 : FnOk Tryz.prog 12 := ⟨_, Tryz.func12, by kernel_rfl, by kernel_rfl⟩
theorem fnok13 : FnOk Tryz.prog 13 := ⟨_, Tryz.func13, by kernel_rfl, by kernel_rfl⟩
theorem fnok14 : FnOk Tryz.prog 14 := ⟨_, Tryz.func14, by kernel_rfl, by kernel_rfl⟩
theorem fnok15 : FnOk Tryz.prog 15 := ⟨_, Tryz.func15, by kernel_rfl, by kernel_rfl⟩
theorem fnok16 : FnOk Tryz.prog 16 := ⟨_, Tryz.func16, by kernel_rfl, by kernel_rfl⟩
theorem fnok17 : FnOk Tryz.prog 17 := ⟨_, Tryz.func17, by kernel_rfl, by kernel_rfl⟩
theorem fnok18 : FnOk Tryz.prog 18 := ⟨_, Tryz.func18, by kernel_rfl, by kernel_rfl⟩
theorem fnok19 : FnOk Tryz.prog 19 := ⟨_, Tryz.func19, by kernel_rfl, by kernel_rfl⟩
theorem fnok20 : FnOk Tryz.prog 20 := ⟨_, Tryz.func20, by kernel_rfl, by kernel_rfl⟩
theorem fnok21 : FnOk Tryz.prog 21 := ⟨_, Tryz.func21, by kernel_rfl, by kernel_rfl⟩
theorem fnok22 : FnOk Tryz.prog 22 := ⟨_, Tryz.func22, by kernel_rfl, by kernel_rfl⟩
theorem fnok23 : FnOk Tryz.prog 23 := ⟨_, Tryz.func23, by kernel_rfl, by kernel_rfl⟩
theorem fnok24 : FnOk Tryz.prog 24 := ⟨_, Tryz.func24, by kernel_rfl, by kernel_rfl⟩
theorem fnok25 : FnOk Tryz.prog 25 := ⟨_, Tryz.func25, by kernel_rfl, by kernel_rfl⟩
theorem fnok26 : FnOk Tryz.prog 26 := ⟨_, Tryz.func26, by kernel_rfl, by kernel_rfl⟩
theorem fnok27 : FnOk Tryz.prog 27 := ⟨_, Tryz.func27, by kernel_rfl, by kernel_rfl⟩
theorem fnok28 : FnOk Tryz.prog 28 := ⟨_, Tryz.func28, by kernel_rfl, by kernel_rfl⟩
theorem fnok29 : FnOk Tryz.prog 29 := ⟨_, Tryz.func29, by kernel_rfl, by kernel_rfl⟩
theorem fnok30 : FnOk Tryz.prog 30 := ⟨_, Tryz.func30, by kernel_rfl, by kernel_rfl⟩
theorem fnok31 : FnOk Tryz.prog 31 := ⟨_, Tryz.func31, by kernel_rfl, by kernel_rfl⟩
theorem fnok32 : FnOk Tryz.prog 32 := ⟨_, Tryz.func32, by kernel_rfl, by kernel_rfl⟩
theorem fnok33 : FnOk Tryz.prog 33 := ⟨_, Tryz.func33, by kernel_rfl, by kernel_rfl⟩
theorem fnok34 : FnOk Tryz.prog 34 := ⟨_, Tryz.func34, by kernel_rfl, by kernel_rfl⟩
theorem fnok35 : FnOk Tryz.prog 35 := ⟨_, Tryz.func35, by kernel_rfl, by kernel_rfl⟩
theorem fnok36 : FnOk Tryz.prog 36 := ⟨_, Tryz.func36, by kernel_rfl, by kernel_rfl⟩
theorem fnok37 : FnOk Tryz.prog 37 := ⟨_, Tryz.func37, by kernel_rfl, by kernel_rfl⟩
theorem fnok38 : FnOk Tryz.prog 38 := ⟨_, Tryz.func38, by kernel_rfl, by kernel_rfl⟩
theorem fnok39 : FnOk Tryz.prog 39 := ⟨_, Tryz.func39, by kernel_rfl, by kernel_rfl⟩
theorem fnok40 : FnOk Tryz.prog 40 := ⟨_, Tryz.func40, by kernel_rfl, by kernel_rfl⟩
theorem fnok41 : FnOk Tryz.prog 41 := ⟨_, Tryz.func41, by kernel_rfl, by kernel_rfl⟩
theorem fnok42 : FnOk Tryz.prog 42 := ⟨_, Tryz.func42, by kernel_rfl, by kernel_rfl⟩
theorem fnok43 : FnOk Tryz.prog 43 := ⟨_, Tryz.func43, by kernel_rfl, by kernel_rfl⟩
theorem fnok44 : FnOk Tryz.prog 44 := ⟨_, Tryz.func44, by kernel_rfl, by kernel_rfl⟩
theorem fnok45 : FnOk Tryz.prog 45 := ⟨_, Tryz.func45, by kernel_rfl, by kernel_rfl⟩
theorem fnok46 : FnOk Tryz.prog 46 := ⟨_, Tryz.func46, by kernel_rfl, by kernel_rfl⟩
theorem fnok47 : FnOk Tryz.prog 47 := ⟨_, Tryz.func47, by kernel_rfl, by kernel_rfl⟩
theorem fnok48 : FnOk Tryz.prog 48 := ⟨_, Tryz.func48, by kernel_rfl, by kernel_rfl⟩
theorem fnok49 : FnOk Tryz.prog 49 := ⟨_, Tryz.func49, by kernel_rfl, by kernel_rfl⟩
theorem fnok50 : FnOk Tryz.prog 50 := ⟨_, Tryz.func50, by kernel_rfl, by kernel_rfl⟩
theorem fnok51 : FnOk Tryz.prog 51 := ⟨_, Tryz.func51, by kernel_rfl, by kernel_rfl⟩
theorem fnok52 : FnOk Tryz.prog 52 := ⟨_, Tryz.func52, by kernel_rfl, by kernel_rfl⟩
theorem fnok53 : FnOk Tryz.prog 53 := ⟨_, Tryz.func53, by kernel_rfl, by kernel_rfl⟩
theorem fnok54 : FnOk Tryz.prog 54 := ⟨_, Tryz.func54, by kernel_rfl, by kernel_rfl⟩
theorem fnok55 : FnOk Tryz.prog 55 := ⟨_, Tryz.func55, by kernel_rfl, by kernel_rfl⟩
theorem fnok56 : FnOk Tryz.prog 56 := ⟨_, Tryz.func56, by kernel_rfl, by kernel_rfl⟩
theorem fnok57 : FnOk Tryz.prog 57 := ⟨_, Tryz.func57, by kernel_rfl, by kernel_rfl⟩
theorem fnok58 : FnOk Tryz.prog 58 := ⟨_, Tryz.func58, by kernel_rfl, by kernel_rfl⟩
theorem fnok59 : FnOk Tryz.prog 59 := ⟨_, Tryz.func59, by kernel_rfl, by kernel_rfl⟩
theorem fnok60 : FnOk Tryz.prog 60 := ⟨_, Tryz.func60, by kernel_rfl, by kernel_rfl⟩
theorem fnok61 : FnOk Tryz.prog 61 := ⟨_, Tryz.func61, by kernel_rfl, by kernel_rfl⟩
theorem fnok62 : FnOk Tryz.prog 62 := ⟨_, Tryz.func62, by kernel_rfl, by kernel_rfl⟩
theorem fnok63 : FnOk Tryz.prog 63 := ⟨_, Tryz.func63, by kernel_rfl, by kernel_rfl⟩
theorem fnok64 : FnOk Tryz.prog 64 := ⟨_, Tryz.func64, by kernel_rfl, by kernel_rfl⟩
theorem fnok65 : FnOk Tryz.prog 65 := ⟨_, Tryz.func65, by kernel_rfl, by kernel_rfl⟩
theorem fnok66 : FnOk Tryz.prog 66 := ⟨_, Tryz.func66, by kernel_rfl, by kernel_rfl⟩
theorem fnok67 : FnOk Tryz.prog 67 := ⟨_, Tryz.func67, by kernel_rfl, by kernel_rfl⟩
theorem fnok68 : FnOk Tryz.prog 68 := ⟨_, Tryz.func68, by kernel_rfl, by kernel_rfl⟩
theorem fnok69 : FnOk Tryz.prog 69 := ⟨_, Tryz.func69, by kernel_rfl, by kernel_rfl⟩
theorem fnok70 : FnOk Tryz.prog 70 := ⟨_, Tryz.func70, by kernel_rfl, by kernel_rfl⟩
theorem fnok71 : FnOk Tryz.prog 71 := ⟨_, Tryz.func71, by kernel_rfl, by kernel_rfl⟩
theorem fnok72 : FnOk Tryz.prog 72 := ⟨_, Tryz.func72, by kernel_rfl, by kernel_rfl⟩
theorem fnok73 : FnOk Tryz.prog 73 := ⟨_, Tryz.func73, by kernel_rfl, by kernel_rfl⟩
theorem fnok74 : FnOk Tryz.prog 74 := ⟨_, Tryz.func74, by kernel_rfl, by kernel_rfl⟩
theorem fnok75 : FnOk Tryz.prog 75 := ⟨_, Tryz.func75, by kernel_rfl, by kernel_rfl⟩
theorem fnok76 : FnOk Tryz.prog 76 := ⟨_, Tryz.func76, by kernel_rfl, by kernel_rfl⟩
theorem fnok77 : FnOk Tryz.prog 77 := ⟨_, Tryz.func77, by kernel_rfl, by kernel_rfl⟩
theorem fnok78 : FnOk Tryz.prog 78 := ⟨_, Tryz.func78, by kernel_rfl, by kernel_rfl⟩
theorem fnok79 : FnOk Tryz.prog 79 := ⟨_, Tryz.func79, by kernel_rfl, by kernel_rfl⟩
theorem fnok80 : FnOk Tryz.prog 80 := ⟨_, Tryz.func80, by kernel_rfl, by kernel_rfl⟩
theorem fnok81 : FnOk Tryz.prog 81 := ⟨_, Tryz.func81, by kernel_rfl, by kernel_rfl⟩
theorem fnok82 : FnOk Tryz.prog 82 := ⟨_, Tryz.func82, by kernel_rfl, by kernel_rfl⟩
theorem fnok83 : FnOk Tryz.prog 83 := ⟨_, Tryz.func83, by kernel_rfl, by kernel_rfl⟩
theorem fnok84 : FnOk Tryz.prog 84 := ⟨_, Tryz.func84, by kernel_rfl, by kernel_rfl⟩
theorem fnok85 : FnOk Tryz.prog 85 := ⟨_, Tryz.func85, by kernel_rfl, by kernel_rfl⟩
theorem fnok86 : FnOk Tryz.prog 86 := ⟨_, Tryz.func86, by kernel_rfl, by kernel_rfl⟩
theorem fnok87 : FnOk Tryz.prog 87 := ⟨_, Tryz.func87, by kernel_rfl, by kernel_rfl⟩
theorem fnok88 : FnOk Tryz.prog 88 := ⟨_, Tryz.func88, by kernel_rfl, by kernel_rfl⟩
theorem fnok89 : FnOk Tryz.prog 89 := ⟨_, Tryz.func89, by kernel_rfl, by kernel_rfl⟩
theorem fnok90 : FnOk Tryz.prog 90 := ⟨_, Tryz.func90, by kernel_rfl, by kernel_rfl⟩
theorem fnok91 : FnOk Tryz.prog 91 := ⟨_, Tryz.func91, by kernel_rfl, by kernel_rfl⟩
theorem fnok92 : FnOk Tryz.prog 92 := ⟨_, Tryz.func92, by kernel_rfl, by kernel_rfl⟩
theorem fnok93 : FnOk Tryz.prog 93 := ⟨_, Tryz.func93, by kernel_rfl, by kernel_rfl⟩
theorem fnok94 : FnOk Tryz.prog 94 := ⟨_, Tryz.func94, by kernel_rfl, by kernel_rfl⟩
theorem fnok95 : FnOk Tryz.prog 95 := ⟨_, Tryz.func95, by kernel_rfl, by kernel_rfl⟩
theorem fnok96 : FnOk Tryz.prog 96 := ⟨_, Tryz.func96, by kernel_rfl, by kernel_rfl⟩
theorem fnok97 : FnOk Tryz.prog 97 := ⟨_, Tryz.func97, by kernel_rfl, by kernel_rfl⟩
theorem fnok98 : FnOk Tryz.prog 98 := ⟨_, Tryz.func98, by kernel_rfl, by kernel_rfl⟩
theorem fnok99 : FnOk Tryz.prog 99 := ⟨_, Tryz.func99, by kernel_rfl, by kernel_rfl⟩
theorem fnok100 : FnOk Tryz.prog 100 := ⟨_, Tryz.func100, by kernel_rfl, by kernel_rfl⟩
theorem fnok101 : FnOk Tryz.prog 101 := ⟨_, Tryz.func101, by kernel_rfl, by kernel_rfl⟩
theorem fnok102 : FnOk Tryz.prog 102 := ⟨_, Tryz.func102, by kernel_rfl, by kernel_rfl⟩
theorem fnok103 : FnOk Tryz.prog 103 := ⟨_, Tryz.func103, by kernel_rfl, by kernel_rfl⟩
theorem fnok104 : FnOk Tryz.prog 104 := ⟨_, Tryz.func104, by kernel_rfl, by kernel_rfl⟩
theorem fnok105 : FnOk Tryz.prog 105 := ⟨_, Tryz.func105, by kernel_rfl, by kernel_rfl⟩
theorem fnok106 : FnOk Tryz.prog 106 := ⟨_, Tryz.func106, by kernel_rfl, by kernel_rfl⟩
theorem fnok107 : FnOk Tryz.prog 107 := ⟨_, Tryz.func107, by kernel_rfl, by kernel_rfl⟩
theorem fnok108 : FnOk Tryz.prog 108 := ⟨_, Tryz.func108, by kernel_rfl, by kernel_rfl⟩
theorem fnok109 : FnOk Tryz.prog 109 := ⟨_, Tryz.func109, by kernel_rfl, by kernel_rfl⟩
theorem fnok110 : FnOk Tryz.prog 110 := ⟨_, Tryz.func110, by kernel_rfl, by kernel_rfl⟩
theorem fnok111 : FnOk Tryz.prog 111 := ⟨_, Tryz.func111, by kernel_rfl, by kernel_rfl⟩
theorem fnok112 : FnOk Tryz.prog 112 := ⟨_, Tryz.func112, by kernel_rfl, by kernel_rfl⟩
theorem fnok113 : FnOk Tryz.prog 113 := ⟨_, Tryz.func113, by kernel_rfl, by kernel_rfl⟩
theorem fnok114 : FnOk Tryz.prog 114 := ⟨_, Tryz.func114, by kernel_rfl, by kernel_rfl⟩
theorem fnok115 : FnOk Tryz.prog 115 := ⟨_, Tryz.func115, by kernel_rfl, by kernel_rfl⟩
theorem mixed : Tryz.prog.follows .mixedOrders = true := by kernel_rfl
theorem Xa (a b : Bool) : ((a && b) = true) = (a = true ∧ b = true) := Bool.and_eq_true a b
theorem Xb (a b : Bool) : ((a || b) = true) = (a = true ∨ b = true) := Bool.or_eq_true a b
theorem Xc (b : Bool) : ((!b) = true) = (b = false) := Bool.not_eq_true' b
theorem Xd {x y : Bool} : (x || y) = false ↔ x = false ∧ y = false := Bool.or_eq_false_iff
theorem Xe {x y : Bool} : (x && y) = false ↔ x = false ∨ y = false := Bool.and_eq_false_iff
theorem Xf {p : Prop} [i : Decidable p] : (decide p = true) = p := decide_eq_true_eq
theorem Xg {p : Prop} {x : Decidable p} : decide p = false ↔ ¬p := decide_eq_false_iff_not
theorem Xh {α : Type _} [BEq α] [LawfulBEq α] {a b : α} : (a == b) = true ↔ a = b := beq_iff_eq
theorem Xi {α : Type _} [BEq α] [LawfulBEq α] {a b : α} : (a != b) = true ↔ a ≠ b := bne_iff_ne
theorem Xj (b : Bool) : ((!b) = false) = (b = true) := Bool.not_eq_false' b
theorem Xk {α : Type _} [BEq α] [LawfulBEq α] {a b : α} : (a == b) = false ↔ a ≠ b := beq_eq_false_iff_ne
theorem Xl {α : Type _} [BEq α] [LawfulBEq α] {a b : α} : (a != b) = false ↔ a = b := bne_eq_false_iff_eq
theorem Xm {α : Sort _} (a b : α) : (a ≠ b) = ¬a = b := ne_eq a b
theorem Xn {p : Prop} [Decidable p] : ¬¬p ↔ p := Decidable.not_not
theorem Xo {a b : Int} : ¬a < b ↔ b ≤ a := Int.not_lt
theorem Xp {a b : Int} : ¬a ≤ b ↔ b < a := Int.not_le
section
variable {ops : Array Oper} {Q : Exit → Act → World → Prop} {o : Oper} {n : Nat} {F : Frame0} {C : List Nat} {O : Own} {nl : Nat} {V : Vw} {p : List (Nat × Bool)} {g : Bool} {C' : List Nat} {s : SV} {d : Nat}
theorem yO {rest : List Oper} (hg : gd ops F C o.guard = some (p, g, C')) (hd : o.dst = some d) (hc : (Nat.blt d n && !(memN d C')) = true) (hv : evalV tt F O p o.op = some s)
  (next : KJ (wpList Tryz.prog ops Q rest) n ((d, ⟨p, g, s⟩) :: F) C' O nl V) : KJ (wpList Tryz.prog ops Q (o :: rest)) n F C O nl V := o_yield hg hd hc (y_val tok hv) next
theorem yH {sp : List Nat} {O0 : Own} {nl0 : Nat} {V0 : Vw} {fuel : Nat} {listed : List Bool} (i : Nat) (hi : ops[i]? = some o) (hg : gd ops F C o.guard = some (p, g, C')) (hd : o.dst = some d) (hc : (Nat.blt d n && !(memN d C')) = true) (hv : evalV tt F O p o.op = some s)
  (next : HJ Tryz.prog ops Q sp O0 nl0 V0 fuel (setL listed i) n ((d, ⟨p, g, s⟩) :: F) C' O nl V) : HI Tryz.prog ops Q sp O0 nl0 V0 fuel listed n F C O nl V i := h_yield i hi hg hd hc (y_val tok hv) next
theorem yV (hv : evalV tt F O p o.op = some s) : Yld Tryz.prog o n F C O nl V p g s := y_val tok hv
theorem oN : SubO O [] := SubO.nil
theorem oC {l : Nat} {c : Cel} {r : Own} (h : Eng.lk O l = some c) (hr : SubO O r) : SubO O ((l, c) :: r) := SubO.cons h hr
theorem fN : SubF F [] := SubF.nil
theorem fC {t : Nat} {x : SV} {r : List (Nat × SV)} (h : opv F [] (.tmp t) = some x) (hr : SubF F r) : SubF F ((t, x) :: r) := SubF.cons h hr
end
end Go.Proofs.YtlafboeohojcbaaGreat
