import Derived.Test.YtkoiogkdiifgfaaGreatShf
import Derived.Test.YtkoiogkdiifgfaaGreatEng27
import Derived.Test.YtkoiogkdiifgfaaGreatProg
import Derived.KernelRfl
/- The types' table of this program, and that its functions have bodies. -/
set_option linter.unusedVariables false
namespace Go.Proofs.YtkoiogkdiifgfaaGreat
open Go Go.Eng Go.RowKit
def tt:List (Nat×TI):=[
 (1,⟨1,8,[.nilFunc],[], .other⟩),
 (2,⟨1,8,[.int .i64 0],[], .int .i64⟩),
 (3,⟨1,8,[.int .i64 0],[], .int .i64⟩),
 (4,⟨1,1,[.bool false],[], .bool⟩),
 (5,⟨1,1,[.int .u8 0],[], .int .u8⟩),
 (6,⟨1,1,[.int .u8 0],[], .int .u8⟩),
 (7,⟨4,24,[.int .i64 0, .int .i64 0, .bool false, .int .u8 0],[(0,2,1),(1,3,1),(2,4,1),(3,6,1)], .struct⟩),
 (8,⟨4,24,[.int .i64 0, .int .i64 0, .bool false, .int .u8 0],[(0,2,1),(1,3,1),(2,4,1),(3,6,1)], .struct⟩),
 (9,⟨1,16,[.string ByteArray.empty],[], .str⟩),
 (23,⟨8,64,[.int .i64 0, .int .i64 0, .int .i64 0, .int .i64 0, .int .i64 0, .int .i64 0, .int .i64 0, .int .i64 0],[(0,3,1),(1,3,1),(2,3,1),(3,3,1),(4,3,1),(5,3,1),(6,3,1),(7,3,1)], .struct⟩),
 (24,⟨1,24,[.slice none 0 0],[], .slice 9⟩),
 (25,⟨1,24,[.slice none 0 0],[], .slice 111⟩),
 (26,⟨1,24,[.slice none 0 0],[], .slice 3⟩),
 (28,⟨5,104,[.slice none 0 0, .slice none 0 0, .slice none 0 0, .int .i64 0, .slice none 0 0],[(0,24,1),(1,25,1),(2,26,1),(3,3,1),(4,26,1)], .struct⟩),
 (29,⟨1,24,[.slice none 0 0],[], .slice 56⟩),
 (30,⟨1,24,[.slice none 0 0],[], .slice 54⟩),
 (33,⟨1,8,[.int .i64 0],[], .int .i64⟩),
 (54,⟨6,48,[.int .i64 0, .int .i64 0, .int .i64 0, .int .i64 0, .int .i64 0, .int .i64 0],[(0,3,1),(1,3,1),(2,3,1),(3,3,1),(4,3,1),(5,3,1)], .struct⟩),
 (56,⟨3,40,[.string ByteArray.empty, .string ByteArray.empty, .int .i64 0],[(0,9,1),(1,9,1),(2,3,1)], .struct⟩),
 (57,⟨1,8,[.pointer none],[], .other⟩),
 (63,⟨1,24,[.slice none 0 0],[], .slice 74⟩),
 (66,⟨2,16,[.int .i64 0, .int .i64 0],[(0,3,1),(1,3,1)], .struct⟩),
 (67,⟨1,24,[.slice none 0 0],[], .slice 66⟩),
 (68,⟨1,24,[.slice none 0 0],[], .slice 196⟩),
 (70,⟨3,72,[.slice none 0 0, .slice none 0 0, .slice none 0 0],[(0,67,1),(1,68,1),(2,68,1)], .struct⟩),
 (72,⟨17,264,[.slice none 0 0, .slice none 0 0, .slice none 0 0, .int .i64 0, .int .i64 0, .int .i64 0, .int .i64 0, .int .i64 0, .int .i64 0, .int .i64 0, .int .i64 0, .slice none 0 0, .slice none 0 0, .slice none 0 0, .int .i64 0, .slice none 0 0, .slice none 0 0],[(0,70,3),(3,23,8),(11,28,5),(16,26,1)], .struct⟩),
 (74,⟨6,56,[.int .i64 0, .int .i64 0, .int .i64 0, .int .i64 0, .string ByteArray.empty, .int .i64 0],[(0,3,1),(1,3,1),(2,3,1),(3,3,1),(4,9,1),(5,3,1)], .struct⟩),
 (89,⟨1,24,[.slice none 0 0],[], .slice 93⟩),
 (93,⟨2,24,[.int .i64 0, .string ByteArray.empty],[(0,3,1),(1,9,1)], .struct⟩),
 (100,⟨1,8,[.nilFunc],[], .other⟩),
 (102,⟨1,24,[.slice none 0 0],[], .slice 164⟩),
 (108,⟨1,1,[.int .i8 0],[], .int .i8⟩),
 (111,⟨1,24,[.slice none 0 0],[], .slice 171⟩),
 (116,⟨3,40,[.int .i64 0, .int .i64 0, .slice none 0 0],[(0,3,1),(1,3,1),(2,24,1)], .struct⟩),
 (122,⟨1,8,[.map none],[], .other⟩),
 (125,⟨1,8,[.pointer none],[], .other⟩),
 (127,⟨1,24,[.slice none 0 0],[(0,89,1)], .struct⟩),
 (129,⟨9,88,[.slice none 0 0, .int .i64 0, .int .i64 0, .int .i64 0, .int .i64 0, .int .i64 0, .int .i64 0, .int .i64 0, .int .i64 0],[(0,127,1),(1,23,8)], .struct⟩),
 (136,⟨1,8,[.pointer none],[], .other⟩),
 (138,⟨5,104,[.slice none 0 0, .slice none 0 0, .slice none 0 0, .int .i64 0, .slice none 0 0],[(0,28,5)], .struct⟩),
 (140,⟨2,16,[.int .i64 0, .int .i64 0],[(0,3,1),(1,3,1)], .struct⟩),
 (142,⟨4,32,[.int .i64 0, .int .i64 0, .int .i8 0, .int .i64 0],[(0,140,2),(2,108,1),(3,3,1)], .struct⟩),
 (145,⟨1,8,[.pointer none],[], .other⟩),
 (147,⟨8,64,[.int .i64 0, .int .i64 0, .int .i64 0, .int .i64 0, .int .i64 0, .int .i64 0, .int .i64 0, .int .i64 0],[(0,23,8)], .struct⟩),
 (148,⟨1,24,[.slice none 0 0],[], .slice 150⟩),
 (150,⟨1,8,[.pointer none],[], .other⟩),
 (152,⟨10,96,[.int .i64 0, .int .i64 0, .int .i64 0, .int .i64 0, .int .i64 0, .int .i64 0, .int .i64 0, .int .i64 0, .slice none 0 0, .int .i64 0],[(0,23,8),(8,24,1),(9,3,1)], .struct⟩),
 (162,⟨2,16,[.int .i64 0, .int .i64 0],[(0,3,1),(1,3,1)], .struct⟩),
 (164,⟨8,64,[.int .i8 0, .int .i64 0, .int .i64 0, .int .i64 0, .int .i64 0, .int .i64 0, .int .i64 0, .int .i8 0],[(0,108,1),(1,3,1),(2,3,1),(3,3,1),(4,3,1),(5,162,2),(7,108,1)], .struct⟩),
 (171,⟨2,24,[.int .i64 0, .string ByteArray.empty],[(0,3,1),(1,9,1)], .struct⟩),
 (172,⟨1,8,[.pointer none],[], .other⟩),
 (174,⟨11,104,[.int .i64 0, .int .i64 0, .slice none 0 0, .int .i64 0, .int .i64 0, .int .i64 0, .int .i64 0, .int .i64 0, .int .i64 0, .int .i64 0, .int .i64 0],[(0,116,3),(3,23,8)], .struct⟩),
 (182,⟨1,24,[.slice none 0 0],[], .slice 142⟩),
 (185,⟨12,144,[.slice none 0 0, .slice none 0 0, .slice none 0 0, .int .i64 0, .int .i64 0, .int .i64 0, .int .i64 0, .int .i64 0, .int .i64 0, .int .i64 0, .int .i64 0, .int .i64 0],[(0,70,3),(3,23,8),(11,3,1)], .struct⟩),
 (186,⟨1,8,[.pointer none],[], .other⟩),
 (188,⟨1,8,[.nilFunc],[], .other⟩),
 (196,⟨4,32,[.int .i64 0, .int .i64 0, .int .i64 0, .int .i8 0],[(0,3,1),(1,162,2),(3,108,1)], .struct⟩),
 (206,⟨1,8,[.pointer none],[], .other⟩),
 (207,⟨1,24,[.slice none 0 0],[], .slice 5⟩),
 (209,⟨2,32,[.pointer none, .slice none 0 0],[(0,206,1),(1,207,1)], .struct⟩),
 (216,⟨1,8,[.int .i64 0],[], .int .i64⟩),
 (220,⟨1,8,[.nilFunc],[], .other⟩),
 (221,⟨1,8,[.map none],[], .other⟩),
 (223,⟨1,8,[.pointer none],[], .other⟩),
 (225,⟨10,88,[.int .i8 0, .int .i64 0, .int .i64 0, .int .i64 0, .int .i64 0, .int .i64 0, .int .i64 0, .int .i8 0, .string ByteArray.empty, .bool false],[(0,164,8),(8,9,1),(9,4,1)], .struct⟩),
 (227,⟨11,112,[.int .i8 0, .int .i64 0, .int .i64 0, .int .i64 0, .int .i64 0, .int .i64 0, .int .i64 0, .int .i8 0, .string ByteArray.empty, .bool false, .slice none 0 0],[(0,225,10),(10,102,1)], .struct⟩),
 (235,⟨1,8,[.pointer none],[], .other⟩),
 (238,⟨1,8,[.int .u64 0],[], .int .u64⟩),
 (240,⟨1,8,[.pointer none],[], .other⟩),
 (241,⟨1,8,[.nilFunc],[], .other⟩),
 (242,⟨6,48,[.nilFunc, .nilFunc, .nilFunc, .nilFunc, .nilFunc, .nilFunc],[], .arr 6 241⟩),
 (244,⟨1,8,[.pointer none],[], .other⟩),
 (247,⟨11,136,[.slice none 0 0, .slice none 0 0, .slice none 0 0, .int .i64 0, .int .i64 0, .int .i64 0, .int .i64 0, .int .i64 0, .int .i64 0, .int .i64 0, .int .i64 0],[(0,70,3),(3,23,8)], .struct⟩),
 (248,⟨1,8,[.pointer none],[], .other⟩),
 (250,⟨6,56,[.int .i64 0, .int .i64 0, .int .i64 0, .int .i64 0, .string ByteArray.empty, .int .i64 0],[(0,74,6)], .struct⟩),
 (258,⟨1,8,[.pointer none],[], .other⟩),
 (260,⟨2,24,[.string ByteArray.empty, .bool false],[(0,9,1),(1,4,1)], .struct⟩),
 (265,⟨1,8,[.pointer none],[], .other⟩),
 (268,⟨1,4,[.int .u32 0],[], .int .u32⟩),
 (270,⟨1,4,[.int .u32 0],[(0,268,1)], .struct⟩),
 (271,⟨16,64,[.int .u32 0, .int .u32 0, .int .u32 0, .int .u32 0, .int .u32 0, .int .u32 0, .int .u32 0, .int .u32 0, .int .u32 0, .int .u32 0, .int .u32 0, .int .u32 0, .int .u32 0, .int .u32 0, .int .u32 0, .int .u32 0],[], .arr 16 268⟩),
 (273,⟨17,68,[.int .u32 0, .int .u32 0, .int .u32 0, .int .u32 0, .int .u32 0, .int .u32 0, .int .u32 0, .int .u32 0, .int .u32 0, .int .u32 0, .int .u32 0, .int .u32 0, .int .u32 0, .int .u32 0, .int .u32 0, .int .u32 0, .int .u32 0],[(0,270,1),(1,271,16)], .struct⟩),
 (275,⟨1,8,[.pointer none],[], .other⟩),
 (277,⟨9,88,[.int .i8 0, .int .i64 0, .int .i64 0, .int .i64 0, .int .i64 0, .int .i64 0, .int .i64 0, .int .i8 0, .slice none 0 0],[(0,164,8),(8,207,1)], .struct⟩),
 (280,⟨1,8,[.nilFunc],[], .other⟩),
 (283,⟨1,8,[.nilFunc],[], .other⟩),
 (284,⟨1,8,[.nilFunc],[], .other⟩),
 (288,⟨1,8,[.pointer none],[], .other⟩),
 (291,⟨1,8,[.pointer none],[], .other⟩),
 (292,⟨1,24,[.slice none 0 0],[], .slice 68⟩),
 (294,⟨1,24,[.slice none 0 0],[], .slice 284⟩),
 (297,⟨1,8,[.nilFunc],[], .other⟩),
 (299,⟨2,16,[.int .i64 0, .int .i64 0],[(0,162,2)], .struct⟩),
 (304,⟨4,32,[.int .i64 0, .int .i64 0, .int .i64 0, .int .i8 0],[(0,299,2),(2,3,1),(3,108,1)], .struct⟩)]
theorem ti1 : TIok Tryz.prog 1 ⟨1, 8, [.nilFunc], [], .other⟩ := ⟨by kernel_rfl, by kernel_rfl, by kernel_rfl, by kernel_rfl⟩   -- func()
theorem ti2 : TIok Tryz.prog 2 ⟨1, 8, [.int .i64 0], [], .int .i64⟩ := ⟨by kernel_rfl, by kernel_rfl, by kernel_rfl, by kernel_rfl⟩   -- int64
theorem ti3 : TIok Tryz.prog 3 ⟨1, 8, [.int .i64 0], [], .int .i64⟩ := ⟨by kernel_rfl, by kernel_rfl, by kernel_rfl, by kernel_rfl⟩   -- int
theorem ti4 : TIok Tryz.prog 4 ⟨1, 1, [.bool false], [], .bool⟩ := ⟨by kernel_rfl, by kernel_rfl, by kernel_rfl, by kernel_rfl⟩   -- bool
theorem ti5 : TIok Tryz.prog 5 ⟨1, 1, [.int .u8 0], [], .int .u8⟩ := ⟨by kernel_rfl, by kernel_rfl, by kernel_rfl, by kernel_rfl⟩   -- uint8
theorem ti6 : TIok Tryz.prog 6 ⟨1, 1, [.int .u8 0], [], .int .u8⟩ := ⟨by kernel_rfl, by kernel_rfl, by kernel_rfl, by kernel_rfl⟩   -- abi.BoundsErrorCode
theorem ti7 : TIok Tryz.prog 7 ⟨4, 24, [.int .i64 0, .int .i64 0, .bool false, .int .u8 0], [(0, 2, 1), (1, 3, 1), (2, 4, 1), (3, 6, 1)], .struct⟩ := ⟨by kernel_rfl, by kernel_rfl, by kernel_rfl, by kernel_rfl⟩   -- struct { x int64; y int; signed bool; code abi.BoundsErrorCode }
theorem ti8 : TIok Tryz.prog 8 ⟨4, 24, [.int .i64 0, .int .i64 0, .bool false, .int .u8 0], [(0, 2, 1), (1, 3, 1), (2, 4, 1), (3, 6, 1)], .struct⟩ := ⟨by kernel_rfl, by kernel_rfl, by kernel_rfl, by kernel_rfl⟩   -- runtime.boundsError
theorem ti9 : TIok Tryz.prog 9 ⟨1, 16, [.string ByteArray.empty], [], .str⟩ := ⟨by kernel_rfl, by kernel_rfl, by kernel_rfl, by kernel_rfl⟩   -- string
theorem ti23 : TIok Tryz.prog 23 ⟨8, 64, [.int .i64 0, .int .i64 0, .int .i64 0, .int .i64 0, .int .i64 0, .int .i64 0, .int .i64 0, .int .i64 0], [(0, 3, 1), (1, 3, 1), (2, 3, 1), (3, 3, 1), (4, 3, 1), (5, 3, 1), (6, 3, 1), (7, 3, 1)], .struct⟩ := ⟨by kernel_rfl, by kernel_rfl, by kernel_rfl, by kernel_rfl⟩   -- api.Geo
theorem ti24 : TIok Tryz.prog 24 ⟨1, 24, [.slice none 0 0], [], .slice 9⟩ := ⟨by kernel_rfl, by kernel_rfl, by kernel_rfl, by kernel_rfl⟩   -- []string
theorem ti25 : TIok Tryz.prog 25 ⟨1, 24, [.slice none 0 0], [], .slice 111⟩ := ⟨by kernel_rfl, by kernel_rfl, by kernel_rfl, by kernel_rfl⟩   -- [][]api.Cell
theorem ti26 : TIok Tryz.prog 26 ⟨1, 24, [.slice none 0 0], [], .slice 3⟩ := ⟨by kernel_rfl, by kernel_rfl, by kernel_rfl, by kernel_rfl⟩   -- []int
theorem ti28 : TIok Tryz.prog 28 ⟨5, 104, [.slice none 0 0, .slice none 0 0, .slice none 0 0, .int .i64 0, .slice none 0 0], [(0, 24, 1), (1, 25, 1), (2, 26, 1), (3, 3, 1), (4, 26, 1)], .struct⟩ := ⟨by kernel_rfl, by kernel_rfl, by kernel_rfl, by kernel_rfl⟩   -- api.Device
theorem ti29 : TIok Tryz.prog 29 ⟨1, 24, [.slice none 0 0], [], .slice 56⟩ := ⟨by kernel_rfl, by kernel_rfl, by kernel_rfl, by kernel_rfl⟩   -- []api.Sight
theorem ti30 : TIok Tryz.prog 30 ⟨1, 24, [.slice none 0 0], [], .slice 54⟩ := ⟨by kernel_rfl, by kernel_rfl, by kernel_rfl, by kernel_rfl⟩   -- []api.View
theorem ti33 : TIok Tryz.prog 33 ⟨1, 8, [.int .i64 0], [], .int .i64⟩ := ⟨by kernel_rfl, by kernel_rfl, by kernel_rfl, by kernel_rfl⟩   -- api.Errno
theorem ti54 : TIok Tryz.prog 54 ⟨6, 48, [.int .i64 0, .int .i64 0, .int .i64 0, .int .i64 0, .int .i64 0, .int .i64 0], [(0, 3, 1), (1, 3, 1), (2, 3, 1), (3, 3, 1), (4, 3, 1), (5, 3, 1)], .struct⟩ := ⟨by kernel_rfl, by kernel_rfl, by kernel_rfl, by kernel_rfl⟩   -- api.View
theorem ti56 : TIok Tryz.prog 56 ⟨3, 40, [.string ByteArray.empty, .string ByteArray.empty, .int .i64 0], [(0, 9, 1), (1, 9, 1), (2, 3, 1)], .struct⟩ := ⟨by kernel_rfl, by kernel_rfl, by kernel_rfl, by kernel_rfl⟩   -- api.Sight
theorem ti57 : TIok Tryz.prog 57 ⟨1, 8, [.pointer none], [], .other⟩ := ⟨by kernel_rfl, by kernel_rfl, by kernel_rfl, by kernel_rfl⟩   -- *survey.look
theorem ti63 : TIok Tryz.prog 63 ⟨1, 24, [.slice none 0 0], [], .slice 74⟩ := ⟨by kernel_rfl, by kernel_rfl, by kernel_rfl, by kernel_rfl⟩   -- []api.Record
theorem ti66 : TIok Tryz.prog 66 ⟨2, 16, [.int .i64 0, .int .i64 0], [(0, 3, 1), (1, 3, 1)], .struct⟩ := ⟨by kernel_rfl, by kernel_rfl, by kernel_rfl, by kernel_rfl⟩   -- api.Slot
theorem ti67 : TIok Tryz.prog 67 ⟨1, 24, [.slice none 0 0], [], .slice 66⟩ := ⟨by kernel_rfl, by kernel_rfl, by kernel_rfl, by kernel_rfl⟩   -- []api.Slot
theorem ti68 : TIok Tryz.prog 68 ⟨1, 24, [.slice none 0 0], [], .slice 196⟩ := ⟨by kernel_rfl, by kernel_rfl, by kernel_rfl, by kernel_rfl⟩   -- []api.Hold
theorem ti70 : TIok Tryz.prog 70 ⟨3, 72, [.slice none 0 0, .slice none 0 0, .slice none 0 0], [(0, 67, 1), (1, 68, 1), (2, 68, 1)], .struct⟩ := ⟨by kernel_rfl, by kernel_rfl, by kernel_rfl, by kernel_rfl⟩   -- api.Table
theorem ti72 : TIok Tryz.prog 72 ⟨17, 264, [.slice none 0 0, .slice none 0 0, .slice none 0 0, .int .i64 0, .int .i64 0, .int .i64 0, .int .i64 0, .int .i64 0, .int .i64 0, .int .i64 0, .int .i64 0, .slice none 0 0, .slice none 0 0, .slice none 0 0, .int .i64 0, .slice none 0 0, .slice none 0 0], [(0, 70, 3), (3, 23, 8), (11, 28, 5), (16, 26, 1)], .struct⟩ := ⟨by kernel_rfl, by kernel_rfl, by kernel_rfl, by kernel_rfl⟩   -- survey.look
theorem ti74 : TIok Tryz.prog 74 ⟨6, 56, [.int .i64 0, .int .i64 0, .int .i64 0, .int .i64 0, .string ByteArray.empty, .int .i64 0], [(0, 3, 1), (1, 3, 1), (2, 3, 1), (3, 3, 1), (4, 9, 1), (5, 3, 1)], .struct⟩ := ⟨by kernel_rfl, by kernel_rfl, by kernel_rfl, by kernel_rfl⟩   -- api.Record
theorem ti89 : TIok Tryz.prog 89 ⟨1, 24, [.slice none 0 0], [], .slice 93⟩ := ⟨by kernel_rfl, by kernel_rfl, by kernel_rfl, by kernel_rfl⟩   -- []api.Block
theorem ti93 : TIok Tryz.prog 93 ⟨2, 24, [.int .i64 0, .string ByteArray.empty], [(0, 3, 1), (1, 9, 1)], .struct⟩ := ⟨by kernel_rfl, by kernel_rfl, by kernel_rfl, by kernel_rfl⟩   -- api.Block
theorem jbc : TIok Tryz.prog 100 ⟨1, 8, [.nilFunc], [], .other⟩ := ⟨by kernel_rfl, by kernel_rfl, by kernel_rfl, by kernel_rfl⟩   -- func(int, []api.Record) bool
theorem jb2 : TIok Tryz.prog 102 ⟨1, 24, [.slice none 0 0], [], .slice 164⟩ := ⟨by kernel_rfl, by kernel_rfl, by kernel_rfl, by kernel_rfl⟩   -- []api.Cmd
theorem j9q : TIok Tryz.prog 108 ⟨1, 1, [.int .i8 0], [], .int .i8⟩ := ⟨by kernel_rfl, by kernel_rfl, by kernel_rfl, by kernel_rfl⟩   -- int8
theorem jbe : TIok Tryz.prog 111 ⟨1, 24, [.slice none 0 0], [], .slice 171⟩ := ⟨by kernel_rfl, by kernel_rfl, by kernel_rfl, by kernel_rfl⟩   -- []api.Cell
theorem jb4 : TIok Tryz.prog 116 ⟨3, 40, [.int .i64 0, .int .i64 0, .slice none 0 0], [(0, 3, 1), (1, 3, 1), (2, 24, 1)], .struct⟩ := ⟨by kernel_rfl, by kernel_rfl, by kernel_rfl, by kernel_rfl⟩   -- api.Fetching
theorem jba : TIok Tryz.prog 122 ⟨1, 8, [.map none], [], .other⟩ := ⟨by kernel_rfl, by kernel_rfl, by kernel_rfl, by kernel_rfl⟩   -- scan.texts
theorem jbb : TIok Tryz.prog 125 ⟨1, 8, [.pointer none], [], .other⟩ := ⟨by kernel_rfl, by kernel_rfl, by kernel_rfl, by kernel_rfl⟩   -- *buffer.sized
theorem j8b : TIok Tryz.prog 127 ⟨1, 24, [.slice none 0 0], [(0, 89, 1)], .struct⟩ := ⟨by kernel_rfl, by kernel_rfl, by kernel_rfl, by kernel_rfl⟩   -- buffer.row
theorem j8z : TIok Tryz.prog 129 ⟨9, 88, [.slice none 0 0, .int .i64 0, .int .i64 0, .int .i64 0, .int .i64 0, .int .i64 0, .int .i64 0, .int .i64 0, .int .i64 0], [(0, 127, 1), (1, 23, 8)], .struct⟩ := ⟨by kernel_rfl, by kernel_rfl, by kernel_rfl, by kernel_rfl⟩   -- buffer.sized
theorem jbk : TIok Tryz.prog 136 ⟨1, 8, [.pointer none], [], .other⟩ := ⟨by kernel_rfl, by kernel_rfl, by kernel_rfl, by kernel_rfl⟩   -- *device.world
theorem jbl : TIok Tryz.prog 138 ⟨5, 104, [.slice none 0 0, .slice none 0 0, .slice none 0 0, .int .i64 0, .slice none 0 0], [(0, 28, 5)], .struct⟩ := ⟨by kernel_rfl, by kernel_rfl, by kernel_rfl, by kernel_rfl⟩   -- device.world
theorem j8a : TIok Tryz.prog 140 ⟨2, 16, [.int .i64 0, .int .i64 0], [(0, 3, 1), (1, 3, 1)], .struct⟩ := ⟨by kernel_rfl, by kernel_rfl, by kernel_rfl, by kernel_rfl⟩   -- geo.stretch
theorem j8u : TIok Tryz.prog 142 ⟨4, 32, [.int .i64 0, .int .i64 0, .int .i8 0, .int .i64 0], [(0, 140, 2), (2, 108, 1), (3, 3, 1)], .struct⟩ := ⟨by kernel_rfl, by kernel_rfl, by kernel_rfl, by kernel_rfl⟩   -- geo.region
theorem j9m : TIok Tryz.prog 145 ⟨1, 8, [.pointer none], [], .other⟩ := ⟨by kernel_rfl, by kernel_rfl, by kernel_rfl, by kernel_rfl⟩   -- *super.shape
theorem j8d : TIok Tryz.prog 147 ⟨8, 64, [.int .i64 0, .int .i64 0, .int .i64 0, .int .i64 0, .int .i64 0, .int .i64 0, .int .i64 0, .int .i64 0], [(0, 23, 8)], .struct⟩ := ⟨by kernel_rfl, by kernel_rfl, by kernel_rfl, by kernel_rfl⟩   -- super.shape
theorem j9x : TIok Tryz.prog 148 ⟨1, 24, [.slice none 0 0], [], .slice 150⟩ := ⟨by kernel_rfl, by kernel_rfl, by kernel_rfl, by kernel_rfl⟩   -- []*int
theorem j8m : TIok Tryz.prog 150 ⟨1, 8, [.pointer none], [], .other⟩ := ⟨by kernel_rfl, by kernel_rfl, by kernel_rfl, by kernel_rfl⟩   -- *int
theorem jb7 : TIok Tryz.prog 152 ⟨10, 96, [.int .i64 0, .int .i64 0, .int .i64 0, .int .i64 0, .int .i64 0, .int .i64 0, .int .i64 0, .int .i64 0, .slice none 0 0, .int .i64 0], [(0, 23, 8), (8, 24, 1), (9, 3, 1)], .struct⟩ := ⟨by kernel_rfl, by kernel_rfl, by kernel_rfl, by kernel_rfl⟩   -- scan.journal
theorem j9n : TIok Tryz.prog 162 ⟨2, 16, [.int .i64 0, .int .i64 0], [(0, 3, 1), (1, 3, 1)], .struct⟩ := ⟨by kernel_rfl, by kernel_rfl, by kernel_rfl, by kernel_rfl⟩   -- api.Span
theorem j88 : TIok Tryz.prog 164 ⟨8, 64, [.int .i8 0, .int .i64 0, .int .i64 0, .int .i64 0, .int .i64 0, .int .i64 0, .int .i64 0, .int .i8 0], [(0, 108, 1), (1, 3, 1), (2, 3, 1), (3, 3, 1), (4, 3, 1), (5, 162, 2), (7, 108, 1)], .struct⟩ := ⟨by kernel_rfl, by kernel_rfl, by kernel_rfl, by kernel_rfl⟩   -- api.Cmd
theorem j8n : TIok Tryz.prog 171 ⟨2, 24, [.int .i64 0, .string ByteArray.empty], [(0, 3, 1), (1, 9, 1)], .struct⟩ := ⟨by kernel_rfl, by kernel_rfl, by kernel_rfl, by kernel_rfl⟩   -- api.Cell
theorem jam : TIok Tryz.prog 172 ⟨1, 8, [.pointer none], [], .other⟩ := ⟨by kernel_rfl, by kernel_rfl, by kernel_rfl, by kernel_rfl⟩   -- *fetch.way
theorem j9y : TIok Tryz.prog 174 ⟨11, 104, [.int .i64 0, .int .i64 0, .slice none 0 0, .int .i64 0, .int .i64 0, .int .i64 0, .int .i64 0, .int .i64 0, .int .i64 0, .int .i64 0, .int .i64 0], [(0, 116, 3), (3, 23, 8)], .struct⟩ := ⟨by kernel_rfl, by kernel_rfl, by kernel_rfl, by kernel_rfl⟩   -- fetch.way
theorem j9j : TIok Tryz.prog 182 ⟨1, 24, [.slice none 0 0], [], .slice 142⟩ := ⟨by kernel_rfl, by kernel_rfl, by kernel_rfl, by kernel_rfl⟩   -- []geo.region
theorem jax : TIok Tryz.prog 185 ⟨12, 144, [.slice none 0 0, .slice none 0 0, .slice none 0 0, .int .i64 0, .int .i64 0, .int .i64 0, .int .i64 0, .int .i64 0, .int .i64 0, .int .i64 0, .int .i64 0, .int .i64 0], [(0, 70, 3), (3, 23, 8), (11, 3, 1)], .struct⟩ := ⟨by kernel_rfl, by kernel_rfl, by kernel_rfl, by kernel_rfl⟩   -- learn.reader
theorem ja3 : TIok Tryz.prog 186 ⟨1, 8, [.pointer none], [], .other⟩ := ⟨by kernel_rfl, by kernel_rfl, by kernel_rfl, by kernel_rfl⟩   -- *learn.reader
theorem jb6 : TIok Tryz.prog 188 ⟨1, 8, [.nilFunc], [], .other⟩ := ⟨by kernel_rfl, by kernel_rfl, by kernel_rfl, by kernel_rfl⟩   -- func(api.Record) bool
theorem j9b : TIok Tryz.prog 196 ⟨4, 32, [.int .i64 0, .int .i64 0, .int .i64 0, .int .i8 0], [(0, 3, 1), (1, 162, 2), (3, 108, 1)], .struct⟩ := ⟨by kernel_rfl, by kernel_rfl, by kernel_rfl, by kernel_rfl⟩   -- api.Hold
theorem j9c : TIok Tryz.prog 206 ⟨1, 8, [.pointer none], [], .other⟩ := ⟨by kernel_rfl, by kernel_rfl, by kernel_rfl, by kernel_rfl⟩   -- *strings.Builder
theorem jaa : TIok Tryz.prog 207 ⟨1, 24, [.slice none 0 0], [], .slice 5⟩ := ⟨by kernel_rfl, by kernel_rfl, by kernel_rfl, by kernel_rfl⟩   -- []uint8
theorem jao : TIok Tryz.prog 209 ⟨2, 32, [.pointer none, .slice none 0 0], [(0, 206, 1), (1, 207, 1)], .struct⟩ := ⟨by kernel_rfl, by kernel_rfl, by kernel_rfl, by kernel_rfl⟩   -- strings.Builder
theorem ja8 : TIok Tryz.prog 216 ⟨1, 8, [.int .i64 0], [], .int .i64⟩ := ⟨by kernel_rfl, by kernel_rfl, by kernel_rfl, by kernel_rfl⟩   -- num.width
theorem j8x : TIok Tryz.prog 220 ⟨1, 8, [.nilFunc], [], .other⟩ := ⟨by kernel_rfl, by kernel_rfl, by kernel_rfl, by kernel_rfl⟩   -- func(string) bool
theorem jb8 : TIok Tryz.prog 221 ⟨1, 8, [.map none], [], .other⟩ := ⟨by kernel_rfl, by kernel_rfl, by kernel_rfl, by kernel_rfl⟩   -- map[int]bool
theorem j9o : TIok Tryz.prog 223 ⟨1, 8, [.pointer none], [], .other⟩ := ⟨by kernel_rfl, by kernel_rfl, by kernel_rfl, by kernel_rfl⟩   -- *decided.reader
theorem j8q : TIok Tryz.prog 225 ⟨10, 88, [.int .i8 0, .int .i64 0, .int .i64 0, .int .i64 0, .int .i64 0, .int .i64 0, .int .i64 0, .int .i8 0, .string ByteArray.empty, .bool false], [(0, 164, 8), (8, 9, 1), (9, 4, 1)], .struct⟩ := ⟨by kernel_rfl, by kernel_rfl, by kernel_rfl, by kernel_rfl⟩   -- decided.place
theorem jb0 : TIok Tryz.prog 227 ⟨11, 112, [.int .i8 0, .int .i64 0, .int .i64 0, .int .i64 0, .int .i64 0, .int .i64 0, .int .i64 0, .int .i8 0, .string ByteArray.empty, .bool false, .slice none 0 0], [(0, 225, 10), (10, 102, 1)], .struct⟩ := ⟨by kernel_rfl, by kernel_rfl, by kernel_rfl, by kernel_rfl⟩   -- decided.reader
theorem j91 : TIok Tryz.prog 235 ⟨1, 8, [.pointer none], [], .other⟩ := ⟨by kernel_rfl, by kernel_rfl, by kernel_rfl, by kernel_rfl⟩   -- *uint8
theorem ja4 : TIok Tryz.prog 238 ⟨1, 8, [.int .u64 0], [], .int .u64⟩ := ⟨by kernel_rfl, by kernel_rfl, by kernel_rfl, by kernel_rfl⟩   -- uint
theorem j92 : TIok Tryz.prog 240 ⟨1, 8, [.pointer none], [], .other⟩ := ⟨by kernel_rfl, by kernel_rfl, by kernel_rfl, by kernel_rfl⟩   -- *decided.place
theorem j9w : TIok Tryz.prog 241 ⟨1, 8, [.nilFunc], [], .other⟩ := ⟨by kernel_rfl, by kernel_rfl, by kernel_rfl, by kernel_rfl⟩   -- func(*table.book, api.Cmd)
theorem j9h : TIok Tryz.prog 242 ⟨6, 48, [.nilFunc, .nilFunc, .nilFunc, .nilFunc, .nilFunc, .nilFunc], [], .arr 6 241⟩ := ⟨by kernel_rfl, by kernel_rfl, by kernel_rfl, by kernel_rfl⟩   -- [6]func(*table.book, api.Cmd)
theorem j8e : TIok Tryz.prog 244 ⟨1, 8, [.pointer none], [], .other⟩ := ⟨by kernel_rfl, by kernel_rfl, by kernel_rfl, by kernel_rfl⟩   -- *table.book
theorem j9f : TIok Tryz.prog 247 ⟨11, 136, [.slice none 0 0, .slice none 0 0, .slice none 0 0, .int .i64 0, .int .i64 0, .int .i64 0, .int .i64 0, .int .i64 0, .int .i64 0, .int .i64 0, .int .i64 0], [(0, 70, 3), (3, 23, 8)], .struct⟩ := ⟨by kernel_rfl, by kernel_rfl, by kernel_rfl, by kernel_rfl⟩   -- table.book
theorem jaf : TIok Tryz.prog 248 ⟨1, 8, [.pointer none], [], .other⟩ := ⟨by kernel_rfl, by kernel_rfl, by kernel_rfl, by kernel_rfl⟩   -- *record.entry
theorem j8v : TIok Tryz.prog 250 ⟨6, 56, [.int .i64 0, .int .i64 0, .int .i64 0, .int .i64 0, .string ByteArray.empty, .int .i64 0], [(0, 74, 6)], .struct⟩ := ⟨by kernel_rfl, by kernel_rfl, by kernel_rfl, by kernel_rfl⟩   -- record.entry
theorem jad : TIok Tryz.prog 258 ⟨1, 8, [.pointer none], [], .other⟩ := ⟨by kernel_rfl, by kernel_rfl, by kernel_rfl, by kernel_rfl⟩   -- *command.taker
theorem j8k : TIok Tryz.prog 260 ⟨2, 24, [.string ByteArray.empty, .bool false], [(0, 9, 1), (1, 4, 1)], .struct⟩ := ⟨by kernel_rfl, by kernel_rfl, by kernel_rfl, by kernel_rfl⟩   -- command.taker
theorem ja7 : TIok Tryz.prog 265 ⟨1, 8, [.pointer none], [], .other⟩ := ⟨by kernel_rfl, by kernel_rfl, by kernel_rfl, by kernel_rfl⟩   -- *crc.summer
theorem jbi : TIok Tryz.prog 268 ⟨1, 4, [.int .u32 0], [], .int .u32⟩ := ⟨by kernel_rfl, by kernel_rfl, by kernel_rfl, by kernel_rfl⟩   -- uint32
theorem jal : TIok Tryz.prog 270 ⟨1, 4, [.int .u32 0], [(0, 268, 1)], .struct⟩ := ⟨by kernel_rfl, by kernel_rfl, by kernel_rfl, by kernel_rfl⟩   -- crc.register
theorem j8g : TIok Tryz.prog 271 ⟨16, 64, [.int .u32 0, .int .u32 0, .int .u32 0, .int .u32 0, .int .u32 0, .int .u32 0, .int .u32 0, .int .u32 0, .int .u32 0, .int .u32 0, .int .u32 0, .int .u32 0, .int .u32 0, .int .u32 0, .int .u32 0, .int .u32 0], [], .arr 16 268⟩ := ⟨by kernel_rfl, by kernel_rfl, by kernel_rfl, by kernel_rfl⟩   -- [16]uint32
theorem j8p : TIok Tryz.prog 273 ⟨17, 68, [.int .u32 0, .int .u32 0, .int .u32 0, .int .u32 0, .int .u32 0, .int .u32 0, .int .u32 0, .int .u32 0, .int .u32 0, .int .u32 0, .int .u32 0, .int .u32 0, .int .u32 0, .int .u32 0, .int .u32 0, .int .u32 0, .int .u32 0], [(0, 270, 1), (1, 271, 16)], .struct⟩ := ⟨by kernel_rfl, by kernel_rfl, by kernel_rfl, by kernel_rfl⟩   -- crc.summer
theorem j9l : TIok Tryz.prog 275 ⟨1, 8, [.pointer none], [], .other⟩ := ⟨by kernel_rfl, by kernel_rfl, by kernel_rfl, by kernel_rfl⟩   -- *command.order
theorem jbh : TIok Tryz.prog 277 ⟨9, 88, [.int .i8 0, .int .i64 0, .int .i64 0, .int .i64 0, .int .i64 0, .int .i64 0, .int .i64 0, .int .i8 0, .slice none 0 0], [(0, 164, 8), (8, 207, 1)], .struct⟩ := ⟨by kernel_rfl, by kernel_rfl, by kernel_rfl, by kernel_rfl⟩   -- command.order
theorem j9s : TIok Tryz.prog 280 ⟨1, 8, [.nilFunc], [], .other⟩ := ⟨by kernel_rfl, by kernel_rfl, by kernel_rfl, by kernel_rfl⟩   -- func(api.Slot) bool
theorem j9i : TIok Tryz.prog 283 ⟨1, 8, [.nilFunc], [], .other⟩ := ⟨by kernel_rfl, by kernel_rfl, by kernel_rfl, by kernel_rfl⟩   -- func(api.Hold) bool
theorem jat : TIok Tryz.prog 284 ⟨1, 8, [.nilFunc], [], .other⟩ := ⟨by kernel_rfl, by kernel_rfl, by kernel_rfl, by kernel_rfl⟩   -- table.cond
theorem ja2 : TIok Tryz.prog 288 ⟨1, 8, [.pointer none], [], .other⟩ := ⟨by kernel_rfl, by kernel_rfl, by kernel_rfl, by kernel_rfl⟩   -- *crc.register
theorem j8f : TIok Tryz.prog 291 ⟨1, 8, [.pointer none], [], .other⟩ := ⟨by kernel_rfl, by kernel_rfl, by kernel_rfl, by kernel_rfl⟩   -- *[]api.Hold
theorem jb3 : TIok Tryz.prog 292 ⟨1, 24, [.slice none 0 0], [], .slice 68⟩ := ⟨by kernel_rfl, by kernel_rfl, by kernel_rfl, by kernel_rfl⟩   -- [][]api.Hold
theorem j9t : TIok Tryz.prog 294 ⟨1, 24, [.slice none 0 0], [], .slice 284⟩ := ⟨by kernel_rfl, by kernel_rfl, by kernel_rfl, by kernel_rfl⟩   -- []table.cond
theorem j9k : TIok Tryz.prog 297 ⟨1, 8, [.nilFunc], [], .other⟩ := ⟨by kernel_rfl, by kernel_rfl, by kernel_rfl, by kernel_rfl⟩   -- func(table.cond) bool
theorem j8j : TIok Tryz.prog 299 ⟨2, 16, [.int .i64 0, .int .i64 0], [(0, 162, 2)], .struct⟩ := ⟨by kernel_rfl, by kernel_rfl, by kernel_rfl, by kernel_rfl⟩   -- span.blocks
theorem j8w : TIok Tryz.prog 304 ⟨4, 32, [.int .i64 0, .int .i64 0, .int .i64 0, .int .i8 0], [(0, 299, 2), (2, 3, 1), (3, 108, 1)], .struct⟩ := ⟨by kernel_rfl, by kernel_rfl, by kernel_rfl, by kernel_rfl⟩   -- span.hold
theorem tok:z0s Tryz.prog tt:=z0s.cons ti1<|z0s.cons ti2<|z0s.cons ti3<|z0s.cons ti4<|z0s.cons ti5<|z0s.cons ti6<|z0s.cons ti7<|z0s.cons ti8<|z0s.cons ti9<|z0s.cons ti23<|z0s.cons ti24<|z0s.cons ti25<|z0s.cons ti26<|z0s.cons ti28<|z0s.cons ti29<|z0s.cons ti30<|z0s.cons ti33<|z0s.cons ti54<|z0s.cons ti56<|z0s.cons ti57<|z0s.cons ti63<|z0s.cons ti66<|z0s.cons ti67<|z0s.cons ti68<|z0s.cons ti70<|z0s.cons ti72<|z0s.cons ti74<|z0s.cons ti89<|z0s.cons ti93<|z0s.cons jbc<|z0s.cons jb2<|z0s.cons j9q<|z0s.cons jbe<|z0s.cons jb4<|z0s.cons jba<|z0s.cons jbb<|z0s.cons j8b<|z0s.cons j8z<|z0s.cons jbk<|z0s.cons jbl<|z0s.cons j8a<|z0s.cons j8u<|z0s.cons j9m<|z0s.cons j8d<|z0s.cons j9x<|z0s.cons j8m<|z0s.cons jb7<|z0s.cons j9n<|z0s.cons j88<|z0s.cons j8n<|z0s.cons jam<|z0s.cons j9y<|z0s.cons j9j<|z0s.cons jax<|z0s.cons ja3<|z0s.cons jb6<|z0s.cons j9b<|z0s.cons j9c<|z0s.cons jaa<|z0s.cons jao<|z0s.cons ja8<|z0s.cons j8x<|z0s.cons jb8<|z0s.cons j9o<|z0s.cons j8q<|z0s.cons jb0<|z0s.cons j91<|z0s.cons ja4<|z0s.cons j92<|z0s.cons j9w<|z0s.cons j9h<|z0s.cons j8e<|z0s.cons j9f<|z0s.cons jaf<|z0s.cons j8v<|z0s.cons jad<|z0s.cons j8k<|z0s.cons ja7<|z0s.cons jbi<|z0s.cons jal<|z0s.cons j8g<|z0s.cons j8p<|z0s.cons j9l<|z0s.cons jbh<|z0s.cons j9s<|z0s.cons j9i<|z0s.cons jat<|z0s.cons ja2<|z0s.cons j8f<|z0s.cons jb3<|z0s.cons j9t<|z0s.cons j9k<|z0s.cons j8j<|z0s.cons j8w<|z0s.nil _
theorem fnok3:z0j Tryz.prog 3:=⟨_,Tryz.func3,by kernel_rfl,by kernel_rfl⟩
theorem j93:z0j Tryz.prog 4:=⟨_,Tryz.func4,by kernel_rfl,by kernel_rfl⟩
theorem j5p:z0j Tryz.prog 5:=⟨_,Tryz.func5,by kernel_rfl,by kernel_rfl⟩
theorem j6r:z0j Tryz.prog 6:=⟨_,Tryz.func6,by kernel_rfl,by kernel_rfl⟩
theorem jaj:z0j Tryz.prog 7:=⟨_,Tryz.func7,by kernel_rfl,by kernel_rfl⟩
theorem j9v:z0j Tryz.prog 8:=⟨_,Tryz.func8,by kernel_rfl,by kernel_rfl⟩
theorem j5l:z0j Tryz.prog 9:=⟨_,Tryz.func9,by kernel_rfl,by kernel_rfl⟩
theorem znw:z0j Tryz.prog 10:=⟨_,Tryz.func10,by kernel_rfl,by kernel_rfl⟩
theorem zsl:z0j Tryz.prog 11:=⟨_,Tryz.func11,by kernel_rfl,by kernel_rfl⟩
theorem zzi:z0j Tryz.prog 12:=⟨_,Tryz.func12,by kernel_rfl,by kernel_rfl⟩
theorem j6t:z0j Tryz.prog 13:=⟨_,Tryz.func13,by kernel_rfl,by kernel_rfl⟩
theorem j78:z0j Tryz.prog 14:=⟨_,Tryz.func14,by kernel_rfl,by kernel_rfl⟩
theorem j72:z0j Tryz.prog 15:=⟨_,Tryz.func15,by kernel_rfl,by kernel_rfl⟩
theorem j6s:z0j Tryz.prog 16:=⟨_,Tryz.func16,by kernel_rfl,by kernel_rfl⟩
theorem j6k:z0j Tryz.prog 17:=⟨_,Tryz.func17,by kernel_rfl,by kernel_rfl⟩
theorem j7p:z0j Tryz.prog 18:=⟨_,Tryz.func18,by kernel_rfl,by kernel_rfl⟩
theorem zzc:z0j Tryz.prog 19:=⟨_,Tryz.func19,by kernel_rfl,by kernel_rfl⟩
theorem j59:z0j Tryz.prog 20:=⟨_,Tryz.func20,by kernel_rfl,by kernel_rfl⟩
theorem j74:z0j Tryz.prog 21:=⟨_,Tryz.func21,by kernel_rfl,by kernel_rfl⟩
theorem zyd:z0j Tryz.prog 22:=⟨_,Tryz.func22,by kernel_rfl,by kernel_rfl⟩
theorem j6d:z0j Tryz.prog 23:=⟨_,Tryz.func23,by kernel_rfl,by kernel_rfl⟩
theorem j7k:z0j Tryz.prog 24:=⟨_,Tryz.func24,by kernel_rfl,by kernel_rfl⟩
theorem zoa:z0j Tryz.prog 25:=⟨_,Tryz.func25,by kernel_rfl,by kernel_rfl⟩
theorem zn4:z0j Tryz.prog 26:=⟨_,Tryz.func26,by kernel_rfl,by kernel_rfl⟩
theorem zyz:z0j Tryz.prog 27:=⟨_,Tryz.func27,by kernel_rfl,by kernel_rfl⟩
theorem zyr:z0j Tryz.prog 28:=⟨_,Tryz.func28,by kernel_rfl,by kernel_rfl⟩
theorem zt4:z0j Tryz.prog 29:=⟨_,Tryz.func29,by kernel_rfl,by kernel_rfl⟩
theorem zza:z0j Tryz.prog 30:=⟨_,Tryz.func30,by kernel_rfl,by kernel_rfl⟩
theorem ztc:z0j Tryz.prog 31:=⟨_,Tryz.func31,by kernel_rfl,by kernel_rfl⟩
theorem zuj:z0j Tryz.prog 32:=⟨_,Tryz.func32,by kernel_rfl,by kernel_rfl⟩
theorem zch:z0j Tryz.prog 33:=⟨_,Tryz.func33,by kernel_rfl,by kernel_rfl⟩
theorem z78:z0j Tryz.prog 34:=⟨_,Tryz.func34,by kernel_rfl,by kernel_rfl⟩
theorem zoh:z0j Tryz.prog 35:=⟨_,Tryz.func35,by kernel_rfl,by kernel_rfl⟩
theorem zk0:z0j Tryz.prog 36:=⟨_,Tryz.func36,by kernel_rfl,by kernel_rfl⟩
theorem j71:z0j Tryz.prog 37:=⟨_,Tryz.func37,by kernel_rfl,by kernel_rfl⟩
theorem j6m:z0j Tryz.prog 38:=⟨_,Tryz.func38,by kernel_rfl,by kernel_rfl⟩
theorem j4s:z0j Tryz.prog 39:=⟨_,Tryz.func39,by kernel_rfl,by kernel_rfl⟩
theorem j68:z0j Tryz.prog 40:=⟨_,Tryz.func40,by kernel_rfl,by kernel_rfl⟩
theorem j6u:z0j Tryz.prog 41:=⟨_,Tryz.func41,by kernel_rfl,by kernel_rfl⟩
theorem j6v:z0j Tryz.prog 42:=⟨_,Tryz.func42,by kernel_rfl,by kernel_rfl⟩
theorem j5g:z0j Tryz.prog 43:=⟨_,Tryz.func43,by kernel_rfl,by kernel_rfl⟩
theorem j5c:z0j Tryz.prog 44:=⟨_,Tryz.func44,by kernel_rfl,by kernel_rfl⟩
theorem zth:z0j Tryz.prog 45:=⟨_,Tryz.func45,by kernel_rfl,by kernel_rfl⟩
theorem j7e:z0j Tryz.prog 46:=⟨_,Tryz.func46,by kernel_rfl,by kernel_rfl⟩
theorem j5s:z0j Tryz.prog 47:=⟨_,Tryz.func47,by kernel_rfl,by kernel_rfl⟩
theorem j6q:z0j Tryz.prog 48:=⟨_,Tryz.func48,by kernel_rfl,by kernel_rfl⟩
theorem j7m:z0j Tryz.prog 49:=⟨_,Tryz.func49,by kernel_rfl,by kernel_rfl⟩
theorem j6c:z0j Tryz.prog 50:=⟨_,Tryz.func50,by kernel_rfl,by kernel_rfl⟩
theorem zcr:z0j Tryz.prog 51:=⟨_,Tryz.func51,by kernel_rfl,by kernel_rfl⟩
theorem zr4:z0j Tryz.prog 52:=⟨_,Tryz.func52,by kernel_rfl,by kernel_rfl⟩
theorem zni:z0j Tryz.prog 53:=⟨_,Tryz.func53,by kernel_rfl,by kernel_rfl⟩
theorem j4m:z0j Tryz.prog 54:=⟨_,Tryz.func54,by kernel_rfl,by kernel_rfl⟩
theorem j7y:z0j Tryz.prog 55:=⟨_,Tryz.func55,by kernel_rfl,by kernel_rfl⟩
theorem zr2:z0j Tryz.prog 56:=⟨_,Tryz.func56,by kernel_rfl,by kernel_rfl⟩
theorem j5b:z0j Tryz.prog 57:=⟨_,Tryz.func57,by kernel_rfl,by kernel_rfl⟩
theorem zzh:z0j Tryz.prog 58:=⟨_,Tryz.func58,by kernel_rfl,by kernel_rfl⟩
theorem j54:z0j Tryz.prog 59:=⟨_,Tryz.func59,by kernel_rfl,by kernel_rfl⟩
theorem j4r:z0j Tryz.prog 60:=⟨_,Tryz.func60,by kernel_rfl,by kernel_rfl⟩
theorem j5h:z0j Tryz.prog 61:=⟨_,Tryz.func61,by kernel_rfl,by kernel_rfl⟩
theorem j6w:z0j Tryz.prog 62:=⟨_,Tryz.func62,by kernel_rfl,by kernel_rfl⟩
theorem j63:z0j Tryz.prog 63:=⟨_,Tryz.func63,by kernel_rfl,by kernel_rfl⟩
theorem zn1:z0j Tryz.prog 64:=⟨_,Tryz.func64,by kernel_rfl,by kernel_rfl⟩
theorem z7k:z0j Tryz.prog 65:=⟨_,Tryz.func65,by kernel_rfl,by kernel_rfl⟩
theorem j7h:z0j Tryz.prog 66:=⟨_,Tryz.func66,by kernel_rfl,by kernel_rfl⟩
theorem zyk:z0j Tryz.prog 67:=⟨_,Tryz.func67,by kernel_rfl,by kernel_rfl⟩
theorem zqo:z0j Tryz.prog 68:=⟨_,Tryz.func68,by kernel_rfl,by kernel_rfl⟩
theorem zv0:z0j Tryz.prog 69:=⟨_,Tryz.func69,by kernel_rfl,by kernel_rfl⟩
theorem zsm:z0j Tryz.prog 70:=⟨_,Tryz.func70,by kernel_rfl,by kernel_rfl⟩
theorem j4t:z0j Tryz.prog 71:=⟨_,Tryz.func71,by kernel_rfl,by kernel_rfl⟩
theorem zys:z0j Tryz.prog 72:=⟨_,Tryz.func72,by kernel_rfl,by kernel_rfl⟩
theorem j7s:z0j Tryz.prog 73:=⟨_,Tryz.func73,by kernel_rfl,by kernel_rfl⟩
theorem j6p:z0j Tryz.prog 74:=⟨_,Tryz.func74,by kernel_rfl,by kernel_rfl⟩
theorem j55:z0j Tryz.prog 75:=⟨_,Tryz.func75,by kernel_rfl,by kernel_rfl⟩
theorem j6z:z0j Tryz.prog 76:=⟨_,Tryz.func76,by kernel_rfl,by kernel_rfl⟩
theorem j7x:z0j Tryz.prog 77:=⟨_,Tryz.func77,by kernel_rfl,by kernel_rfl⟩
theorem znq:z0j Tryz.prog 78:=⟨_,Tryz.func78,by kernel_rfl,by kernel_rfl⟩
theorem zd1:z0j Tryz.prog 79:=⟨_,Tryz.func79,by kernel_rfl,by kernel_rfl⟩
theorem j4o:z0j Tryz.prog 80:=⟨_,Tryz.func80,by kernel_rfl,by kernel_rfl⟩
theorem j6g:z0j Tryz.prog 81:=⟨_,Tryz.func81,by kernel_rfl,by kernel_rfl⟩
theorem zfy:z0j Tryz.prog 82:=⟨_,Tryz.func82,by kernel_rfl,by kernel_rfl⟩
theorem j67:z0j Tryz.prog 83:=⟨_,Tryz.func83,by kernel_rfl,by kernel_rfl⟩
theorem zzo:z0j Tryz.prog 84:=⟨_,Tryz.func84,by kernel_rfl,by kernel_rfl⟩
theorem zdr:z0j Tryz.prog 85:=⟨_,Tryz.func85,by kernel_rfl,by kernel_rfl⟩
theorem j7d:z0j Tryz.prog 86:=⟨_,Tryz.func86,by kernel_rfl,by kernel_rfl⟩
theorem j4v:z0j Tryz.prog 87:=⟨_,Tryz.func87,by kernel_rfl,by kernel_rfl⟩
theorem zyi:z0j Tryz.prog 88:=⟨_,Tryz.func88,by kernel_rfl,by kernel_rfl⟩
theorem j60:z0j Tryz.prog 89:=⟨_,Tryz.func89,by kernel_rfl,by kernel_rfl⟩
theorem j7n:z0j Tryz.prog 90:=⟨_,Tryz.func90,by kernel_rfl,by kernel_rfl⟩
theorem j7q:z0j Tryz.prog 91:=⟨_,Tryz.func91,by kernel_rfl,by kernel_rfl⟩
theorem j7a:z0j Tryz.prog 92:=⟨_,Tryz.func92,by kernel_rfl,by kernel_rfl⟩
theorem j5v:z0j Tryz.prog 93:=⟨_,Tryz.func93,by kernel_rfl,by kernel_rfl⟩
theorem j5r:z0j Tryz.prog 94:=⟨_,Tryz.func94,by kernel_rfl,by kernel_rfl⟩
theorem j5a:z0j Tryz.prog 95:=⟨_,Tryz.func95,by kernel_rfl,by kernel_rfl⟩
theorem j79:z0j Tryz.prog 96:=⟨_,Tryz.func96,by kernel_rfl,by kernel_rfl⟩
theorem j7c:z0j Tryz.prog 97:=⟨_,Tryz.func97,by kernel_rfl,by kernel_rfl⟩
theorem zis:z0j Tryz.prog 98:=⟨_,Tryz.func98,by kernel_rfl,by kernel_rfl⟩
theorem zyc:z0j Tryz.prog 99:=⟨_,Tryz.func99,by kernel_rfl,by kernel_rfl⟩
theorem zu4:z0j Tryz.prog 100:=⟨_,Tryz.func100,by kernel_rfl,by kernel_rfl⟩
theorem zaz:z0j Tryz.prog 101:=⟨_,Tryz.func101,by kernel_rfl,by kernel_rfl⟩
theorem zst:z0j Tryz.prog 102:=⟨_,Tryz.func102,by kernel_rfl,by kernel_rfl⟩
theorem j3i:z0j Tryz.prog 103:=⟨_,Tryz.func103,by kernel_rfl,by kernel_rfl⟩
theorem j38:z0j Tryz.prog 104:=⟨_,Tryz.func104,by kernel_rfl,by kernel_rfl⟩
theorem zvb:z0j Tryz.prog 105:=⟨_,Tryz.func105,by kernel_rfl,by kernel_rfl⟩
theorem zhg:z0j Tryz.prog 106:=⟨_,Tryz.func106,by kernel_rfl,by kernel_rfl⟩
theorem j1b:z0j Tryz.prog 107:=⟨_,Tryz.func107,by kernel_rfl,by kernel_rfl⟩
theorem zl7:z0j Tryz.prog 108:=⟨_,Tryz.func108,by kernel_rfl,by kernel_rfl⟩
theorem zu7:z0j Tryz.prog 109:=⟨_,Tryz.func109,by kernel_rfl,by kernel_rfl⟩
theorem j49:z0j Tryz.prog 110:=⟨_,Tryz.func110,by kernel_rfl,by kernel_rfl⟩
theorem ztl:z0j Tryz.prog 111:=⟨_,Tryz.func111,by kernel_rfl,by kernel_rfl⟩
theorem j3h:z0j Tryz.prog 112:=⟨_,Tryz.func112,by kernel_rfl,by kernel_rfl⟩
theorem j43:z0j Tryz.prog 113:=⟨_,Tryz.func113,by kernel_rfl,by kernel_rfl⟩
theorem zr5:z0j Tryz.prog 114:=⟨_,Tryz.func114,by kernel_rfl,by kernel_rfl⟩
theorem j46:z0j Tryz.prog 115:=⟨_,Tryz.func115,by kernel_rfl,by kernel_rfl⟩
theorem j3g:z0j Tryz.prog 116:=⟨_,Tryz.func116,by kernel_rfl,by kernel_rfl⟩
theorem j1u:z0j Tryz.prog 117:=⟨_,Tryz.func117,by kernel_rfl,by kernel_rfl⟩
theorem ze0:z0j Tryz.prog 118:=⟨_,Tryz.func118,by kernel_rfl,by kernel_rfl⟩
theorem zrm:z0j Tryz.prog 119:=⟨_,Tryz.func119,by kernel_rfl,by kernel_rfl⟩
theorem j0j:z0j Tryz.prog 120:=⟨_,Tryz.func120,by kernel_rfl,by kernel_rfl⟩
theorem z3z:z0j Tryz.prog 121:=⟨_,Tryz.func121,by kernel_rfl,by kernel_rfl⟩
theorem z9c:z0j Tryz.prog 122:=⟨_,Tryz.func122,by kernel_rfl,by kernel_rfl⟩
theorem zt0:z0j Tryz.prog 123:=⟨_,Tryz.func123,by kernel_rfl,by kernel_rfl⟩
theorem j0o:z0j Tryz.prog 124:=⟨_,Tryz.func124,by kernel_rfl,by kernel_rfl⟩
theorem j3b:z0j Tryz.prog 125:=⟨_,Tryz.func125,by kernel_rfl,by kernel_rfl⟩
theorem j07:z0j Tryz.prog 126:=⟨_,Tryz.func126,by kernel_rfl,by kernel_rfl⟩
theorem zig:z0j Tryz.prog 127:=⟨_,Tryz.func127,by kernel_rfl,by kernel_rfl⟩
theorem zde:z0j Tryz.prog 128:=⟨_,Tryz.func128,by kernel_rfl,by kernel_rfl⟩
theorem j08:z0j Tryz.prog 129:=⟨_,Tryz.func129,by kernel_rfl,by kernel_rfl⟩
theorem j29:z0j Tryz.prog 130:=⟨_,Tryz.func130,by kernel_rfl,by kernel_rfl⟩
theorem j2b:z0j Tryz.prog 131:=⟨_,Tryz.func131,by kernel_rfl,by kernel_rfl⟩
theorem zhs:z0j Tryz.prog 132:=⟨_,Tryz.func132,by kernel_rfl,by kernel_rfl⟩
theorem ja0:z0j Tryz.prog 133:=⟨_,Tryz.func133,by kernel_rfl,by kernel_rfl⟩
theorem jac:z0j Tryz.prog 134:=⟨_,Tryz.func134,by kernel_rfl,by kernel_rfl⟩
theorem jae:z0j Tryz.prog 135:=⟨_,Tryz.func135,by kernel_rfl,by kernel_rfl⟩
theorem j3f:z0j Tryz.prog 136:=⟨_,Tryz.func136,by kernel_rfl,by kernel_rfl⟩
theorem j1c:z0j Tryz.prog 137:=⟨_,Tryz.func137,by kernel_rfl,by kernel_rfl⟩
theorem zuf:z0j Tryz.prog 138:=⟨_,Tryz.func138,by kernel_rfl,by kernel_rfl⟩
theorem zu5:z0j Tryz.prog 139:=⟨_,Tryz.func139,by kernel_rfl,by kernel_rfl⟩
theorem j2v:z0j Tryz.prog 140:=⟨_,Tryz.func140,by kernel_rfl,by kernel_rfl⟩
theorem j36:z0j Tryz.prog 141:=⟨_,Tryz.func141,by kernel_rfl,by kernel_rfl⟩
theorem zak:z0j Tryz.prog 142:=⟨_,Tryz.func142,by kernel_rfl,by kernel_rfl⟩
theorem j0x:z0j Tryz.prog 143:=⟨_,Tryz.func143,by kernel_rfl,by kernel_rfl⟩
theorem j2h:z0j Tryz.prog 144:=⟨_,Tryz.func144,by kernel_rfl,by kernel_rfl⟩
theorem j03:z0j Tryz.prog 145:=⟨_,Tryz.func145,by kernel_rfl,by kernel_rfl⟩
theorem j2w:z0j Tryz.prog 146:=⟨_,Tryz.func146,by kernel_rfl,by kernel_rfl⟩
theorem j11:z0j Tryz.prog 147:=⟨_,Tryz.func147,by kernel_rfl,by kernel_rfl⟩
theorem zqd:z0j Tryz.prog 148:=⟨_,Tryz.func148,by kernel_rfl,by kernel_rfl⟩
theorem j3t:z0j Tryz.prog 149:=⟨_,Tryz.func149,by kernel_rfl,by kernel_rfl⟩
theorem zse:z0j Tryz.prog 150:=⟨_,Tryz.func150,by kernel_rfl,by kernel_rfl⟩
theorem zu0:z0j Tryz.prog 151:=⟨_,Tryz.func151,by kernel_rfl,by kernel_rfl⟩
theorem j48:z0j Tryz.prog 152:=⟨_,Tryz.func152,by kernel_rfl,by kernel_rfl⟩
theorem jai:z0j Tryz.prog 153:=⟨_,Tryz.func153,by kernel_rfl,by kernel_rfl⟩
theorem ja5:z0j Tryz.prog 154:=⟨_,Tryz.func154,by kernel_rfl,by kernel_rfl⟩
theorem j32:z0j Tryz.prog 155:=⟨_,Tryz.func155,by kernel_rfl,by kernel_rfl⟩
theorem j0v:z0j Tryz.prog 156:=⟨_,Tryz.func156,by kernel_rfl,by kernel_rfl⟩
theorem j23:z0j Tryz.prog 157:=⟨_,Tryz.func157,by kernel_rfl,by kernel_rfl⟩
theorem j24:z0j Tryz.prog 158:=⟨_,Tryz.func158,by kernel_rfl,by kernel_rfl⟩
theorem j35:z0j Tryz.prog 159:=⟨_,Tryz.func159,by kernel_rfl,by kernel_rfl⟩
theorem z95:z0j Tryz.prog 160:=⟨_,Tryz.func160,by kernel_rfl,by kernel_rfl⟩
theorem zag:z0j Tryz.prog 161:=⟨_,Tryz.func161,by kernel_rfl,by kernel_rfl⟩
theorem j4b:z0j Tryz.prog 162:=⟨_,Tryz.func162,by kernel_rfl,by kernel_rfl⟩
theorem j44:z0j Tryz.prog 163:=⟨_,Tryz.func163,by kernel_rfl,by kernel_rfl⟩
theorem j12:z0j Tryz.prog 164:=⟨_,Tryz.func164,by kernel_rfl,by kernel_rfl⟩
theorem z40:z0j Tryz.prog 165:=⟨_,Tryz.func165,by kernel_rfl,by kernel_rfl⟩
theorem j15:z0j Tryz.prog 166:=⟨_,Tryz.func166,by kernel_rfl,by kernel_rfl⟩
theorem zdq:z0j Tryz.prog 167:=⟨_,Tryz.func167,by kernel_rfl,by kernel_rfl⟩
theorem j3r:z0j Tryz.prog 170:=⟨_,Tryz.func170,by kernel_rfl,by kernel_rfl⟩
theorem j41:z0j Tryz.prog 171:=⟨_,Tryz.func171,by kernel_rfl,by kernel_rfl⟩
theorem j18:z0j Tryz.prog 172:=⟨_,Tryz.func172,by kernel_rfl,by kernel_rfl⟩
theorem zed:z0j Tryz.prog 173:=⟨_,Tryz.func173,by kernel_rfl,by kernel_rfl⟩
theorem j3n:z0j Tryz.prog 174:=⟨_,Tryz.func174,by kernel_rfl,by kernel_rfl⟩
theorem j1f:z0j Tryz.prog 175:=⟨_,Tryz.func175,by kernel_rfl,by kernel_rfl⟩
theorem j13:z0j Tryz.prog 176:=⟨_,Tryz.func176,by kernel_rfl,by kernel_rfl⟩
theorem j2z:z0j Tryz.prog 177:=⟨_,Tryz.func177,by kernel_rfl,by kernel_rfl⟩
theorem zzp:z0j Tryz.prog 178:=⟨_,Tryz.func178,by kernel_rfl,by kernel_rfl⟩
theorem j0u:z0j Tryz.prog 179:=⟨_,Tryz.func179,by kernel_rfl,by kernel_rfl⟩
theorem j02:z0j Tryz.prog 180:=⟨_,Tryz.func180,by kernel_rfl,by kernel_rfl⟩
theorem ztb:z0j Tryz.prog 181:=⟨_,Tryz.func181,by kernel_rfl,by kernel_rfl⟩
theorem zh6:z0j Tryz.prog 182:=⟨_,Tryz.func182,by kernel_rfl,by kernel_rfl⟩
theorem zi8:z0j Tryz.prog 183:=⟨_,Tryz.func183,by kernel_rfl,by kernel_rfl⟩
theorem j2l:z0j Tryz.prog 184:=⟨_,Tryz.func184,by kernel_rfl,by kernel_rfl⟩
theorem j0y:z0j Tryz.prog 185:=⟨_,Tryz.func185,by kernel_rfl,by kernel_rfl⟩
theorem j1l:z0j Tryz.prog 186:=⟨_,Tryz.func186,by kernel_rfl,by kernel_rfl⟩
theorem j0p:z0j Tryz.prog 187:=⟨_,Tryz.func187,by kernel_rfl,by kernel_rfl⟩
theorem j1h:z0j Tryz.prog 188:=⟨_,Tryz.func188,by kernel_rfl,by kernel_rfl⟩
theorem j0a:z0j Tryz.prog 189:=⟨_,Tryz.func189,by kernel_rfl,by kernel_rfl⟩
theorem j31:z0j Tryz.prog 190:=⟨_,Tryz.func190,by kernel_rfl,by kernel_rfl⟩
theorem zdv:z0j Tryz.prog 191:=⟨_,Tryz.func191,by kernel_rfl,by kernel_rfl⟩
theorem zqv:z0j Tryz.prog 192:=⟨_,Tryz.func192,by kernel_rfl,by kernel_rfl⟩
theorem j2q:z0j Tryz.prog 193:=⟨_,Tryz.func193,by kernel_rfl,by kernel_rfl⟩
theorem ztd:z0j Tryz.prog 194:=⟨_,Tryz.func194,by kernel_rfl,by kernel_rfl⟩
theorem j0d:z0j Tryz.prog 195:=⟨_,Tryz.func195,by kernel_rfl,by kernel_rfl⟩
theorem j0s:z0j Tryz.prog 196:=⟨_,Tryz.func196,by kernel_rfl,by kernel_rfl⟩
theorem j1n:z0j Tryz.prog 197:=⟨_,Tryz.func197,by kernel_rfl,by kernel_rfl⟩
theorem zhe:z0j Tryz.prog 198:=⟨_,Tryz.func198,by kernel_rfl,by kernel_rfl⟩
theorem zh7:z0j Tryz.prog 199:=⟨_,Tryz.func199,by kernel_rfl,by kernel_rfl⟩
theorem j1z:z0j Tryz.prog 200:=⟨_,Tryz.func200,by kernel_rfl,by kernel_rfl⟩
theorem zgp:z0j Tryz.prog 201:=⟨_,Tryz.func201,by kernel_rfl,by kernel_rfl⟩
theorem zsq:z0j Tryz.prog 202:=⟨_,Tryz.func202,by kernel_rfl,by kernel_rfl⟩
theorem zul:z0j Tryz.prog 203:=⟨_,Tryz.func203,by kernel_rfl,by kernel_rfl⟩
theorem zzz:z0j Tryz.prog 204:=⟨_,Tryz.func204,by kernel_rfl,by kernel_rfl⟩
theorem j1g:z0j Tryz.prog 205:=⟨_,Tryz.func205,by kernel_rfl,by kernel_rfl⟩
theorem zaj:z0j Tryz.prog 206:=⟨_,Tryz.func206,by kernel_rfl,by kernel_rfl⟩
theorem j2k:z0j Tryz.prog 207:=⟨_,Tryz.func207,by kernel_rfl,by kernel_rfl⟩
theorem zt3:z0j Tryz.prog 208:=⟨_,Tryz.func208,by kernel_rfl,by kernel_rfl⟩
theorem zzt:z0j Tryz.prog 209:=⟨_,Tryz.func209,by kernel_rfl,by kernel_rfl⟩
theorem j2u:z0j Tryz.prog 210:=⟨_,Tryz.func210,by kernel_rfl,by kernel_rfl⟩
theorem zqi:z0j Tryz.prog 211:=⟨_,Tryz.func211,by kernel_rfl,by kernel_rfl⟩
theorem j2x:z0j Tryz.prog 212:=⟨_,Tryz.func212,by kernel_rfl,by kernel_rfl⟩
theorem j22:z0j Tryz.prog 213:=⟨_,Tryz.func213,by kernel_rfl,by kernel_rfl⟩
theorem ztn:z0j Tryz.prog 214:=⟨_,Tryz.func214,by kernel_rfl,by kernel_rfl⟩
theorem j1s:z0j Tryz.prog 215:=⟨_,Tryz.func215,by kernel_rfl,by kernel_rfl⟩
theorem j3w:z0j Tryz.prog 216:=⟨_,Tryz.func216,by kernel_rfl,by kernel_rfl⟩
theorem j3a:z0j Tryz.prog 217:=⟨_,Tryz.func217,by kernel_rfl,by kernel_rfl⟩
theorem j2a:z0j Tryz.prog 218:=⟨_,Tryz.func218,by kernel_rfl,by kernel_rfl⟩
theorem zuq:z0j Tryz.prog 219:=⟨_,Tryz.func219,by kernel_rfl,by kernel_rfl⟩
theorem ztt:z0j Tryz.prog 220:=⟨_,Tryz.func220,by kernel_rfl,by kernel_rfl⟩
theorem j3c:z0j Tryz.prog 221:=⟨_,Tryz.func221,by kernel_rfl,by kernel_rfl⟩
theorem j2s:z0j Tryz.prog 222:=⟨_,Tryz.func222,by kernel_rfl,by kernel_rfl⟩
theorem zkw:z0j Tryz.prog 223:=⟨_,Tryz.func223,by kernel_rfl,by kernel_rfl⟩
theorem j3x:z0j Tryz.prog 224:=⟨_,Tryz.func224,by kernel_rfl,by kernel_rfl⟩
theorem j1q:z0j Tryz.prog 225:=⟨_,Tryz.func225,by kernel_rfl,by kernel_rfl⟩
theorem zs7:z0j Tryz.prog 226:=⟨_,Tryz.func226,by kernel_rfl,by kernel_rfl⟩
theorem j2m:z0j Tryz.prog 227:=⟨_,Tryz.func227,by kernel_rfl,by kernel_rfl⟩
theorem j1i:z0j Tryz.prog 228:=⟨_,Tryz.func228,by kernel_rfl,by kernel_rfl⟩
theorem j1a:z0j Tryz.prog 229:=⟨_,Tryz.func229,by kernel_rfl,by kernel_rfl⟩
theorem zua:z0j Tryz.prog 230:=⟨_,Tryz.func230,by kernel_rfl,by kernel_rfl⟩
theorem zsi:z0j Tryz.prog 231:=⟨_,Tryz.func231,by kernel_rfl,by kernel_rfl⟩
theorem j3y:z0j Tryz.prog 232:=⟨_,Tryz.func232,by kernel_rfl,by kernel_rfl⟩
theorem mixed:Tryz.prog.follows .mixedOrders=true:=by kernel_rfl
theorem Xa(a b:Bool):((a&&b)=true)=(a=true∧b=true):=Bool.and_eq_true a b
theorem Xb(a b:Bool):((a||b)=true)=(a=true∨b=true):=Bool.or_eq_true a b
theorem Xc(b:Bool):((!b)=true)=(b=false):=Bool.not_eq_true' b
theorem Xd{x y:Bool}:(x||y)=false↔x=false∧y=false:=Bool.or_eq_false_iff
theorem Xe{x y:Bool}:(x&&y)=false↔x=false∨y=false:=Bool.and_eq_false_iff
theorem Xf{p:Prop} [i:Decidable p]:(decide p=true)=p:=decide_eq_true_eq
theorem Xg{p:Prop}{x:Decidable p}:decide p=false↔ ¬p:=decide_eq_false_iff_not
theorem Xh{α:Type _} [BEq α] [LawfulBEq α]{a b:α}:(a==b)=true↔a=b:=beq_iff_eq
theorem Xi{α:Type _} [BEq α] [LawfulBEq α]{a b:α}:(a !=b)=true↔a≠b:=bne_iff_ne
theorem Xj(b:Bool):((!b)=false)=(b=true):=Bool.not_eq_false' b
theorem Xk{α:Type _} [BEq α] [LawfulBEq α]{a b:α}:(a==b)=false↔a≠b:=beq_eq_false_iff_ne
theorem Xl{α:Type _} [BEq α] [LawfulBEq α]{a b:α}:(a !=b)=false↔a=b:=bne_eq_false_iff_eq
theorem Xm{α:Sort _}(a b:α):(a≠b)= ¬a=b:=ne_eq a b
theorem Xn{p:Prop} [Decidable p]: ¬¬p↔p:=Decidable.not_not
theorem Xo{a b:Int}: ¬a<b↔b≤a:=Int.not_lt
theorem Xp{a b:Int}: ¬a≤b↔b<a:=Int.not_le
section
variable{ops:Array Oper}{Q:Exit→Act→World→Prop}{o:Oper}{n:Nat}{F:z05}{C:List Nat}{O:Own}{nl:Nat}{V:Vw}{p:List (Nat×Bool)}{g:Bool}{C':List Nat}{s:SV}{d:Nat}
theorem yO{rest:List Oper}(hg:gd ops F C o.guard=some (p,g,C'))(hd:o.dst=some d)(hc:(Nat.blt d n&& !(z2w d C'))=true)(hv:z3s tt F O p o.op=some s)
  (next:KJ (wpList Tryz.prog ops Q rest) n ((d,⟨p,g,s⟩)::F) C' O nl V):KJ (wpList Tryz.prog ops Q (o::rest)) n F C O nl V:=zhw hg hd hc (z72 tok hv) next
theorem yH{sp:List Nat}{O0:Own}{nl0:Nat}{V0:Vw}{fuel:Nat}{listed:List Bool}(i:Nat)(hi:ops[i]? =some o)(hg:gd ops F C o.guard=some (p,g,C'))(hd:o.dst=some d)(hc:(Nat.blt d n&& !(z2w d C'))=true)(hv:z3s tt F O p o.op=some s)
  (next:HJ Tryz.prog ops Q sp O0 nl0 V0 fuel (z4w listed i) n ((d,⟨p,g,s⟩)::F) C' O nl V):HI Tryz.prog ops Q sp O0 nl0 V0 fuel listed n F C O nl V i:=zle i hi hg hd hc (z72 tok hv) next
theorem yV(hv:z3s tt F O p o.op=some s):Yld Tryz.prog o n F C O nl V p g s:=z72 tok hv
theorem oN:z3b O []:=z3b.nil
theorem oC{l:Nat}{c:Cel}{r:Own}(h:Eng.lk O l=some c)(hr:z3b O r):z3b O ((l,c)::r):=z3b.cons h hr
theorem fN:z52 F []:=z52.nil
theorem fC{t:Nat}{x:SV}{r:List (Nat×SV)}(h:opv F [] (.tmp t)=some x)(hr:z52 F r):z52 F ((t,x)::r):=z52.cons h hr
end
abbrev Cl:=Calls Tryz.prog
abbrev Rt(f:Nat)(xs:Array Value)(w:World)(v:Value):Prop:=Calls Tryz.prog f xs w fun e w'=>e= .returned v∧Below w.heap.size w w'
theorem lr{V:Vw}:V.le V:=Vw.le.refl V
theorem atx{α:Type}{L:List α}{k:Nat}(h:k<L.length): ∃x,L[k]? =some x:=⟨_,List.getElem?_eq_getElem h⟩
section
variable{ops:Array Oper}{Q:Exit→Act→World→Prop}{o:Oper}{n:Nat}{F F':z05}{C C':List Nat}{O O':Own}{nl nl':Nat}{V:Vw}{p:List (Nat×Bool)}{g:Bool}{s:SV}{d:Nat}{K:Act→World→Prop}{rest l l':List Oper}
/-- One operation that only yields a value. -/
def jap(n:Nat)(ops:Array Oper)(O:Own)(o:Oper)(F:z05)(C:List Nat):Option (z05×List Nat):=
  match gd ops F C o.guard with
  |some (p,g,C')=>match o.dst with
    |some d=>bif Nat.blt d n&& !(z2w d C')then(match z3s tt F O p o.op with
      |some s=>some ((d,⟨p,g,s⟩)::F,C')
      |none=>none)else none
    |none=>none
  |none=>none
/-- One operation that makes memory. -/
def jaw(n:Nat)(o:Oper)(F:z05)(C:List Nat)(O:Own)(nl:Nat):Option (z05×Own):=
  match o.guard,o.dst with
  |none,some d=>bif Nat.blt d n&& !(z2w d C)then(match zk4 tt F O o.op with
    |some (cs,e)=>some ((d,⟨[],true, .a (.ptr nl 0)⟩)::F,(nl, .lit cs e)::O)
    |none=>none)else none
  |_,_=>none
def zpc(n:Nat)(ops:Array Oper):Nat→List Oper→z05→List Nat→Own→Nat→Option (List Oper×z05×List Nat×Own×Nat)
  |0,l,F,C,O,nl=>some (l,F,C,O,nl)
  |_+1,[],_,_,_,_=>none
  |k+1,o::r,F,C,O,nl=>match jap n ops O o F C with
    |some (F',C')=>zpc n ops k r F' C' O nl
    |none=>match jaw n o F C O nl with
      |some (F',O')=>zpc n ops k r F' C O' (nl+1)
      |none=>none
theorem zph(h:jap n ops O o F C=some (F',C'))(next:KJ (wpList Tryz.prog ops Q rest) n F' C' O nl V):KJ (wpList Tryz.prog ops Q (o::rest)) n F C O nl V:=by
  unfold jap at h
  split at h
  · rename_i p g C1 hg
    split at h
    · rename_i d hd
      cases hc:(Nat.blt d n&& !(z2w d C1))with
      |false=>rw[hc]at h;cases h
      |true=>
        rw[hc]at h
        simp only[cond_true]at h
        split at h
        · rename_i s hs
          cases h
          exact zhw hg hd hc (z72 tok hs) next
        · cases h
    · cases h
  · cases h
theorem zoy(h:jaw n o F C O nl=some (F',O'))(next:KJ (wpList Tryz.prog ops Q rest) n F' C O' (nl+1) V):KJ (wpList Tryz.prog ops Q (o::rest)) n F C O nl V:=by
  unfold jaw at h
  split at h
  · rename_i d hg hd
    cases hc:(Nat.blt d n&& !(z2w d C))with
    |false=>rw[hc]at h;cases h
    |true=>
      rw[hc]at h
      simp only[cond_true]at h
      split at h
      · rename_i cs e hs
        cases h
        exact j9e tok hg hs hd hc next
      · cases h
  · cases h
theorem Yy(k:Nat)(h:zpc n ops k l F C O nl=some (l',F',C',O',nl'))(next:KJ (wpList Tryz.prog ops Q l') n F' C' O' nl' V):KJ (wpList Tryz.prog ops Q l) n F C O nl V:=by
  induction k generalizing l F C O nl with
  |zero=>simp only[zpc,Option.some.injEq,Prod.mk.injEq]at h;obtain⟨rfl,rfl,rfl,rfl,rfl⟩:=h;exact next
  |succ k ih=>
    cases l with
    |nil=>cases h
    |cons o r=>
      simp only[zpc]at h
      split at h
      · rename_i F1 C1 h1;exact zph h1 (ih h)
      · split at h
        · rename_i F1 O1 h1;exact zoy h1 (ih h)
        · cases h
def jaq(n:Nat)(ops:Array Oper)(k:Nat)(ts:List Nat)(l:List Oper)(F:z05)(C:List Nat)(O:Own)(nl:Nat):Option (z05×Own×Nat):=
  match zpc n ops k l F C O nl with
  |some ([],F',_,O',nl')=>match zi2 F' ts []with
    |some F2=>some (F2,O',nl')
    |none=>none
  |_=>none
theorem QE(k:Nat)(ts:List Nat)(h:jaq n ops k ts l F C O nl=some (F',O',nl'))(next:KJ (Q .normal) n F' [] O' nl' V):KJ (wpList Tryz.prog ops Q l) n F C O nl V:=by
  unfold jaq at h
  split at h
  · rename_i F1 C1 O1 nl1 h1
    split at h
    · rename_i F2 h2;cases h;exact Yy k h1 (z07 ts h2 next)
    · cases h
  · cases h
theorem QW(k:Nat)(ts:List Nat){id:Nat}(h:jaq n l.toArray k ts l F C O nl=some (F',O',nl'))(next:KJ K n F' [] O' nl' V):KJ ((Code.region id l.toArray false).wp Tryz.prog (Exit.then K Q)) n F C O nl V:=zob (QE k ts h (zz9 next))
theorem QA{x y:Code}(h:KJ (x.wp Tryz.prog (Exit.then (y.wp Tryz.prog Q) Q)) n F C O nl V):KJ ((Code.seq x y).wp Tryz.prog Q) n F C O nl V:=j8t h
theorem Qw(h:KJ K n F C O nl V):KJ (Exit.then K Q .normal) n F C O nl V:=zz9 h
theorem QC{id:Nat}{l:List Oper}(h:KJ (wpList Tryz.prog l.toArray Q l) n F C O nl V):KJ ((Code.region id l.toArray false).wp Tryz.prog Q) n F C O nl V:=zob h
theorem QI(h:KJ (Q .normal) n F C O nl V):KJ (Code.skip.wp Tryz.prog Q) n F C O nl V:=j7g h
theorem QJ{id:Nat}{c:Code}(h:KJ (c.wp Tryz.prog (Exit.inBlock id Q)) n F C O nl V):KJ ((Code.block id c).wp Tryz.prog Q) n F C O nl V:=j1j h
theorem QK{i:Nat}(h:KJ (Q (.exit i)) n F C O nl V):KJ (Exit.then K Q (.exit i)) n F C O nl V:=zm5 h
theorem QL(h:KJ (Q .ret) n F C O nl V):KJ (Exit.then K Q .ret) n F C O nl V:=zor h
theorem QM{id:Nat}(h:KJ (Q .normal) n F C O nl V):KJ (Exit.inBlock id Q .normal) n F C O nl V:=j3u h
theorem QN{id:Nat}(h:KJ (Q (.exit id)) n F C O nl V):KJ ((Code.exit id).wp Tryz.prog Q) n F C O nl V:=j75 h
theorem QO(h:KJ (Q .ret) n F C O nl V):KJ (Code.ret.wp Tryz.prog Q) n F C O nl V:=jb5 h
theorem QP{id:Nat}(h:KJ (Q .ret) n F C O nl V):KJ (Exit.inBlock id Q .ret) n F C O nl V:=zlp h
theorem QQ{id:Nat}(h:KJ (Q .normal) n F C O nl V):KJ (Exit.inBlock id Q (.exit id)) n F C O nl V:=zm2 h
theorem QX{b T1 T2 c}{x y:Code}(hc:opv F [] c=some (.a (.v (.bool b))))(ht:T1→KJ (x.wp Tryz.prog Q) n F C O nl V)(hf:T2→KJ (y.wp Tryz.prog Q) n F C O nl V)
  (h1:b=true→T1:=by intro h;simp only[Xa,Xb,Xc,Xd,Xe,Xf,Xg,Xh,Xi,Xj,Xk,Xl,Xm,Xn,Xo,Xp]at h;exact h)
  (h2:b=false→T2:=by intro h;simp only[Xa,Xb,Xc,Xd,Xe,Xf,Xg,Xh,Xi,Xj,Xk,Xl,Xm,Xn,Xo,Xp]at h;exact h):
  KJ ((Code.cond c x y).wp Tryz.prog Q) n F C O nl V:=zzj hc (fun h=>ht (h1 h)) (fun h=>hf (h2 h))
def gd1(n:Nat)(ops:Array Oper)(F:z05)(C:List Nat)(o:Oper):Option (List (Nat×Bool)×Bool×List Nat×Nat):=
  match gd ops F C o.guard with
  |some (p,g,C')=>match o.dst with
    |some d=>bif Nat.blt d n&& !(z2w d C')then some (p,g,C',d)else none
    |none=>none
  |none=>none
theorem z1g(h:gd1 n ops F C o=some (p,g,C',d)):gd ops F C o.guard=some (p,g,C')∧o.dst=some d∧(Nat.blt d n&& !(z2w d C'))=true:=by
  unfold gd1 at h
  split at h
  · rename_i p1 g1 C1 hg
    split at h
    · rename_i d1 hd
      cases hc:(Nat.blt d1 n&& !(z2w d1 C1))with
      |false=>rw[hc]at h;cases h
      |true=>rw[hc]at h;cases h;exact⟨hg,hd,hc⟩
    · cases h
  · cases h
theorem QY(h:gd1 n ops F C o=some (p,g,C',d))(hy:Yld Tryz.prog o n F C' O nl V p g s)(next:KJ (wpList Tryz.prog ops Q rest) n ((d,⟨p,g,s⟩)::F) C' O nl V):KJ (wpList Tryz.prog ops Q (o::rest)) n F C O nl V:=
  zhw (z1g h).1 (z1g h).2.1 (z1g h).2.2 hy next
theorem Qd(h:gd1 n ops F C o=some (p,g,C',d))(hy:Yld Tryz.prog o n F C' O nl V p g s)(next:DJ Tryz.prog ops Q rest n ((d,⟨p,g,s⟩)::F) C' O nl V)(hs:s.ok nl=true:=by rfl):DJ Tryz.prog ops Q (o::rest) n F C O nl V:=
  zsx (z1g h).1 (z1g h).2.1 (z1g h).2.2 hy hs next
theorem QZ{σ:Type}{Φ:σ→Prop}{sx:σ→SV}{Ox:σ→Own}{nl':Nat}{Vx:σ→Vw}(h:gd1 n ops F C o=some (p,true,C',d))(hs:StepTo Tryz.prog o p n F C' O nl V Φ sx Ox nl' Vx)
  (next: ∀x,Φ x→KJ (wpList Tryz.prog ops Q rest) n ((d,⟨p,true,sx x⟩)::F) C' (Ox x) nl' (Vx x)) (hn:Nat.ble nl nl'=true:=by rfl):KJ (wpList Tryz.prog ops Q (o::rest)) n F C O nl V:=
  j5m (z1g h).1 rfl (z1g h).2.1 (z1g h).2.2 hn hs next
def st1(F:z05)(O:Own)(o:Oper):Option (Nat×List A×Nat×List A):=match o.guard,o.dst with
  |none,none=>zgx tt F O o.op
  |_,_=>none
theorem z9x{x:Nat×List A×Nat×List A}(h:st1 F O o=some x):o.guard=none∧o.dst=none∧zgx tt F O o.op=some x:=by
  unfold st1 at h
  split at h
  · rename_i h1 h2;exact⟨h1,h2,h⟩
  · cases h
theorem Qs{a:Nat}{cs vs:List A}{e:Nat}(h:st1 F O o=some (a,cs,e,vs))(next:KJ (wpList Tryz.prog ops Q rest) n F C ((a, .lit cs e)::O) nl V)
  (h1:zc2 O vs:=by first|(repeat' first|exact trivial|exact rfl|apply And.intro);done|simp[zc2,j3j,lk,Value.oneCell']):KJ (wpList Tryz.prog ops Q (o::rest)) n F C O nl V:=
  zgn tok (z9x h).1 (z9x h).2.1 (z9x h).2.2 h1 next
def ca1(n:Nat)(ops:Array Oper)(F:z05)(C:List Nat)(o:Oper):Option ((List (Nat×Bool)×Bool×List Nat×Nat)×Nat×List SV):=
  match gd1 n ops F C o with
  |some x=>match z4i F x.1 o.op with
    |some y=>some (x,y)
    |none=>none
  |none=>none
theorem zbg{f:Nat}{ss:List SV}(h:ca1 n ops F C o=some ((p,g,C',d),f,ss)):gd1 n ops F C o=some (p,g,C',d)∧z4i F p o.op=some (f,ss):=by
  unfold ca1 at h
  split at h
  · rename_i x hx
    split at h
    · rename_i y hy;cases h;exact⟨hx,hy⟩
    · cases h
  · cases h
theorem Qc{f:Nat}{ss:List SV}(s:SV)(h:ca1 n ops F C o=some ((p,g,C',d),f,ss))(hok:z0j Tryz.prog f)
  (hcall:g=true→ ∀E w,Mem E O nl V w→Calls Tryz.prog f (ss.map (SV.den E)).toArray w fun e w'=>e= .returned (s.den E)∧Below w.heap.size w w')
  (next:KJ (wpList Tryz.prog ops Q rest) n ((d,⟨p,g,s⟩)::F) C' O nl V) (hs:s.ok nl=true:=by rfl):KJ (wpList Tryz.prog ops Q (o::rest)) n F C O nl V:=
  let k:=z1g (zbg h).1;j6n s k.1 (zbg h).2 hok k.2.1 k.2.2 hs hcall next
theorem Qq{f:Nat}{ss:List SV}(s:SV)(h:ca1 n ops F C o=some ((p,g,C',d),f,ss))(hok:z0j Tryz.prog f)
  (hcall:g=true→ ∀E w,Mem E O nl V w→Calls Tryz.prog f (ss.map (SV.den E)).toArray w fun e w'=>e= .returned (s.den E)∧Below w.heap.size w w')
  (next:DJ Tryz.prog ops Q rest n ((d,⟨p,g,s⟩)::F) C' O nl V) (hs:s.ok nl=true:=by rfl):DJ Tryz.prog ops Q (o::rest) n F C O nl V:=
  let k:=z1g (zbg h).1;j53 s k.1 (zbg h).2 hok k.2.1 k.2.2 hs hcall next
theorem Qv{f:Nat}{ss:List SV}(Φ:Value→Vw→Prop)(h:ca1 n ops F C o=some ((p,g,C',d),f,ss))(hok:z0j Tryz.prog f)
  (hcall:g=true→ ∀E w,Mem E O nl V w→Calls Tryz.prog f (ss.map (SV.den E)).toArray w fun e w'=> ∃v V',e= .returned v∧Below w.heap.size w w'∧Vext w.heap.size V V' w'∧Φ v V')
  (next: ∀v V',V.le V'→(g=true→Φ v V')→KJ (wpList Tryz.prog ops Q rest) n ((d,⟨p,g, .a (.v v)⟩)::F) C' O nl V'):KJ (wpList Tryz.prog ops Q (o::rest)) n F C O nl V:=
  let k:=z1g (zbg h).1;j3l Φ k.1 (zbg h).2 hok k.2.1 k.2.2 hcall next
theorem Qb{fn:Func}{R:Ending→World→Prop}{ss:List SV}(hr:z44 tt F O fn.results.toList=some ss)
    (h: ∀E w,Mem E O nl V w→R (.returned (zku (ss.map (SV.den E)))) w):KJ (bodyPost Tryz.prog fn R .ret) n F C O nl V:=z0h tok hr (fun E w hm _=>h E w hm)
theorem Qf{f:Nat}{c:Code}{R:Ending→World→Prop}{w:World}{fn:Func}(ss:List SV)(hfn:Tryz.prog.funcs[f]? =some fn)(hb:fn.body=some c)
    (h:KJ (c.wp Tryz.prog (bodyPost Tryz.prog fn R)) fn.ntmps (zvh ss 0) [] [] 0 (vw w)) (hok:z5u 0 ss=true:=by rfl) (hle:Nat.ble ss.length fn.ntmps=true:=by rfl):Calls Tryz.prog f (ss.map (SV.den E0)).toArray w R:=
  enter ss hfn hb rfl (zhn E0 0 w) hok hle h
theorem Qr{σ:Type}{Fx:σ→List (Nat×SV)}{Ox:σ→Own}{nl':Nat}{Vx:σ→Vw}{I:σ→Prop}{m:Nat}{μ:σ→Nat}(x':σ)
    (hI:I x') (hμ:μ x'<m:=by first|omega|(dsimp only;omega)) (hs:z52 F (Fx x'):=by repeat (first|exact fN|refine fC rfl ?_)) (hO:z3b O (Ox x'):=by repeat (first|exact oN|refine oC rfl ?_))
    (hok:(z2f nl' (Fx x')&&z0u nl' (Ox x'))=true:=by rfl) (hV:(Vx x').le V:=by exact Vw.le.refl _):
    KJ (fun a w=> ∃x',(AtX n Fx Ox nl' Vx x' a w∧I x')∧μ x'<m) n F C O nl V:=j1m x' hI hμ hs hO hok hV
theorem Qm{σ:Type}{Fx:σ→List (Nat×SV)}{Ox:σ→Own}{nl':Nat}{Vx:σ→Vw}{I:σ→Prop}(x':σ)
    (hI:I x') (hs:z52 F (Fx x'):=by repeat (first|exact fN|refine fC rfl ?_)) (hO:z3b O (Ox x'):=by repeat (first|exact oN|refine oC rfl ?_)) (hok:(z2f nl' (Fx x')&&z0u nl' (Ox x'))=true:=by rfl) (hV:(Vx x').le V:=by exact Vw.le.refl _):
    KJ (fun a w=> ∃x',AtX n Fx Ox nl' Vx x' a w∧I x') n F C O nl V:=j5k x' hI hs hO hok hV
theorem Ql{c:Code}{σ:Type}(ts ls:List Nat){K0:List (Nat×SV)}{O0:Own}(hk:zj4 F ts []=some K0)(ho:z8l O ls []=some O0)
    (Fx:σ→List (Nat×SV)) (Ox:σ→Own) (I:σ→Prop) (μ:σ→Nat) (x0:σ) (h0:I x0)
    (round: ∀x,I x→KJ (c.wp Tryz.prog (Exit.then (fun a w=> ∃x',(AtX n (fun x=>Fx x++K0) (fun x=>Ox x++O0) nl (fun _=>V) x' a w∧I x')∧μ x'<μ x) Q)) n (mkF (Fx x++K0)) [] (Ox x++O0) nl V)
    (hs:z52 F (Fx x0++K0):=by repeat (first|exact fN|refine fC rfl ?_)) (hO:z3b O (Ox x0++O0):=by repeat (first|exact oN|refine oC rfl ?_)) (hok:(z2f nl (Fx x0++K0)&&z0u nl (Ox x0++O0))=true:=by rfl):
    KJ ((Code.loop c).wp Tryz.prog Q) n F C O nl V:=j1y ts ls hk ho Fx Ox I μ x0 h0 hs hO hok round
theorem Qn{b:Bool}{c:Operand}{x y:Code}(hc:opv F [] c=some (.a (.v (.bool b))))(ht:b=true→KJ (x.wp Tryz.prog Q) n F C O nl V)(hf:b=false→KJ (y.wp Tryz.prog Q) n F C O nl V):KJ ((Code.cond c x y).wp Tryz.prog Q) n F C O nl V:=zzj hc ht hf
theorem Lv{c:Code}{σ:Type}(ts ls:List Nat){K0:List (Nat×SV)}{O0:Own}(hk:zj4 F ts []=some K0)(ho:z8l O ls []=some O0)
    (Fx:σ→List (Nat×SV)) (Ox:σ→Own) (Vx:σ→Vw) (I:σ→Prop) (μ:σ→Nat) (x0:σ) (h0:I x0)
    (round: ∀x,I x→KJ (c.wp Tryz.prog (Exit.then (fun a w=> ∃x',(AtX n (fun x=>Fx x++K0) (fun x=>Ox x++O0) nl Vx x' a w∧I x')∧μ x'<μ x) Q)) n (mkF (Fx x++K0)) [] (Ox x++O0) nl (Vx x))
    (hs:z52 F (Fx x0++K0):=by repeat (first|exact fN|refine fC rfl ?_)) (hO:z3b O (Ox x0++O0):=by repeat (first|exact oN|refine oC rfl ?_)) (hok:(z2f nl (Fx x0++K0)&&z0u nl (Ox x0++O0))=true:=by rfl) (hV:(Vx x0).le V:=by exact Vw.le.refl _):
    KJ ((Code.loop c).wp Tryz.prog Q) n F C O nl V:=zzr ts ls hk ho Fx Ox Vx I μ x0 h0 hs hO hok hV round
def zxy(n:Nat)(ops:Array Oper)(O:Own)(nl:Nat):Nat→List Oper→z05→List Nat→Option (List Oper×z05×List Nat)
  |0,l,F,C=>some (l,F,C)
  |_+1,[],_,_=>none
  |k+1,o::r,F,C=>match gd1 n ops F C o with
    |some (p,g,C',d)=>match z3s tt F O p o.op with
      |some s=>bif s.ok nl then zxy n ops O nl k r ((d,⟨p,g,s⟩)::F) C' else none
      |none=>none
    |none=>none
theorem Dm(k:Nat)(h:zxy n ops O nl k l F C=some (l',F',C'))(next:DJ Tryz.prog ops Q l' n F' C' O nl V):DJ Tryz.prog ops Q l n F C O nl V:=by
  induction k generalizing l F C with
  |zero=>simp only[zxy,Option.some.injEq,Prod.mk.injEq]at h;obtain⟨rfl,rfl,rfl⟩:=h;exact next
  |succ k ih=>
    cases l with
    |nil=>cases h
    |cons o r=>
      simp only[zxy]at h
      split at h
      · rename_i p g C1 d hg
        split at h
        · rename_i s hs
          cases hk:s.ok nl with
          |false=>rw[hk]at h;cases h
          |true=>rw[hk]at h;exact zsx (z1g hg).1 (z1g hg).2.1 (z1g hg).2.2 (z72 tok hs) hk (ih h)
        · cases h
      · cases h
end
section
variable{ops:Array Oper}{Q:Exit→Act→World→Prop}{o:Oper}{n:Nat}{F F':z05}{C C':List Nat}{O O' O0:Own}{nl nl' nl0:Nat}{V V0:Vw}{p:List (Nat×Bool)}{g:Bool}{s:SV}{d:Nat}{sp:List Nat}{fuel fuel':Nat}{listed listed':List Bool}
/-- Operations of a drawn region, taken one by one, each a value. -/
def zve(n:Nat)(ops:Array Oper)(O:Own)(nl:Nat):List Nat→Nat→List Bool→z05→List Nat→Option (Nat×List Bool×z05×List Nat)
  |[],fuel,L,F,C=>some (fuel,L,F,C)
  |i::r,fuel+1,L,F,C=>match ops[i]? with
    |some o=>match gd1 n ops F C o with
      |some (p,g,C',d)=>match z3s tt F O p o.op with
        |some s=>bif s.ok nl then zve n ops O nl r fuel (z4w L i) ((d,⟨p,g,s⟩)::F) C' else none
        |none=>none
      |none=>none
    |none=>none
  |_::_,0,_,_,_=>none
def zdd(f:List Bool→Nat→Bool):List Nat→List Bool→Bool
  |[],_=>true
  |i::r,L=>f L i&&zdd f r (z4w L i)
theorem zcy{i:Nat}{r:List Nat}(h:zve n ops O nl (i::r) fuel listed F C=some (fuel',listed',F',C')):
    ∃o p g C1 d s f1,fuel=f1+1∧ops[i]? =some o∧gd1 n ops F C o=some (p,g,C1,d)∧z3s tt F O p o.op=some s∧s.ok nl=true∧zve n ops O nl r f1 (z4w listed i) ((d,⟨p,g,s⟩)::F) C1=some (fuel',listed',F',C'):=by
  cases fuel with
  |zero=>cases h
  |succ f1=>
    simp only[zve]at h
    split at h
    · rename_i o ho
      split at h
      · rename_i p g C1 d hg
        split at h
        · rename_i s hs
          cases hk:s.ok nl with
          |false=>rw[hk]at h;cases h
          |true=>rw[hk]at h;exact⟨o,p,g,C1,d,s,f1,rfl,ho,hg,hs,hk,h⟩
        · cases h
      · cases h
    · cases h
theorem QS(h:HJ Tryz.prog ops Q sp O0 nl V fuel listed n F C O nl V):TJ Tryz.prog ops Q sp O0 fuel listed n F C O nl V:=t_go h
theorem QT(L:List Nat)(h:zve n ops O0 nl L fuel listed F C=some (fuel',listed',F',C'))(next:TJ Tryz.prog ops Q sp O0 fuel' listed' n F' C' O nl V)
    (hk:zdd (fun l i=>zp0 ops sp l.toArray i) L listed=true:=by kernel_rfl):TJ Tryz.prog ops Q sp O0 fuel listed n F C O nl V:=by
  induction L generalizing fuel listed F C with
  |nil=>simp only[zve,Option.some.injEq,Prod.mk.injEq]at h;obtain⟨rfl,rfl,rfl,rfl⟩:=h;exact next
  |cons i r ih=>
    obtain⟨o,p,g,C1,d,s,f1,rfl,ho,hg,hs,hok,h⟩:=zcy h
    simp only[zdd,Bool.and_eq_true]at hk
    exact zz5 i ho hk.1 (z1g hg).1 (z1g hg).2.1 (z1g hg).2.2 (z72 tok hs) hok (ih h hk.2)
theorem QD(L:List Nat)(h:zve n ops O0 nl L fuel listed F C=some (fuel',listed',F',C'))(next:TJ Tryz.prog ops Q sp O0 fuel' listed' n F' C' O nl V)
    (hk:zdd (fun l i=>zpo ops sp l.toArray i) L listed=true:=by kernel_rfl):TJ Tryz.prog ops Q sp O0 fuel listed n F C O nl V:=by
  induction L generalizing fuel listed F C with
  |nil=>simp only[zve,Option.some.injEq,Prod.mk.injEq]at h;obtain⟨rfl,rfl,rfl,rfl⟩:=h;exact next
  |cons i r ih=>
    obtain⟨o,p,g,C1,d,s,f1,rfl,ho,hg,hs,hok,h⟩:=zcy h
    simp only[zdd,Bool.and_eq_true]at hk
    exact zpy i ho hk.1 (z1g hg).1 (z1g hg).2.1 (z1g hg).2.2 (z72 tok hs) hok (ih h hk.2)
theorem Qo(i:Nat)(h:HI Tryz.prog ops Q sp O0 nl0 V0 fuel listed n F C O nl V i)(hr:Region.ready .any ops listed.toArray=[i]:=by kernel_rfl):HJ Tryz.prog ops Q sp O0 nl0 V0 (fuel+1) listed n F C O nl V:=j5f i hr h
theorem Qz(i j:Nat)(h1:HI Tryz.prog ops Q sp O0 nl0 V0 fuel listed n F C O nl V i)(h2:HI Tryz.prog ops Q sp O0 nl0 V0 fuel listed n F C O nl V j)(hr:Region.ready .any ops listed.toArray=[i,j]:=by kernel_rfl):HJ Tryz.prog ops Q sp O0 nl0 V0 (fuel+1) listed n F C O nl V:=j8o i j hr h1 h2
theorem Qx(L:List Nat)(h:zve n ops O nl L fuel listed F C=some (fuel',listed',F',C'))(next:HJ Tryz.prog ops Q sp O0 nl0 V0 fuel' listed' n F' C' O nl V)
    (hk:zdd (fun l i=>Region.ready .any ops l.toArray==[i]) L listed=true:=by kernel_rfl):HJ Tryz.prog ops Q sp O0 nl0 V0 fuel listed n F C O nl V:=by
  induction L generalizing fuel listed F C with
  |nil=>simp only[zve,Option.some.injEq,Prod.mk.injEq]at h;obtain⟨rfl,rfl,rfl,rfl⟩:=h;exact next
  |cons i r ih=>
    obtain⟨o,p,g,C1,d,s,f1,rfl,ho,hg,hs,hok,h⟩:=zcy h
    simp only[zdd,Bool.and_eq_true,beq_iff_eq]at hk
    exact j5f i hk.1 (zle i ho (z1g hg).1 (z1g hg).2.1 (z1g hg).2.2 (z72 tok hs) (ih h hk.2))
theorem Qe(ts:List Nat)(hk:zi2 F ts []=some F')(h:KJ (Q .normal) n F' [] O nl V)(hr:Region.ready .any ops listed.toArray=[]:=by kernel_rfl):HJ Tryz.prog ops Q sp O0 nl0 V0 fuel listed n F C O nl V:=j6l ts hr hk h
def stI(ops:Array Oper)(i:Nat)(F:z05)(O:Own):Option (Nat×List A×Nat×List A):=match ops[i]? with
  |some o=>st1 F O o
  |none=>none
theorem zz0{i:Nat}{x:Nat×List A×Nat×List A}(h:stI ops i F O=some x): ∃o,ops[i]? =some o∧st1 F O o=some x:=by
  unfold stI at h
  split at h
  · rename_i o ho;exact⟨o,ho,h⟩
  · cases h
theorem Qi(i:Nat){a:Nat}{cs vs:List A}{e:Nat}(h:stI ops i F O=some (a,cs,e,vs))(next:HJ Tryz.prog ops Q sp O0 nl0 V0 fuel (z4w listed i) n F C ((a, .lit cs e)::O) nl V)
  (h1:zc2 O vs:=by repeat' first|exact trivial|exact rfl|apply And.intro)
  (hsp:z3b ((a, .lit cs e)::O) O0∧z0u nl0 O0=true∧V0.le V:=by exact⟨(by repeat (first|exact oN|refine oC rfl ?_)),rfl,(by first|exact Vw.le.refl _|assumption)⟩):HI Tryz.prog ops Q sp O0 nl0 V0 fuel listed n F C O nl V i:=
  let ⟨o,ho,hs⟩:=zz0 h;zta i tok ho (z9x hs).1 (z9x hs).2.1 (z9x hs).2.2 h1 (.inr hsp) next
theorem Qj(i:Nat){a:Nat}{cs vs:List A}{e:Nat}(h:stI ops i F O=some (a,cs,e,vs))(next:HJ Tryz.prog ops Q sp O0 nl0 V0 fuel (z4w listed i) n F C ((a, .lit cs e)::O) nl V)
  (h1:zc2 O vs:=by repeat' first|exact trivial|exact rfl|apply And.intro)
  (hsp:z0r sp (z4w listed i).toArray=true:=by rfl):HI Tryz.prog ops Q sp O0 nl0 V0 fuel listed n F C O nl V i:=
  let ⟨o,ho,hs⟩:=zz0 h;zta i tok ho (z9x hs).1 (z9x hs).2.1 (z9x hs).2.2 h1 (.inl hsp) next
theorem Qg(i:Nat){σ:Type}{Φ:σ→Prop}{sx:σ→SV}{Ox:σ→Own}{nl':Nat}{Vx:σ→Vw}(hi:ops[i]? =some o)(h:gd1 n ops F C o=some (p,true,C',d))
    (hs:StepTo Tryz.prog o p n F C' O nl V Φ sx Ox nl' Vx)
    (next: ∀x,Φ x→HJ Tryz.prog ops Q sp O0 nl0 V0 fuel (z4w listed i) n ((d,⟨p,true,sx x⟩)::F) C' (Ox x) nl' (Vx x)) (hn:(Nat.ble nl nl'&&Nat.ble nl0 nl)=true:=by rfl)
    (hsp: ∀x,Φ x→z3b (Ox x) O0∧z0u nl0 O0=true∧V0.le (Vx x):=by exact fun _ _=>⟨(by repeat (first|exact oN|refine oC rfl ?_)),rfl,(by first|exact Vw.le.refl _|assumption)⟩):HI Tryz.prog ops Q sp O0 nl0 V0 fuel listed n F C O nl V i:=
  zo3 i hi (z1g h).1 rfl (z1g h).2.1 (z1g h).2.2 hn hs (.inr hsp) next
theorem Qk(i:Nat){d:Nat}{cs:List A}{e:Nat}(hi:ops[i]? =some o)(h:gd1 n ops F C o=some ([],true,C,d))(hg:o.guard=none)(hv:zk4 tt F O o.op=some (cs,e))
    (next:HJ Tryz.prog ops Q sp O0 nl0 V0 fuel (z4w listed i) n ((d,⟨[],true, .a (.ptr nl 0)⟩)::F) C ((nl, .lit cs e)::O) (nl+1) V) (hnl:Nat.ble nl0 nl=true:=by rfl):HI Tryz.prog ops Q sp O0 nl0 V0 fuel listed n F C O nl V i:=
  jbd i tok hi hg hv (z1g h).2.1 (z1g h).2.2 hnl next
theorem Qt(i:Nat)(hi:ops[i]? =some o)(h:gd1 n ops F C o=some (p,g,C',d))(hy:Yld Tryz.prog o n F C' O0 nl V p g s)
    (next:TJ Tryz.prog ops Q sp O0 fuel (z4w listed i) n ((d,⟨p,g,s⟩)::F) C' O nl V) (hk:zp0 ops sp listed.toArray i=true:=by kernel_rfl) (hs:s.ok nl=true:=by rfl):TJ Tryz.prog ops Q sp O0 (fuel+1) listed n F C O nl V:=
  zz5 i hi hk (z1g h).1 (z1g h).2.1 (z1g h).2.2 hy hs next
theorem Qu(i:Nat)(hi:ops[i]? =some o)(h:gd1 n ops F C o=some (p,g,C',d))(hy:Yld Tryz.prog o n F C' O0 nl V p g s)
    (next:TJ Tryz.prog ops Q sp O0 fuel (z4w listed i) n ((d,⟨p,g,s⟩)::F) C' O nl V) (hk:zpo ops sp listed.toArray i=true:=by kernel_rfl) (hs:s.ok nl=true:=by rfl):TJ Tryz.prog ops Q sp O0 (fuel+1) listed n F C O nl V:=
  zpy i hi hk (z1g h).1 (z1g h).2.1 (z1g h).2.2 hy hs next
theorem Qy(i:Nat)(hi:ops[i]? =some o)(h:gd1 n ops F C o=some (p,g,C',d))(hy:Yld Tryz.prog o n F C' O nl V p g s)
    (next:HJ Tryz.prog ops Q sp O0 nl0 V0 fuel (z4w listed i) n ((d,⟨p,g,s⟩)::F) C' O nl V):HI Tryz.prog ops Q sp O0 nl0 V0 fuel listed n F C O nl V i:=
  zle i hi (z1g h).1 (z1g h).2.1 (z1g h).2.2 hy next
theorem Qh(i:Nat){f:Nat}{ss:List SV}(s:SV)(hi:ops[i]? =some o)(h:ca1 n ops F C o=some ((p,g,C',d),f,ss))(hok:z0j Tryz.prog f)
    (hcall:g=true→ ∀E w,Mem E O nl V w→Calls Tryz.prog f (ss.map (SV.den E)).toArray w fun e w'=>e= .returned (s.den E)∧Below w.heap.size w w')
    (next:HJ Tryz.prog ops Q sp O0 nl0 V0 fuel (z4w listed i) n ((d,⟨p,g,s⟩)::F) C' O nl V) (hs:s.ok nl=true:=by rfl):HI Tryz.prog ops Q sp O0 nl0 V0 fuel listed n F C O nl V i:=
  let k:=z1g (zbg h).1;j50 i s hi k.1 (zbg h).2 hok k.2.1 k.2.2 hs hcall next
theorem Ra{id:Nat}{l:List Oper}(ho:z8l O [] []=some O0)(h:TJ Tryz.prog l.toArray Q [] O0 l.length (List.replicate l.length false) n F C O nl V)(hO:z3b O O0:=by repeat (first|exact oN|refine oC rfl ?_))(hok:z0u nl O0=true:=by first|rfl|simp[z0u,z26]):KJ ((Code.region id l.toArray true).wp Tryz.prog Q) n F C O nl V:=j01 mixed ho hO hok h
theorem Rb{id:Nat}{l:List Oper}(sp:List Nat)(ho:z8l O [] []=some O0)(h:TJ Tryz.prog l.toArray Q sp O0 l.length (List.replicate l.length false) n F C O nl V)(hO:z3b O O0:=by repeat (first|exact oN|refine oC rfl ?_))(hok:z0u nl O0=true:=by first|rfl|simp[z0u,z26]):KJ ((Code.region id l.toArray true).wp Tryz.prog Q) n F C O nl V:=j2r sp mixed ho hO hok h
end
end Go.Proofs.YtkoiogkdiifgfaaGreat
