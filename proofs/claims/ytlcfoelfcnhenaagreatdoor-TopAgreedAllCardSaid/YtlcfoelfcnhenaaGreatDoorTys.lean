/- The engine's table of this seat's types, and that the program's own agrees: written by gentys.py. -/
import Derived.Test.YtlcfoelfcnhenaaGreatDoorZz10
import Derived.Test.YtlcfoelfcnhenaaGreatDoorChecked
set_option linter.unusedSimpArgs false
set_option linter.unusedVariables false
namespace Go.Proofs.YtlcfoelfcnhenaaGreatDoor
open Go.Eng
def ty1 : TI := { kind := .other, size := 1, bytes := 8, zero := [.nilFunc], leaf := none }
@[simp] theorem ty1_by : ty1.bytes = 8 := rfl
def ty2 : TI := { kind := .int .i64, size := 1, bytes := 8, zero := [.int .i64 0], leaf := none }
@[simp] theorem ty2_by : ty2.bytes = 8 := rfl
def ty3 : TI := { kind := .int .i64, size := 1, bytes := 8, zero := [.int .i64 0], leaf := none }
@[simp] theorem ty3_by : ty3.bytes = 8 := rfl
def ty4 : TI := { kind := .bool, size := 1, bytes := 1, zero := [.bool false], leaf := none }
@[simp] theorem ty4_by : ty4.bytes = 1 := rfl
def ty5 : TI := { kind := .int .u8, size := 1, bytes := 1, zero := [.int .u8 0], leaf := none }
@[simp] theorem ty5_by : ty5.bytes = 1 := rfl
def ty9 : TI := { kind := .string, size := 1, bytes := 16, zero := [.string { data := #[] }], leaf := none }
@[simp] theorem ty9_by : ty9.bytes = 16 := rfl
def ty22 : TI := { kind := .slice 3, size := 1, bytes := 24, zero := [.slice none 0 0], leaf := none }
@[simp] theorem ty22_by : ty22.bytes = 24 := rfl
def ty23 : TI := { kind := .slice 113, size := 1, bytes := 24, zero := [.slice none 0 0], leaf := none }
@[simp] theorem ty23_by : ty23.bytes = 24 := rfl
def ty24 : TI := { kind := .slice 115, size := 1, bytes := 24, zero := [.slice none 0 0], leaf := none }
@[simp] theorem ty24_by : ty24.bytes = 24 := rfl
def ty25 : TI := { kind := .slice 56, size := 1, bytes := 24, zero := [.slice none 0 0], leaf := none }
@[simp] theorem ty25_by : ty25.bytes = 24 := rfl
def ty26 : TI := { kind := .struct [(0, 1), (1, 1), (2, 1), (3, 1), (4, 1), (5, 1), (6, 1)] [3, 22, 23, 24, 25, 3, 22], size := 7, bytes := 136, zero := [.int .i64 0, .slice none 0 0, .slice none 0 0, .slice none 0 0, .slice none 0 0, .int .i64 0, .slice none 0 0], leaf := none }
@[simp] theorem ty26_by : ty26.bytes = 136 := rfl
def ty27 : TI := { kind := .struct [(0, 1), (1, 1), (2, 1), (3, 1), (4, 1), (5, 1), (6, 1)] [3, 22, 23, 24, 25, 3, 22], size := 7, bytes := 136, zero := [.int .i64 0, .slice none 0 0, .slice none 0 0, .slice none 0 0, .slice none 0 0, .int .i64 0, .slice none 0 0], leaf := none }
@[simp] theorem ty27_by : ty27.bytes = 136 := rfl
def ty28 : TI := { kind := .slice 60, size := 1, bytes := 24, zero := [.slice none 0 0], leaf := none }
@[simp] theorem ty28_by : ty28.bytes = 24 := rfl
def ty32 : TI := { kind := .slice 82, size := 1, bytes := 24, zero := [.slice none 0 0], leaf := none }
@[simp] theorem ty32_by : ty32.bytes = 24 := rfl
def ty35 : TI := { kind := .int .i64, size := 1, bytes := 8, zero := [.int .i64 0], leaf := none }
@[simp] theorem ty35_by : ty35.bytes = 8 := rfl
def ty38 : TI := { kind := .slice 27, size := 1, bytes := 24, zero := [.slice none 0 0], leaf := none }
@[simp] theorem ty38_by : ty38.bytes = 24 := rfl
def ty39 : TI := { kind := .slice 45, size := 1, bytes := 24, zero := [.slice none 0 0], leaf := none }
@[simp] theorem ty39_by : ty39.bytes = 24 := rfl
def ty42 : TI := { kind := .slice 4, size := 1, bytes := 24, zero := [.slice none 0 0], leaf := none }
@[simp] theorem ty42_by : ty42.bytes = 24 := rfl
def ty43 : TI := { kind := .slice 106, size := 1, bytes := 24, zero := [.slice none 0 0], leaf := none }
@[simp] theorem ty43_by : ty43.bytes = 24 := rfl
def ty44 : TI := { kind := .struct [(0, 1), (1, 1), (2, 1), (3, 1)] [3, 22, 42, 43], size := 4, bytes := 80, zero := [.int .i64 0, .slice none 0 0, .slice none 0 0, .slice none 0 0], leaf := none }
@[simp] theorem ty44_by : ty44.bytes = 80 := rfl
def ty45 : TI := { kind := .struct [(0, 1), (1, 1), (2, 1), (3, 1)] [3, 22, 42, 43], size := 4, bytes := 80, zero := [.int .i64 0, .slice none 0 0, .slice none 0 0, .slice none 0 0], leaf := none }
@[simp] theorem ty45_by : ty45.bytes = 80 := rfl
def ty52 : TI := { kind := .slice 132, size := 1, bytes := 24, zero := [.slice none 0 0], leaf := none }
@[simp] theorem ty52_by : ty52.bytes = 24 := rfl
def ty53 : TI := { kind := .struct [(0, 1), (1, 1)] [3, 3], size := 2, bytes := 16, zero := [.int .i64 0, .int .i64 0], leaf := none }
@[simp] theorem ty53_by : ty53.bytes = 16 := rfl
def ty54 : TI := { kind := .struct [(0, 1), (1, 1)] [3, 3], size := 2, bytes := 16, zero := [.int .i64 0, .int .i64 0], leaf := none }
@[simp] theorem ty54_by : ty54.bytes = 16 := rfl
def ty55 : TI := { kind := .struct [(0, 1), (1, 1), (2, 1), (3, 1), (4, 1), (5, 1), (6, 1), (7, 1), (8, 1), (9, 1), (10, 1), (11, 2), (13, 1), (14, 1), (15, 1)] [3, 3, 3, 3, 52, 3, 3, 4, 4, 3, 3, 54, 3, 3, 4], size := 16, bytes := 136, zero := [.int .i64 0, .int .i64 0, .int .i64 0, .int .i64 0, .slice none 0 0, .int .i64 0, .int .i64 0, .bool false, .bool false, .int .i64 0, .int .i64 0, .int .i64 0, .int .i64 0, .int .i64 0, .int .i64 0, .bool false], leaf := none }
@[simp] theorem ty55_by : ty55.bytes = 136 := rfl
def ty56 : TI := { kind := .struct [(0, 1), (1, 1), (2, 1), (3, 1), (4, 1), (5, 1), (6, 1), (7, 1), (8, 1), (9, 1), (10, 1), (11, 2), (13, 1), (14, 1), (15, 1)] [3, 3, 3, 3, 52, 3, 3, 4, 4, 3, 3, 54, 3, 3, 4], size := 16, bytes := 136, zero := [.int .i64 0, .int .i64 0, .int .i64 0, .int .i64 0, .slice none 0 0, .int .i64 0, .int .i64 0, .bool false, .bool false, .int .i64 0, .int .i64 0, .int .i64 0, .int .i64 0, .int .i64 0, .int .i64 0, .bool false], leaf := none }
@[simp] theorem ty56_by : ty56.bytes = 136 := rfl
def ty57 : TI := { kind := .struct [(0, 1), (1, 1), (2, 16), (18, 1)] [3, 22, 56, 3], size := 19, bytes := 176, zero := [.int .i64 0, .slice none 0 0, .int .i64 0, .int .i64 0, .int .i64 0, .int .i64 0, .slice none 0 0, .int .i64 0, .int .i64 0, .bool false, .bool false, .int .i64 0, .int .i64 0, .int .i64 0, .int .i64 0, .int .i64 0, .int .i64 0, .bool false, .int .i64 0], leaf := none }
@[simp] theorem ty57_by : ty57.bytes = 176 := rfl
def ty58 : TI := { kind := .struct [(0, 1), (1, 1), (2, 16), (18, 1)] [3, 22, 56, 3], size := 19, bytes := 176, zero := [.int .i64 0, .slice none 0 0, .int .i64 0, .int .i64 0, .int .i64 0, .int .i64 0, .slice none 0 0, .int .i64 0, .int .i64 0, .bool false, .bool false, .int .i64 0, .int .i64 0, .int .i64 0, .int .i64 0, .int .i64 0, .int .i64 0, .bool false, .int .i64 0], leaf := none }
@[simp] theorem ty58_by : ty58.bytes = 176 := rfl
def ty59 : TI := { kind := .struct [(0, 1), (1, 1), (2, 1), (3, 1), (4, 1), (5, 19), (24, 1)] [3, 3, 3, 3, 3, 58, 9], size := 25, bytes := 232, zero := [.int .i64 0, .int .i64 0, .int .i64 0, .int .i64 0, .int .i64 0, .int .i64 0, .slice none 0 0, .int .i64 0, .int .i64 0, .int .i64 0, .int .i64 0, .slice none 0 0, .int .i64 0, .int .i64 0, .bool false, .bool false, .int .i64 0, .int .i64 0, .int .i64 0, .int .i64 0, .int .i64 0, .int .i64 0, .bool false, .int .i64 0, .string { data := #[] }], leaf := none }
@[simp] theorem ty59_by : ty59.bytes = 232 := rfl
def ty60 : TI := { kind := .struct [(0, 1), (1, 1), (2, 1), (3, 1), (4, 1), (5, 19), (24, 1)] [3, 3, 3, 3, 3, 58, 9], size := 25, bytes := 232, zero := [.int .i64 0, .int .i64 0, .int .i64 0, .int .i64 0, .int .i64 0, .int .i64 0, .slice none 0 0, .int .i64 0, .int .i64 0, .int .i64 0, .int .i64 0, .slice none 0 0, .int .i64 0, .int .i64 0, .bool false, .bool false, .int .i64 0, .int .i64 0, .int .i64 0, .int .i64 0, .int .i64 0, .int .i64 0, .bool false, .int .i64 0, .string { data := #[] }], leaf := none }
@[simp] theorem ty60_by : ty60.bytes = 232 := rfl
def ty64 : TI := { kind := .map 9 70, size := 1, bytes := 8, zero := [.map none], leaf := none }
@[simp] theorem ty64_by : ty64.bytes = 8 := rfl
def ty66 : TI := { kind := .map 124 3, size := 1, bytes := 8, zero := [.map none], leaf := none }
@[simp] theorem ty66_by : ty66.bytes = 8 := rfl
def ty68 : TI := { kind := .map 73 74, size := 1, bytes := 8, zero := [.map none], leaf := none }
@[simp] theorem ty68_by : ty68.bytes = 8 := rfl
def ty69 : TI := { kind := .struct [(0, 25), (25, 1), (26, 1)] [60, 9, 3], size := 27, bytes := 256, zero := [.int .i64 0, .int .i64 0, .int .i64 0, .int .i64 0, .int .i64 0, .int .i64 0, .slice none 0 0, .int .i64 0, .int .i64 0, .int .i64 0, .int .i64 0, .slice none 0 0, .int .i64 0, .int .i64 0, .bool false, .bool false, .int .i64 0, .int .i64 0, .int .i64 0, .int .i64 0, .int .i64 0, .int .i64 0, .bool false, .int .i64 0, .string { data := #[] }, .string { data := #[] }, .int .i64 0], leaf := none }
@[simp] theorem ty69_by : ty69.bytes = 256 := rfl
def ty70 : TI := { kind := .struct [(0, 25), (25, 1), (26, 1)] [60, 9, 3], size := 27, bytes := 256, zero := [.int .i64 0, .int .i64 0, .int .i64 0, .int .i64 0, .int .i64 0, .int .i64 0, .slice none 0 0, .int .i64 0, .int .i64 0, .int .i64 0, .int .i64 0, .slice none 0 0, .int .i64 0, .int .i64 0, .bool false, .bool false, .int .i64 0, .int .i64 0, .int .i64 0, .int .i64 0, .int .i64 0, .int .i64 0, .bool false, .int .i64 0, .string { data := #[] }, .string { data := #[] }, .int .i64 0], leaf := none }
@[simp] theorem ty70_by : ty70.bytes = 256 := rfl
def ty72 : TI := { kind := .struct [(0, 1), (1, 1)] [3, 3], size := 2, bytes := 16, zero := [.int .i64 0, .int .i64 0], leaf := none }
@[simp] theorem ty72_by : ty72.bytes = 16 := rfl
def ty73 : TI := { kind := .struct [(0, 1), (1, 1)] [3, 3], size := 2, bytes := 16, zero := [.int .i64 0, .int .i64 0], leaf := none }
@[simp] theorem ty73_by : ty73.bytes = 16 := rfl
def ty74 : TI := { kind := .slice 70, size := 1, bytes := 24, zero := [.slice none 0 0], leaf := none }
@[simp] theorem ty74_by : ty74.bytes = 24 := rfl
def ty75 : TI := { kind := .map 73 22, size := 1, bytes := 8, zero := [.map none], leaf := none }
@[simp] theorem ty75_by : ty75.bytes = 8 := rfl
def ty77 : TI := { kind := .map 3 74, size := 1, bytes := 8, zero := [.map none], leaf := none }
@[simp] theorem ty77_by : ty77.bytes = 8 := rfl
def ty81 : TI := { kind := .struct [(0, 1), (1, 1), (2, 1), (3, 19)] [3, 3, 3, 58], size := 22, bytes := 200, zero := [.int .i64 0, .int .i64 0, .int .i64 0, .int .i64 0, .slice none 0 0, .int .i64 0, .int .i64 0, .int .i64 0, .int .i64 0, .slice none 0 0, .int .i64 0, .int .i64 0, .bool false, .bool false, .int .i64 0, .int .i64 0, .int .i64 0, .int .i64 0, .int .i64 0, .int .i64 0, .bool false, .int .i64 0], leaf := none }
@[simp] theorem ty81_by : ty81.bytes = 200 := rfl
def ty82 : TI := { kind := .struct [(0, 1), (1, 1), (2, 1), (3, 19)] [3, 3, 3, 58], size := 22, bytes := 200, zero := [.int .i64 0, .int .i64 0, .int .i64 0, .int .i64 0, .slice none 0 0, .int .i64 0, .int .i64 0, .int .i64 0, .int .i64 0, .slice none 0 0, .int .i64 0, .int .i64 0, .bool false, .bool false, .int .i64 0, .int .i64 0, .int .i64 0, .int .i64 0, .int .i64 0, .int .i64 0, .bool false, .int .i64 0], leaf := none }
@[simp] theorem ty82_by : ty82.bytes = 200 := rfl
def ty89 : TI := { kind := .other, size := 1, bytes := 8, zero := [.nilFunc], leaf := none }
@[simp] theorem ty89_by : ty89.bytes = 8 := rfl
def ty95 : TI := { kind := .other, size := 1, bytes := 8, zero := [.nilFunc], leaf := none }
@[simp] theorem ty95_by : ty95.bytes = 8 := rfl
def ty97 : TI := { kind := .struct [(0, 7), (7, 4)] [27, 45], size := 11, bytes := 216, zero := [.int .i64 0, .slice none 0 0, .slice none 0 0, .slice none 0 0, .slice none 0 0, .int .i64 0, .slice none 0 0, .int .i64 0, .slice none 0 0, .slice none 0 0, .slice none 0 0], leaf := none }
@[simp] theorem ty97_by : ty97.bytes = 216 := rfl
def ty98 : TI := { kind := .struct [(0, 7), (7, 4)] [27, 45], size := 11, bytes := 216, zero := [.int .i64 0, .slice none 0 0, .slice none 0 0, .slice none 0 0, .slice none 0 0, .int .i64 0, .slice none 0 0, .int .i64 0, .slice none 0 0, .slice none 0 0, .slice none 0 0], leaf := none }
@[simp] theorem ty98_by : ty98.bytes = 216 := rfl
def ty101 : TI := { kind := .other, size := 1, bytes := 8, zero := [.pointer none], leaf := none }
@[simp] theorem ty101_by : ty101.bytes = 8 := rfl
def ty103 : TI := { kind := .struct [(0, 7), (7, 4)] [27, 45], size := 11, bytes := 216, zero := [.int .i64 0, .slice none 0 0, .slice none 0 0, .slice none 0 0, .slice none 0 0, .int .i64 0, .slice none 0 0, .int .i64 0, .slice none 0 0, .slice none 0 0, .slice none 0 0], leaf := none }
@[simp] theorem ty103_by : ty103.bytes = 216 := rfl
def ty104 : TI := { kind := .struct [(0, 7), (7, 4)] [27, 45], size := 11, bytes := 216, zero := [.int .i64 0, .slice none 0 0, .slice none 0 0, .slice none 0 0, .slice none 0 0, .int .i64 0, .slice none 0 0, .int .i64 0, .slice none 0 0, .slice none 0 0, .slice none 0 0], leaf := none }
@[simp] theorem ty104_by : ty104.bytes = 216 := rfl
def ty105 : TI := { kind := .struct [(0, 1), (1, 1), (2, 1), (3, 1), (4, 1)] [3, 3, 3, 3, 4], size := 5, bytes := 40, zero := [.int .i64 0, .int .i64 0, .int .i64 0, .int .i64 0, .bool false], leaf := none }
@[simp] theorem ty105_by : ty105.bytes = 40 := rfl
def ty106 : TI := { kind := .struct [(0, 1), (1, 1), (2, 1), (3, 1), (4, 1)] [3, 3, 3, 3, 4], size := 5, bytes := 40, zero := [.int .i64 0, .int .i64 0, .int .i64 0, .int .i64 0, .bool false], leaf := none }
@[simp] theorem ty106_by : ty106.bytes = 40 := rfl
def ty111 : TI := { kind := .other, size := 1, bytes := 8, zero := [.nilFunc], leaf := none }
@[simp] theorem ty111_by : ty111.bytes = 8 := rfl
def ty112 : TI := { kind := .struct [(0, 1), (1, 1), (2, 1), (3, 2)] [9, 3, 3, 54], size := 5, bytes := 48, zero := [.string { data := #[] }, .int .i64 0, .int .i64 0, .int .i64 0, .int .i64 0], leaf := none }
@[simp] theorem ty112_by : ty112.bytes = 48 := rfl
def ty113 : TI := { kind := .struct [(0, 1), (1, 1), (2, 1), (3, 2)] [9, 3, 3, 54], size := 5, bytes := 48, zero := [.string { data := #[] }, .int .i64 0, .int .i64 0, .int .i64 0, .int .i64 0], leaf := none }
@[simp] theorem ty113_by : ty113.bytes = 48 := rfl
def ty114 : TI := { kind := .struct [(0, 1), (1, 1), (2, 1), (3, 1), (4, 1), (5, 2)] [3, 3, 3, 3, 3, 54], size := 7, bytes := 56, zero := [.int .i64 0, .int .i64 0, .int .i64 0, .int .i64 0, .int .i64 0, .int .i64 0, .int .i64 0], leaf := none }
@[simp] theorem ty114_by : ty114.bytes = 56 := rfl
def ty115 : TI := { kind := .struct [(0, 1), (1, 1), (2, 1), (3, 1), (4, 1), (5, 2)] [3, 3, 3, 3, 3, 54], size := 7, bytes := 56, zero := [.int .i64 0, .int .i64 0, .int .i64 0, .int .i64 0, .int .i64 0, .int .i64 0, .int .i64 0], leaf := none }
@[simp] theorem ty115_by : ty115.bytes = 56 := rfl
def ty119 : TI := { kind := .array 3 3, size := 3, bytes := 24, zero := [.int .i64 0, .int .i64 0, .int .i64 0], leaf := none }
@[simp] theorem ty119_by : ty119.bytes = 24 := rfl
def ty123 : TI := { kind := .struct [(0, 2), (2, 1)] [73, 9], size := 3, bytes := 32, zero := [.int .i64 0, .int .i64 0, .string { data := #[] }], leaf := none }
@[simp] theorem ty123_by : ty123.bytes = 32 := rfl
def ty124 : TI := { kind := .struct [(0, 2), (2, 1)] [73, 9], size := 3, bytes := 32, zero := [.int .i64 0, .int .i64 0, .string { data := #[] }], leaf := none }
@[simp] theorem ty124_by : ty124.bytes = 32 := rfl
def ty131 : TI := { kind := .struct [(0, 1), (1, 1)] [3, 3], size := 2, bytes := 16, zero := [.int .i64 0, .int .i64 0], leaf := none }
@[simp] theorem ty131_by : ty131.bytes = 16 := rfl
def ty132 : TI := { kind := .struct [(0, 1), (1, 1)] [3, 3], size := 2, bytes := 16, zero := [.int .i64 0, .int .i64 0], leaf := none }
@[simp] theorem ty132_by : ty132.bytes = 16 := rfl
def ty135 : TI := { kind := .int .u64, size := 1, bytes := 8, zero := [.int .u64 0], leaf := none }
@[simp] theorem ty135_by : ty135.bytes = 8 := rfl
def ty140 : TI := { kind := .other, size := 1, bytes := 8, zero := [.nilFunc], leaf := none }
@[simp] theorem ty140_by : ty140.bytes = 8 := rfl
def ty141 : TI := { kind := .struct [(0, 1), (1, 1), (2, 1), (3, 1), (4, 1)] [3, 3, 4, 4, 140], size := 5, bytes := 32, zero := [.int .i64 0, .int .i64 0, .bool false, .bool false, .nilFunc], leaf := none }
@[simp] theorem ty141_by : ty141.bytes = 32 := rfl
def ty142 : TI := { kind := .struct [(0, 1), (1, 1), (2, 1), (3, 1), (4, 1)] [3, 3, 4, 4, 140], size := 5, bytes := 32, zero := [.int .i64 0, .int .i64 0, .bool false, .bool false, .nilFunc], leaf := none }
@[simp] theorem ty142_by : ty142.bytes = 32 := rfl
def ty144 : TI := { kind := .map 3 142, size := 1, bytes := 8, zero := [.map none], leaf := none }
@[simp] theorem ty144_by : ty144.bytes = 8 := rfl
def ty148 : TI := { kind := .slice 150, size := 1, bytes := 24, zero := [.slice none 0 0], leaf := none }
@[simp] theorem ty148_by : ty148.bytes = 24 := rfl
def ty149 : TI := { kind := .struct [(0, 22), (22, 1)] [82, 3], size := 23, bytes := 208, zero := [.int .i64 0, .int .i64 0, .int .i64 0, .int .i64 0, .slice none 0 0, .int .i64 0, .int .i64 0, .int .i64 0, .int .i64 0, .slice none 0 0, .int .i64 0, .int .i64 0, .bool false, .bool false, .int .i64 0, .int .i64 0, .int .i64 0, .int .i64 0, .int .i64 0, .int .i64 0, .bool false, .int .i64 0, .int .i64 0], leaf := none }
@[simp] theorem ty149_by : ty149.bytes = 208 := rfl
def ty150 : TI := { kind := .struct [(0, 22), (22, 1)] [82, 3], size := 23, bytes := 208, zero := [.int .i64 0, .int .i64 0, .int .i64 0, .int .i64 0, .slice none 0 0, .int .i64 0, .int .i64 0, .int .i64 0, .int .i64 0, .slice none 0 0, .int .i64 0, .int .i64 0, .bool false, .bool false, .int .i64 0, .int .i64 0, .int .i64 0, .int .i64 0, .int .i64 0, .int .i64 0, .bool false, .int .i64 0, .int .i64 0], leaf := none }
@[simp] theorem ty150_by : ty150.bytes = 208 := rfl
def ty160 : TI := { kind := .other, size := 1, bytes := 8, zero := [.nilFunc], leaf := none }
@[simp] theorem ty160_by : ty160.bytes = 8 := rfl
def ty161 : TI := { kind := .array 5 160, size := 5, bytes := 40, zero := [.nilFunc, .nilFunc, .nilFunc, .nilFunc, .nilFunc], leaf := none }
@[simp] theorem ty161_by : ty161.bytes = 40 := rfl
def ty164 : TI := { kind := .other, size := 1, bytes := 8, zero := [.nilFunc], leaf := none }
@[simp] theorem ty164_by : ty164.bytes = 8 := rfl
def ty168 : TI := { kind := .int .u32, size := 1, bytes := 4, zero := [.int .u32 0], leaf := none }
@[simp] theorem ty168_by : ty168.bytes = 4 := rfl
def ty169 : TI := { kind := .array 8 168, size := 8, bytes := 32, zero := [.int .u32 0, .int .u32 0, .int .u32 0, .int .u32 0, .int .u32 0, .int .u32 0, .int .u32 0, .int .u32 0], leaf := none }
@[simp] theorem ty169_by : ty169.bytes = 32 := rfl
def ty172 : TI := { kind := .slice 5, size := 1, bytes := 24, zero := [.slice none 0 0], leaf := none }
@[simp] theorem ty172_by : ty172.bytes = 24 := rfl
def ty178 : TI := { kind := .int .i64, size := 1, bytes := 8, zero := [.int .i64 0], leaf := none }
@[simp] theorem ty178_by : ty178.bytes = 8 := rfl
def ty186 : TI := { kind := .int .u64, size := 1, bytes := 8, zero := [.int .u64 0], leaf := none }
@[simp] theorem ty186_by : ty186.bytes = 8 := rfl
def ty205 : TI := { kind := .array 64 168, size := 64, bytes := 256, zero := [.int .u32 0, .int .u32 0, .int .u32 0, .int .u32 0, .int .u32 0, .int .u32 0, .int .u32 0, .int .u32 0, .int .u32 0, .int .u32 0, .int .u32 0, .int .u32 0, .int .u32 0, .int .u32 0, .int .u32 0, .int .u32 0, .int .u32 0, .int .u32 0, .int .u32 0, .int .u32 0, .int .u32 0, .int .u32 0, .int .u32 0, .int .u32 0, .int .u32 0, .int .u32 0, .int .u32 0, .int .u32 0, .int .u32 0, .int .u32 0, .int .u32 0, .int .u32 0, .int .u32 0, .int .u32 0, .int .u32 0, .int .u32 0, .int .u32 0, .int .u32 0, .int .u32 0, .int .u32 0, .int .u32 0, .int .u32 0, .int .u32 0, .int .u32 0, .int .u32 0, .int .u32 0, .int .u32 0, .int .u32 0, .int .u32 0, .int .u32 0, .int .u32 0, .int .u32 0, .int .u32 0, .int .u32 0, .int .u32 0, .int .u32 0, .int .u32 0, .int .u32 0, .int .u32 0, .int .u32 0, .int .u32 0, .int .u32 0, .int .u32 0, .int .u32 0], leaf := none }
@[simp] theorem ty205_by : ty205.bytes = 256 := rfl
def ty225 : TI := { kind := .slice 113, size := 1, bytes := 24, zero := [.slice none 0 0], leaf := none }
@[simp] theorem ty225_by : ty225.bytes = 24 := rfl
def ty226 : TI := { kind := .array 24 5, size := 24, bytes := 24, zero := [.int .u8 0, .int .u8 0, .int .u8 0, .int .u8 0, .int .u8 0, .int .u8 0, .int .u8 0, .int .u8 0, .int .u8 0, .int .u8 0, .int .u8 0, .int .u8 0, .int .u8 0, .int .u8 0, .int .u8 0, .int .u8 0, .int .u8 0, .int .u8 0, .int .u8 0, .int .u8 0, .int .u8 0, .int .u8 0, .int .u8 0, .int .u8 0], leaf := none }
@[simp] theorem ty226_by : ty226.bytes = 24 := rfl
def ty263 : TI := { kind := .slice 186, size := 1, bytes := 24, zero := [.slice none 0 0], leaf := none }
@[simp] theorem ty263_by : ty263.bytes = 24 := rfl
def TB : TE := [(1, ty1), (2, ty2), (3, ty3), (4, ty4), (5, ty5), (9, ty9), (22, ty22), (23, ty23), (24, ty24), (25, ty25), (26, ty26), (27, ty27), (28, ty28), (32, ty32), (35, ty35), (38, ty38), (39, ty39), (42, ty42), (43, ty43), (44, ty44), (45, ty45), (52, ty52), (53, ty53), (54, ty54), (55, ty55), (56, ty56), (57, ty57), (58, ty58), (59, ty59), (60, ty60), (64, ty64), (66, ty66), (68, ty68), (69, ty69), (70, ty70), (72, ty72), (73, ty73), (74, ty74), (75, ty75), (77, ty77), (81, ty81), (82, ty82), (89, ty89), (95, ty95), (97, ty97), (98, ty98), (101, ty101), (103, ty103), (104, ty104), (105, ty105), (106, ty106), (111, ty111), (112, ty112), (113, ty113), (114, ty114), (115, ty115), (119, ty119), (123, ty123), (124, ty124), (131, ty131), (132, ty132), (135, ty135), (140, ty140), (141, ty141), (142, ty142), (144, ty144), (148, ty148), (149, ty149), (150, ty150), (160, ty160), (161, ty161), (164, ty164), (168, ty168), (169, ty169), (172, ty172), (178, ty178), (186, ty186), (205, ty205), (225, ty225), (226, ty226), (263, ty263)]
theorem TB_ok : TOk Tryz.prog TB := TOk.all (by kernel_rfl) (by kernel_rfl) (by kernel_rfl) (by kernel_rfl)
theorem ty22_k : KindOk Tryz.prog 22 ty22.kind := (TB_ok 22 ty22 rfl).kind
theorem ty23_k : KindOk Tryz.prog 23 ty23.kind := (TB_ok 23 ty23 rfl).kind
theorem ty24_k : KindOk Tryz.prog 24 ty24.kind := (TB_ok 24 ty24 rfl).kind
theorem ty25_k : KindOk Tryz.prog 25 ty25.kind := (TB_ok 25 ty25 rfl).kind
theorem ty27_k : KindOk Tryz.prog 27 ty27.kind := (TB_ok 27 ty27 rfl).kind
theorem ty28_k : KindOk Tryz.prog 28 ty28.kind := (TB_ok 28 ty28 rfl).kind
theorem ty52_k : KindOk Tryz.prog 52 ty52.kind := (TB_ok 52 ty52 rfl).kind
theorem ty54_k : KindOk Tryz.prog 54 ty54.kind := (TB_ok 54 ty54 rfl).kind
theorem ty56_k : KindOk Tryz.prog 56 ty56.kind := (TB_ok 56 ty56 rfl).kind
theorem ty58_k : KindOk Tryz.prog 58 ty58.kind := (TB_ok 58 ty58 rfl).kind
theorem ty60_k : KindOk Tryz.prog 60 ty60.kind := (TB_ok 60 ty60 rfl).kind
theorem ty113_k : KindOk Tryz.prog 113 ty113.kind := (TB_ok 113 ty113 rfl).kind
theorem ty115_k : KindOk Tryz.prog 115 ty115.kind := (TB_ok 115 ty115 rfl).kind
theorem ty132_k : KindOk Tryz.prog 132 ty132.kind := (TB_ok 132 ty132 rfl).kind
theorem leaf53 : LeafOk Tryz.prog 53 [.int .i64, .int .i64] := LeafOk.of (n := 9) TB_ok rfl (by decide) (by kernel_rfl) (by kernel_rfl)
def ty53e : TI := { ty53 with leaf := some [.int .i64, .int .i64] }
@[simp] theorem ty53e_by : ty53e.bytes = 16 := rfl
theorem leaf54 : LeafOk Tryz.prog 54 [.int .i64, .int .i64] := LeafOk.of (n := 9) TB_ok rfl (by decide) (by kernel_rfl) (by kernel_rfl)
def ty54e : TI := { ty54 with leaf := some [.int .i64, .int .i64] }
@[simp] theorem ty54e_by : ty54e.bytes = 16 := rfl
theorem leaf72 : LeafOk Tryz.prog 72 [.int .i64, .int .i64] := LeafOk.of (n := 9) TB_ok rfl (by decide) (by kernel_rfl) (by kernel_rfl)
def ty72e : TI := { ty72 with leaf := some [.int .i64, .int .i64] }
@[simp] theorem ty72e_by : ty72e.bytes = 16 := rfl
theorem leaf73 : LeafOk Tryz.prog 73 [.int .i64, .int .i64] := LeafOk.of (n := 9) TB_ok rfl (by decide) (by kernel_rfl) (by kernel_rfl)
def ty73e : TI := { ty73 with leaf := some [.int .i64, .int .i64] }
@[simp] theorem ty73e_by : ty73e.bytes = 16 := rfl
theorem leaf105 : LeafOk Tryz.prog 105 [.int .i64, .int .i64, .int .i64, .int .i64, .bool] := LeafOk.of (n := 9) TB_ok rfl (by decide) (by kernel_rfl) (by kernel_rfl)
def ty105e : TI := { ty105 with leaf := some [.int .i64, .int .i64, .int .i64, .int .i64, .bool] }
@[simp] theorem ty105e_by : ty105e.bytes = 40 := rfl
theorem leaf106 : LeafOk Tryz.prog 106 [.int .i64, .int .i64, .int .i64, .int .i64, .bool] := LeafOk.of (n := 9) TB_ok rfl (by decide) (by kernel_rfl) (by kernel_rfl)
def ty106e : TI := { ty106 with leaf := some [.int .i64, .int .i64, .int .i64, .int .i64, .bool] }
@[simp] theorem ty106e_by : ty106e.bytes = 40 := rfl
theorem leaf112 : LeafOk Tryz.prog 112 [.string, .int .i64, .int .i64, .int .i64, .int .i64] := LeafOk.of (n := 9) TB_ok rfl (by decide) (by kernel_rfl) (by kernel_rfl)
def ty112e : TI := { ty112 with leaf := some [.string, .int .i64, .int .i64, .int .i64, .int .i64] }
@[simp] theorem ty112e_by : ty112e.bytes = 48 := rfl
theorem leaf113 : LeafOk Tryz.prog 113 [.string, .int .i64, .int .i64, .int .i64, .int .i64] := LeafOk.of (n := 9) TB_ok rfl (by decide) (by kernel_rfl) (by kernel_rfl)
def ty113e : TI := { ty113 with leaf := some [.string, .int .i64, .int .i64, .int .i64, .int .i64] }
@[simp] theorem ty113e_by : ty113e.bytes = 48 := rfl
theorem leaf114 : LeafOk Tryz.prog 114 [.int .i64, .int .i64, .int .i64, .int .i64, .int .i64, .int .i64, .int .i64] := LeafOk.of (n := 9) TB_ok rfl (by decide) (by kernel_rfl) (by kernel_rfl)
def ty114e : TI := { ty114 with leaf := some [.int .i64, .int .i64, .int .i64, .int .i64, .int .i64, .int .i64, .int .i64] }
@[simp] theorem ty114e_by : ty114e.bytes = 56 := rfl
theorem leaf115 : LeafOk Tryz.prog 115 [.int .i64, .int .i64, .int .i64, .int .i64, .int .i64, .int .i64, .int .i64] := LeafOk.of (n := 9) TB_ok rfl (by decide) (by kernel_rfl) (by kernel_rfl)
def ty115e : TI := { ty115 with leaf := some [.int .i64, .int .i64, .int .i64, .int .i64, .int .i64, .int .i64, .int .i64] }
@[simp] theorem ty115e_by : ty115e.bytes = 56 := rfl
theorem leaf123 : LeafOk Tryz.prog 123 [.int .i64, .int .i64, .string] := LeafOk.of (n := 9) TB_ok rfl (by decide) (by kernel_rfl) (by kernel_rfl)
def ty123e : TI := { ty123 with leaf := some [.int .i64, .int .i64, .string] }
@[simp] theorem ty123e_by : ty123e.bytes = 32 := rfl
theorem leaf124 : LeafOk Tryz.prog 124 [.int .i64, .int .i64, .string] := LeafOk.of (n := 9) TB_ok rfl (by decide) (by kernel_rfl) (by kernel_rfl)
def ty124e : TI := { ty124 with leaf := some [.int .i64, .int .i64, .string] }
@[simp] theorem ty124e_by : ty124e.bytes = 32 := rfl
theorem leaf131 : LeafOk Tryz.prog 131 [.int .i64, .int .i64] := LeafOk.of (n := 9) TB_ok rfl (by decide) (by kernel_rfl) (by kernel_rfl)
def ty131e : TI := { ty131 with leaf := some [.int .i64, .int .i64] }
@[simp] theorem ty131e_by : ty131e.bytes = 16 := rfl
theorem leaf132 : LeafOk Tryz.prog 132 [.int .i64, .int .i64] := LeafOk.of (n := 9) TB_ok rfl (by decide) (by kernel_rfl) (by kernel_rfl)
def ty132e : TI := { ty132 with leaf := some [.int .i64, .int .i64] }
@[simp] theorem ty132e_by : ty132e.bytes = 16 := rfl
def TT : TE := [(53, ty53e), (54, ty54e), (72, ty72e), (73, ty73e), (105, ty105e), (106, ty106e), (112, ty112e), (113, ty113e), (114, ty114e), (115, ty115e), (123, ty123e), (124, ty124e), (131, ty131e), (132, ty132e), (1, ty1), (2, ty2), (3, ty3), (4, ty4), (5, ty5), (9, ty9), (22, ty22), (23, ty23), (24, ty24), (25, ty25), (26, ty26), (27, ty27), (28, ty28), (32, ty32), (35, ty35), (38, ty38), (39, ty39), (42, ty42), (43, ty43), (44, ty44), (45, ty45), (52, ty52), (53, ty53), (54, ty54), (55, ty55), (56, ty56), (57, ty57), (58, ty58), (59, ty59), (60, ty60), (64, ty64), (66, ty66), (68, ty68), (69, ty69), (70, ty70), (72, ty72), (73, ty73), (74, ty74), (75, ty75), (77, ty77), (81, ty81), (82, ty82), (89, ty89), (95, ty95), (97, ty97), (98, ty98), (101, ty101), (103, ty103), (104, ty104), (105, ty105), (106, ty106), (111, ty111), (112, ty112), (113, ty113), (114, ty114), (115, ty115), (119, ty119), (123, ty123), (124, ty124), (131, ty131), (132, ty132), (135, ty135), (140, ty140), (141, ty141), (142, ty142), (144, ty144), (148, ty148), (149, ty149), (150, ty150), (160, ty160), (161, ty161), (164, ty164), (168, ty168), (169, ty169), (172, ty172), (178, ty178), (186, ty186), (205, ty205), (225, ty225), (226, ty226), (263, ty263)]
theorem TT_ok : TOk Tryz.prog TT := TOk.leaf TB_ok (TOk.leaf TB_ok (TOk.leaf TB_ok (TOk.leaf TB_ok (TOk.leaf TB_ok (TOk.leaf TB_ok (TOk.leaf TB_ok (TOk.leaf TB_ok (TOk.leaf TB_ok (TOk.leaf TB_ok (TOk.leaf TB_ok (TOk.leaf TB_ok (TOk.leaf TB_ok (TOk.leaf TB_ok (TB_ok) (ti := ty132) rfl leaf132) (ti := ty131) rfl leaf131) (ti := ty124) rfl leaf124) (ti := ty123) rfl leaf123) (ti := ty115) rfl leaf115) (ti := ty114) rfl leaf114) (ti := ty113) rfl leaf113) (ti := ty112) rfl leaf112) (ti := ty106) rfl leaf106) (ti := ty105) rfl leaf105) (ti := ty73) rfl leaf73) (ti := ty72) rfl leaf72) (ti := ty54) rfl leaf54) (ti := ty53) rfl leaf53
end Go.Proofs.YtlcfoelfcnhenaaGreatDoor
