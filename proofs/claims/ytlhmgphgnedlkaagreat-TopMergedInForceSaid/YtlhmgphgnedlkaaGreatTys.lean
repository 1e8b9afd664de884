/- The engine's table of this seat's types, and that the program's own agrees: written by gentys.py. -/
import Derived.Test.YtlhmgphgnedlkaaGreatZz9
import Derived.Test.YtlhmgphgnedlkaaGreatChecked
set_option linter.unusedSimpArgs false
set_option linter.unusedVariables false
namespace Go.Proofs.YtlhmgphgnedlkaaGreat
open Go.Eng
def ty2 : TI := { kind := .int .i64, size := 1, bytes := 8, zero := [.int .i64 0], leaf := none }
@[simp] theorem ty2_by : ty2.bytes = 8 := rfl
def ty3 : TI := { kind := .int .i64, size := 1, bytes := 8, zero := [.int .i64 0], leaf := none }
@[simp] theorem ty3_by : ty3.bytes = 8 := rfl
def ty4 : TI := { kind := .bool, size := 1, bytes := 1, zero := [.bool false], leaf := none }
@[simp] theorem ty4_by : ty4.bytes = 1 := rfl
def ty5 : TI := { kind := .int .u8, size := 1, bytes := 1, zero := [.int .u8 0], leaf := none }
@[simp] theorem ty5_by : ty5.bytes = 1 := rfl
def ty9 : TI := { kind := .string, size := 1, bytes := 16, zero := [.string { data := #[] }], leaf := none }
@[simp] theorem ty9_by : ty9.bytes = 16 := rfl
def ty22 : TI := { kind := .slice 3, size := 1, bytes := 24, zero := [.slice none 0 0], leaf := none }
@[simp] theorem ty22_by : ty22.bytes = 24 := rfl
def ty23 : TI := { kind := .slice 99, size := 1, bytes := 24, zero := [.slice none 0 0], leaf := none }
@[simp] theorem ty23_by : ty23.bytes = 24 := rfl
def ty24 : TI := { kind := .slice 102, size := 1, bytes := 24, zero := [.slice none 0 0], leaf := none }
@[simp] theorem ty24_by : ty24.bytes = 24 := rfl
def ty25 : TI := { kind := .slice 48, size := 1, bytes := 24, zero := [.slice none 0 0], leaf := none }
@[simp] theorem ty25_by : ty25.bytes = 24 := rfl
def ty26 : TI := { kind := .struct [(0, 1), (1, 1), (2, 1), (3, 1), (4, 1), (5, 1), (6, 1)] [3, 22, 23, 24, 25, 3, 22], size := 7, bytes := 136, zero := [.int .i64 0, .slice none 0 0, .slice none 0 0, .slice none 0 0, .slice none 0 0, .int .i64 0, .slice none 0 0], leaf := none }
@[simp] theorem ty26_by : ty26.bytes = 136 := rfl
def ty27 : TI := { kind := .struct [(0, 1), (1, 1), (2, 1), (3, 1), (4, 1), (5, 1), (6, 1)] [3, 22, 23, 24, 25, 3, 22], size := 7, bytes := 136, zero := [.int .i64 0, .slice none 0 0, .slice none 0 0, .slice none 0 0, .slice none 0 0, .int .i64 0, .slice none 0 0], leaf := none }
@[simp] theorem ty27_by : ty27.bytes = 136 := rfl
def ty28 : TI := { kind := .slice 50, size := 1, bytes := 24, zero := [.slice none 0 0], leaf := none }
@[simp] theorem ty28_by : ty28.bytes = 24 := rfl
def ty31 : TI := { kind := .array 2 3, size := 2, bytes := 16, zero := [.int .i64 0, .int .i64 0], leaf := none }
@[simp] theorem ty31_by : ty31.bytes = 16 := rfl
def ty32 : TI := { kind := .int .i64, size := 1, bytes := 8, zero := [.int .i64 0], leaf := none }
@[simp] theorem ty32_by : ty32.bytes = 8 := rfl
def ty35 : TI := { kind := .slice 41, size := 1, bytes := 24, zero := [.slice none 0 0], leaf := none }
@[simp] theorem ty35_by : ty35.bytes = 24 := rfl
def ty38 : TI := { kind := .slice 4, size := 1, bytes := 24, zero := [.slice none 0 0], leaf := none }
@[simp] theorem ty38_by : ty38.bytes = 24 := rfl
def ty39 : TI := { kind := .slice 56, size := 1, bytes := 24, zero := [.slice none 0 0], leaf := none }
@[simp] theorem ty39_by : ty39.bytes = 24 := rfl
def ty40 : TI := { kind := .struct [(0, 1), (1, 1), (2, 1), (3, 1)] [3, 22, 38, 39], size := 4, bytes := 80, zero := [.int .i64 0, .slice none 0 0, .slice none 0 0, .slice none 0 0], leaf := none }
@[simp] theorem ty40_by : ty40.bytes = 80 := rfl
def ty41 : TI := { kind := .struct [(0, 1), (1, 1), (2, 1), (3, 1)] [3, 22, 38, 39], size := 4, bytes := 80, zero := [.int .i64 0, .slice none 0 0, .slice none 0 0, .slice none 0 0], leaf := none }
@[simp] theorem ty41_by : ty41.bytes = 80 := rfl
def ty44 : TI := { kind := .slice 130, size := 1, bytes := 24, zero := [.slice none 0 0], leaf := none }
@[simp] theorem ty44_by : ty44.bytes = 24 := rfl
def ty45 : TI := { kind := .struct [(0, 1), (1, 1)] [3, 3], size := 2, bytes := 16, zero := [.int .i64 0, .int .i64 0], leaf := none }
@[simp] theorem ty45_by : ty45.bytes = 16 := rfl
def ty46 : TI := { kind := .struct [(0, 1), (1, 1)] [3, 3], size := 2, bytes := 16, zero := [.int .i64 0, .int .i64 0], leaf := none }
@[simp] theorem ty46_by : ty46.bytes = 16 := rfl
def ty47 : TI := { kind := .struct [(0, 1), (1, 1), (2, 1), (3, 1), (4, 1), (5, 1), (6, 1), (7, 1), (8, 1), (9, 1), (10, 1), (11, 2), (13, 1), (14, 1), (15, 1)] [3, 3, 3, 3, 44, 3, 3, 4, 4, 3, 3, 46, 3, 3, 4], size := 16, bytes := 136, zero := [.int .i64 0, .int .i64 0, .int .i64 0, .int .i64 0, .slice none 0 0, .int .i64 0, .int .i64 0, .bool false, .bool false, .int .i64 0, .int .i64 0, .int .i64 0, .int .i64 0, .int .i64 0, .int .i64 0, .bool false], leaf := none }
@[simp] theorem ty47_by : ty47.bytes = 136 := rfl
def ty48 : TI := { kind := .struct [(0, 1), (1, 1), (2, 1), (3, 1), (4, 1), (5, 1), (6, 1), (7, 1), (8, 1), (9, 1), (10, 1), (11, 2), (13, 1), (14, 1), (15, 1)] [3, 3, 3, 3, 44, 3, 3, 4, 4, 3, 3, 46, 3, 3, 4], size := 16, bytes := 136, zero := [.int .i64 0, .int .i64 0, .int .i64 0, .int .i64 0, .slice none 0 0, .int .i64 0, .int .i64 0, .bool false, .bool false, .int .i64 0, .int .i64 0, .int .i64 0, .int .i64 0, .int .i64 0, .int .i64 0, .bool false], leaf := none }
@[simp] theorem ty48_by : ty48.bytes = 136 := rfl
def ty49 : TI := { kind := .struct [(0, 1), (1, 1), (2, 16), (18, 1)] [3, 22, 48, 3], size := 19, bytes := 176, zero := [.int .i64 0, .slice none 0 0, .int .i64 0, .int .i64 0, .int .i64 0, .int .i64 0, .slice none 0 0, .int .i64 0, .int .i64 0, .bool false, .bool false, .int .i64 0, .int .i64 0, .int .i64 0, .int .i64 0, .int .i64 0, .int .i64 0, .bool false, .int .i64 0], leaf := none }
@[simp] theorem ty49_by : ty49.bytes = 176 := rfl
def ty50 : TI := { kind := .struct [(0, 1), (1, 1), (2, 16), (18, 1)] [3, 22, 48, 3], size := 19, bytes := 176, zero := [.int .i64 0, .slice none 0 0, .int .i64 0, .int .i64 0, .int .i64 0, .int .i64 0, .slice none 0 0, .int .i64 0, .int .i64 0, .bool false, .bool false, .int .i64 0, .int .i64 0, .int .i64 0, .int .i64 0, .int .i64 0, .int .i64 0, .bool false, .int .i64 0], leaf := none }
@[simp] theorem ty50_by : ty50.bytes = 176 := rfl
def ty55 : TI := { kind := .struct [(0, 1), (1, 1), (2, 1), (3, 1), (4, 1)] [3, 3, 3, 3, 4], size := 5, bytes := 40, zero := [.int .i64 0, .int .i64 0, .int .i64 0, .int .i64 0, .bool false], leaf := none }
@[simp] theorem ty55_by : ty55.bytes = 40 := rfl
def ty56 : TI := { kind := .struct [(0, 1), (1, 1), (2, 1), (3, 1), (4, 1)] [3, 3, 3, 3, 4], size := 5, bytes := 40, zero := [.int .i64 0, .int .i64 0, .int .i64 0, .int .i64 0, .bool false], leaf := none }
@[simp] theorem ty56_by : ty56.bytes = 40 := rfl
def ty61 : TI := { kind := .slice 46, size := 1, bytes := 24, zero := [.slice none 0 0], leaf := none }
@[simp] theorem ty61_by : ty61.bytes = 24 := rfl
def ty65 : TI := { kind := .slice 68, size := 1, bytes := 24, zero := [.slice none 0 0], leaf := none }
@[simp] theorem ty65_by : ty65.bytes = 24 := rfl
def ty67 : TI := { kind := .struct [(0, 1), (1, 1), (2, 1), (3, 19)] [3, 3, 3, 50], size := 22, bytes := 200, zero := [.int .i64 0, .int .i64 0, .int .i64 0, .int .i64 0, .slice none 0 0, .int .i64 0, .int .i64 0, .int .i64 0, .int .i64 0, .slice none 0 0, .int .i64 0, .int .i64 0, .bool false, .bool false, .int .i64 0, .int .i64 0, .int .i64 0, .int .i64 0, .int .i64 0, .int .i64 0, .bool false, .int .i64 0], leaf := none }
@[simp] theorem ty67_by : ty67.bytes = 200 := rfl
def ty68 : TI := { kind := .struct [(0, 1), (1, 1), (2, 1), (3, 19)] [3, 3, 3, 50], size := 22, bytes := 200, zero := [.int .i64 0, .int .i64 0, .int .i64 0, .int .i64 0, .slice none 0 0, .int .i64 0, .int .i64 0, .int .i64 0, .int .i64 0, .slice none 0 0, .int .i64 0, .int .i64 0, .bool false, .bool false, .int .i64 0, .int .i64 0, .int .i64 0, .int .i64 0, .int .i64 0, .int .i64 0, .bool false, .int .i64 0], leaf := none }
@[simp] theorem ty68_by : ty68.bytes = 200 := rfl
def ty71 : TI := { kind := .slice 27, size := 1, bytes := 24, zero := [.slice none 0 0], leaf := none }
@[simp] theorem ty71_by : ty71.bytes = 24 := rfl
def ty81 : TI := { kind := .array 2 28, size := 2, bytes := 48, zero := [.slice none 0 0, .slice none 0 0], leaf := none }
@[simp] theorem ty81_by : ty81.bytes = 48 := rfl
def ty88 : TI := { kind := .other, size := 1, bytes := 8, zero := [.nilFunc], leaf := none }
@[simp] theorem ty88_by : ty88.bytes = 8 := rfl
def ty89 : TI := { kind := .struct [(0, 1), (1, 1), (2, 1), (3, 1), (4, 1)] [3, 3, 4, 4, 88], size := 5, bytes := 32, zero := [.int .i64 0, .int .i64 0, .bool false, .bool false, .nilFunc], leaf := none }
@[simp] theorem ty89_by : ty89.bytes = 32 := rfl
def ty90 : TI := { kind := .struct [(0, 1), (1, 1), (2, 1), (3, 1), (4, 1)] [3, 3, 4, 4, 88], size := 5, bytes := 32, zero := [.int .i64 0, .int .i64 0, .bool false, .bool false, .nilFunc], leaf := none }
@[simp] theorem ty90_by : ty90.bytes = 32 := rfl
def ty92 : TI := { kind := .map 3 90, size := 1, bytes := 8, zero := [.map none], leaf := none }
@[simp] theorem ty92_by : ty92.bytes = 8 := rfl
def ty98 : TI := { kind := .struct [(0, 1), (1, 1), (2, 1), (3, 2)] [9, 3, 3, 46], size := 5, bytes := 48, zero := [.string { data := #[] }, .int .i64 0, .int .i64 0, .int .i64 0, .int .i64 0], leaf := none }
@[simp] theorem ty98_by : ty98.bytes = 48 := rfl
def ty99 : TI := { kind := .struct [(0, 1), (1, 1), (2, 1), (3, 2)] [9, 3, 3, 46], size := 5, bytes := 48, zero := [.string { data := #[] }, .int .i64 0, .int .i64 0, .int .i64 0, .int .i64 0], leaf := none }
@[simp] theorem ty99_by : ty99.bytes = 48 := rfl
def ty101 : TI := { kind := .struct [(0, 1), (1, 1), (2, 1), (3, 1), (4, 1), (5, 2)] [3, 3, 3, 3, 3, 46], size := 7, bytes := 56, zero := [.int .i64 0, .int .i64 0, .int .i64 0, .int .i64 0, .int .i64 0, .int .i64 0, .int .i64 0], leaf := none }
@[simp] theorem ty101_by : ty101.bytes = 56 := rfl
def ty102 : TI := { kind := .struct [(0, 1), (1, 1), (2, 1), (3, 1), (4, 1), (5, 2)] [3, 3, 3, 3, 3, 46], size := 7, bytes := 56, zero := [.int .i64 0, .int .i64 0, .int .i64 0, .int .i64 0, .int .i64 0, .int .i64 0, .int .i64 0], leaf := none }
@[simp] theorem ty102_by : ty102.bytes = 56 := rfl
def ty111 : TI := { kind := .struct [(0, 1), (1, 2)] [3, 46], size := 3, bytes := 24, zero := [.int .i64 0, .int .i64 0, .int .i64 0], leaf := none }
@[simp] theorem ty111_by : ty111.bytes = 24 := rfl
def ty112 : TI := { kind := .struct [(0, 1), (1, 2)] [3, 46], size := 3, bytes := 24, zero := [.int .i64 0, .int .i64 0, .int .i64 0], leaf := none }
@[simp] theorem ty112_by : ty112.bytes = 24 := rfl
def ty113 : TI := { kind := .struct [(0, 3), (3, 1), (4, 1)] [112, 3, 3], size := 5, bytes := 40, zero := [.int .i64 0, .int .i64 0, .int .i64 0, .int .i64 0, .int .i64 0], leaf := none }
@[simp] theorem ty113_by : ty113.bytes = 40 := rfl
def ty114 : TI := { kind := .struct [(0, 3), (3, 1), (4, 1)] [112, 3, 3], size := 5, bytes := 40, zero := [.int .i64 0, .int .i64 0, .int .i64 0, .int .i64 0, .int .i64 0], leaf := none }
@[simp] theorem ty114_by : ty114.bytes = 40 := rfl
def ty115 : TI := { kind := .other, size := 1, bytes := 8, zero := [.nilFunc], leaf := none }
@[simp] theorem ty115_by : ty115.bytes = 8 := rfl
def ty118 : TI := { kind := .other, size := 1, bytes := 8, zero := [.nilFunc], leaf := none }
@[simp] theorem ty118_by : ty118.bytes = 8 := rfl
def ty122 : TI := { kind := .other, size := 1, bytes := 8, zero := [.nilFunc], leaf := none }
@[simp] theorem ty122_by : ty122.bytes = 8 := rfl
def ty124 : TI := { kind := .struct [(0, 7), (7, 4)] [27, 41], size := 11, bytes := 216, zero := [.int .i64 0, .slice none 0 0, .slice none 0 0, .slice none 0 0, .slice none 0 0, .int .i64 0, .slice none 0 0, .int .i64 0, .slice none 0 0, .slice none 0 0, .slice none 0 0], leaf := none }
@[simp] theorem ty124_by : ty124.bytes = 216 := rfl
def ty125 : TI := { kind := .struct [(0, 7), (7, 4)] [27, 41], size := 11, bytes := 216, zero := [.int .i64 0, .slice none 0 0, .slice none 0 0, .slice none 0 0, .slice none 0 0, .int .i64 0, .slice none 0 0, .int .i64 0, .slice none 0 0, .slice none 0 0, .slice none 0 0], leaf := none }
@[simp] theorem ty125_by : ty125.bytes = 216 := rfl
def ty129 : TI := { kind := .struct [(0, 1), (1, 1)] [3, 3], size := 2, bytes := 16, zero := [.int .i64 0, .int .i64 0], leaf := none }
@[simp] theorem ty129_by : ty129.bytes = 16 := rfl
def ty130 : TI := { kind := .struct [(0, 1), (1, 1)] [3, 3], size := 2, bytes := 16, zero := [.int .i64 0, .int .i64 0], leaf := none }
@[simp] theorem ty130_by : ty130.bytes = 16 := rfl
def ty131 : TI := { kind := .other, size := 1, bytes := 8, zero := [.pointer none], leaf := none }
@[simp] theorem ty131_by : ty131.bytes = 8 := rfl
def ty132 : TI := { kind := .struct [(0, 7), (7, 4)] [27, 41], size := 11, bytes := 216, zero := [.int .i64 0, .slice none 0 0, .slice none 0 0, .slice none 0 0, .slice none 0 0, .int .i64 0, .slice none 0 0, .int .i64 0, .slice none 0 0, .slice none 0 0, .slice none 0 0], leaf := none }
@[simp] theorem ty132_by : ty132.bytes = 216 := rfl
def ty133 : TI := { kind := .struct [(0, 7), (7, 4)] [27, 41], size := 11, bytes := 216, zero := [.int .i64 0, .slice none 0 0, .slice none 0 0, .slice none 0 0, .slice none 0 0, .int .i64 0, .slice none 0 0, .int .i64 0, .slice none 0 0, .slice none 0 0, .slice none 0 0], leaf := none }
@[simp] theorem ty133_by : ty133.bytes = 216 := rfl
def ty145 : TI := { kind := .other, size := 1, bytes := 8, zero := [.nilFunc], leaf := none }
@[simp] theorem ty145_by : ty145.bytes = 8 := rfl
def ty150 : TI := { kind := .slice 152, size := 1, bytes := 24, zero := [.slice none 0 0], leaf := none }
@[simp] theorem ty150_by : ty150.bytes = 24 := rfl
def ty151 : TI := { kind := .struct [(0, 22), (22, 1)] [68, 3], size := 23, bytes := 208, zero := [.int .i64 0, .int .i64 0, .int .i64 0, .int .i64 0, .slice none 0 0, .int .i64 0, .int .i64 0, .int .i64 0, .int .i64 0, .slice none 0 0, .int .i64 0, .int .i64 0, .bool false, .bool false, .int .i64 0, .int .i64 0, .int .i64 0, .int .i64 0, .int .i64 0, .int .i64 0, .bool false, .int .i64 0, .int .i64 0], leaf := none }
@[simp] theorem ty151_by : ty151.bytes = 208 := rfl
def ty152 : TI := { kind := .struct [(0, 22), (22, 1)] [68, 3], size := 23, bytes := 208, zero := [.int .i64 0, .int .i64 0, .int .i64 0, .int .i64 0, .slice none 0 0, .int .i64 0, .int .i64 0, .int .i64 0, .int .i64 0, .slice none 0 0, .int .i64 0, .int .i64 0, .bool false, .bool false, .int .i64 0, .int .i64 0, .int .i64 0, .int .i64 0, .int .i64 0, .int .i64 0, .bool false, .int .i64 0, .int .i64 0], leaf := none }
@[simp] theorem ty152_by : ty152.bytes = 208 := rfl
def ty164 : TI := { kind := .other, size := 1, bytes := 8, zero := [.nilFunc], leaf := none }
@[simp] theorem ty164_by : ty164.bytes = 8 := rfl
def ty165 : TI := { kind := .array 5 164, size := 5, bytes := 40, zero := [.nilFunc, .nilFunc, .nilFunc, .nilFunc, .nilFunc], leaf := none }
@[simp] theorem ty165_by : ty165.bytes = 40 := rfl
def ty168 : TI := { kind := .other, size := 1, bytes := 8, zero := [.nilFunc], leaf := none }
@[simp] theorem ty168_by : ty168.bytes = 8 := rfl
def ty180 : TI := { kind := .other, size := 1, bytes := 8, zero := [.nilFunc], leaf := none }
@[simp] theorem ty180_by : ty180.bytes = 8 := rfl
def ty182 : TI := { kind := .other, size := 1, bytes := 8, zero := [.nilFunc], leaf := none }
@[simp] theorem ty182_by : ty182.bytes = 8 := rfl
def ty189 : TI := { kind := .int .u64, size := 1, bytes := 8, zero := [.int .u64 0], leaf := none }
@[simp] theorem ty189_by : ty189.bytes = 8 := rfl
def ty192 : TI := { kind := .slice 99, size := 1, bytes := 24, zero := [.slice none 0 0], leaf := none }
@[simp] theorem ty192_by : ty192.bytes = 24 := rfl
def ty193 : TI := { kind := .other, size := 1, bytes := 8, zero := [.nilFunc], leaf := none }
@[simp] theorem ty193_by : ty193.bytes = 8 := rfl
def ty202 : TI := { kind := .map 3 22, size := 1, bytes := 8, zero := [.map none], leaf := none }
@[simp] theorem ty202_by : ty202.bytes = 8 := rfl
def ty203 : TI := { kind := .slice 234, size := 1, bytes := 24, zero := [.slice none 0 0], leaf := none }
@[simp] theorem ty203_by : ty203.bytes = 24 := rfl
def ty204 : TI := { kind := .slice 223, size := 1, bytes := 24, zero := [.slice none 0 0], leaf := none }
@[simp] theorem ty204_by : ty204.bytes = 24 := rfl
def ty205 : TI := { kind := .struct [(0, 7), (7, 1), (8, 1), (9, 1), (10, 1), (11, 1), (12, 1), (13, 1), (14, 1)] [27, 3, 3, 22, 38, 193, 202, 203, 204], size := 15, bytes := 264, zero := [.int .i64 0, .slice none 0 0, .slice none 0 0, .slice none 0 0, .slice none 0 0, .int .i64 0, .slice none 0 0, .int .i64 0, .int .i64 0, .slice none 0 0, .slice none 0 0, .nilFunc, .map none, .slice none 0 0, .slice none 0 0], leaf := none }
@[simp] theorem ty205_by : ty205.bytes = 264 := rfl
def ty206 : TI := { kind := .struct [(0, 7), (7, 1), (8, 1), (9, 1), (10, 1), (11, 1), (12, 1), (13, 1), (14, 1)] [27, 3, 3, 22, 38, 193, 202, 203, 204], size := 15, bytes := 264, zero := [.int .i64 0, .slice none 0 0, .slice none 0 0, .slice none 0 0, .slice none 0 0, .int .i64 0, .slice none 0 0, .int .i64 0, .int .i64 0, .slice none 0 0, .slice none 0 0, .nilFunc, .map none, .slice none 0 0, .slice none 0 0], leaf := none }
@[simp] theorem ty206_by : ty206.bytes = 264 := rfl
def ty208 : TI := { kind := .int .u64, size := 1, bytes := 8, zero := [.int .u64 0], leaf := none }
@[simp] theorem ty208_by : ty208.bytes = 8 := rfl
def ty211 : TI := { kind := .int .i64, size := 1, bytes := 8, zero := [.int .i64 0], leaf := none }
@[simp] theorem ty211_by : ty211.bytes = 8 := rfl
def ty218 : TI := { kind := .int .u32, size := 1, bytes := 4, zero := [.int .u32 0], leaf := none }
@[simp] theorem ty218_by : ty218.bytes = 4 := rfl
def ty222 : TI := { kind := .struct [(0, 1), (1, 1), (2, 1), (3, 1), (4, 1)] [3, 3, 3, 3, 3], size := 5, bytes := 40, zero := [.int .i64 0, .int .i64 0, .int .i64 0, .int .i64 0, .int .i64 0], leaf := none }
@[simp] theorem ty222_by : ty222.bytes = 40 := rfl
def ty223 : TI := { kind := .struct [(0, 1), (1, 1), (2, 1), (3, 1), (4, 1)] [3, 3, 3, 3, 3], size := 5, bytes := 40, zero := [.int .i64 0, .int .i64 0, .int .i64 0, .int .i64 0, .int .i64 0], leaf := none }
@[simp] theorem ty223_by : ty223.bytes = 40 := rfl
def ty226 : TI := { kind := .int .u64, size := 1, bytes := 8, zero := [.int .u64 0], leaf := none }
@[simp] theorem ty226_by : ty226.bytes = 8 := rfl
def ty232 : TI := { kind := .slice 208, size := 1, bytes := 24, zero := [.slice none 0 0], leaf := none }
@[simp] theorem ty232_by : ty232.bytes = 24 := rfl
def ty233 : TI := { kind := .struct [(0, 1), (1, 1)] [3, 4], size := 2, bytes := 16, zero := [.int .i64 0, .bool false], leaf := none }
@[simp] theorem ty233_by : ty233.bytes = 16 := rfl
def ty234 : TI := { kind := .struct [(0, 1), (1, 1)] [3, 4], size := 2, bytes := 16, zero := [.int .i64 0, .bool false], leaf := none }
@[simp] theorem ty234_by : ty234.bytes = 16 := rfl
def TB : TE := [(2, ty2), (3, ty3), (4, ty4), (5, ty5), (9, ty9), (22, ty22), (23, ty23), (24, ty24), (25, ty25), (26, ty26), (27, ty27), (28, ty28), (31, ty31), (32, ty32), (35, ty35), (38, ty38), (39, ty39), (40, ty40), (41, ty41), (44, ty44), (45, ty45), (46, ty46), (47, ty47), (48, ty48), (49, ty49), (50, ty50), (55, ty55), (56, ty56), (61, ty61), (65, ty65), (67, ty67), (68, ty68), (71, ty71), (81, ty81), (88, ty88), (89, ty89), (90, ty90), (92, ty92), (98, ty98), (99, ty99), (101, ty101), (102, ty102), (111, ty111), (112, ty112), (113, ty113), (114, ty114), (115, ty115), (118, ty118), (122, ty122), (124, ty124), (125, ty125), (129, ty129), (130, ty130), (131, ty131), (132, ty132), (133, ty133), (145, ty145), (150, ty150), (151, ty151), (152, ty152), (164, ty164), (165, ty165), (168, ty168), (180, ty180), (182, ty182), (189, ty189), (192, ty192), (193, ty193), (202, ty202), (203, ty203), (204, ty204), (205, ty205), (206, ty206), (208, ty208), (211, ty211), (218, ty218), (222, ty222), (223, ty223), (226, ty226), (232, ty232), (233, ty233), (234, ty234)]
theorem TB_ok : TOk Tryz.prog TB := TOk.all (by kernel_rfl) (by kernel_rfl) (by kernel_rfl) (by kernel_rfl)
theorem ty22_k : KindOk Tryz.prog 22 ty22.kind := (TB_ok 22 ty22 rfl).kind
theorem ty23_k : KindOk Tryz.prog 23 ty23.kind := (TB_ok 23 ty23 rfl).kind
theorem ty24_k : KindOk Tryz.prog 24 ty24.kind := (TB_ok 24 ty24 rfl).kind
theorem ty25_k : KindOk Tryz.prog 25 ty25.kind := (TB_ok 25 ty25 rfl).kind
theorem ty27_k : KindOk Tryz.prog 27 ty27.kind := (TB_ok 27 ty27 rfl).kind
theorem ty28_k : KindOk Tryz.prog 28 ty28.kind := (TB_ok 28 ty28 rfl).kind
theorem ty44_k : KindOk Tryz.prog 44 ty44.kind := (TB_ok 44 ty44 rfl).kind
theorem ty46_k : KindOk Tryz.prog 46 ty46.kind := (TB_ok 46 ty46 rfl).kind
theorem ty48_k : KindOk Tryz.prog 48 ty48.kind := (TB_ok 48 ty48 rfl).kind
theorem ty50_k : KindOk Tryz.prog 50 ty50.kind := (TB_ok 50 ty50 rfl).kind
theorem ty99_k : KindOk Tryz.prog 99 ty99.kind := (TB_ok 99 ty99 rfl).kind
theorem ty102_k : KindOk Tryz.prog 102 ty102.kind := (TB_ok 102 ty102 rfl).kind
theorem ty130_k : KindOk Tryz.prog 130 ty130.kind := (TB_ok 130 ty130 rfl).kind
theorem leaf45 : LeafOk Tryz.prog 45 [.int .i64, .int .i64] := LeafOk.of (n := 9) TB_ok rfl (by decide) (by kernel_rfl) (by kernel_rfl)
def ty45e : TI := { ty45 with leaf := some [.int .i64, .int .i64] }
@[simp] theorem ty45e_by : ty45e.bytes = 16 := rfl
theorem leaf46 : LeafOk Tryz.prog 46 [.int .i64, .int .i64] := LeafOk.of (n := 9) TB_ok rfl (by decide) (by kernel_rfl) (by kernel_rfl)
def ty46e : TI := { ty46 with leaf := some [.int .i64, .int .i64] }
@[simp] theorem ty46e_by : ty46e.bytes = 16 := rfl
theorem leaf55 : LeafOk Tryz.prog 55 [.int .i64, .int .i64, .int .i64, .int .i64, .bool] := LeafOk.of (n := 9) TB_ok rfl (by decide) (by kernel_rfl) (by kernel_rfl)
def ty55e : TI := { ty55 with leaf := some [.int .i64, .int .i64, .int .i64, .int .i64, .bool] }
@[simp] theorem ty55e_by : ty55e.bytes = 40 := rfl
theorem leaf56 : LeafOk Tryz.prog 56 [.int .i64, .int .i64, .int .i64, .int .i64, .bool] := LeafOk.of (n := 9) TB_ok rfl (by decide) (by kernel_rfl) (by kernel_rfl)
def ty56e : TI := { ty56 with leaf := some [.int .i64, .int .i64, .int .i64, .int .i64, .bool] }
@[simp] theorem ty56e_by : ty56e.bytes = 40 := rfl
theorem leaf98 : LeafOk Tryz.prog 98 [.string, .int .i64, .int .i64, .int .i64, .int .i64] := LeafOk.of (n := 9) TB_ok rfl (by decide) (by kernel_rfl) (by kernel_rfl)
def ty98e : TI := { ty98 with leaf := some [.string, .int .i64, .int .i64, .int .i64, .int .i64] }
@[simp] theorem ty98e_by : ty98e.bytes = 48 := rfl
theorem leaf99 : LeafOk Tryz.prog 99 [.string, .int .i64, .int .i64, .int .i64, .int .i64] := LeafOk.of (n := 9) TB_ok rfl (by decide) (by kernel_rfl) (by kernel_rfl)
def ty99e : TI := { ty99 with leaf := some [.string, .int .i64, .int .i64, .int .i64, .int .i64] }
@[simp] theorem ty99e_by : ty99e.bytes = 48 := rfl
theorem leaf101 : LeafOk Tryz.prog 101 [.int .i64, .int .i64, .int .i64, .int .i64, .int .i64, .int .i64, .int .i64] := LeafOk.of (n := 9) TB_ok rfl (by decide) (by kernel_rfl) (by kernel_rfl)
def ty101e : TI := { ty101 with leaf := some [.int .i64, .int .i64, .int .i64, .int .i64, .int .i64, .int .i64, .int .i64] }
@[simp] theorem ty101e_by : ty101e.bytes = 56 := rfl
theorem leaf102 : LeafOk Tryz.prog 102 [.int .i64, .int .i64, .int .i64, .int .i64, .int .i64, .int .i64, .int .i64] := LeafOk.of (n := 9) TB_ok rfl (by decide) (by kernel_rfl) (by kernel_rfl)
def ty102e : TI := { ty102 with leaf := some [.int .i64, .int .i64, .int .i64, .int .i64, .int .i64, .int .i64, .int .i64] }
@[simp] theorem ty102e_by : ty102e.bytes = 56 := rfl
theorem leaf111 : LeafOk Tryz.prog 111 [.int .i64, .int .i64, .int .i64] := LeafOk.of (n := 9) TB_ok rfl (by decide) (by kernel_rfl) (by kernel_rfl)
def ty111e : TI := { ty111 with leaf := some [.int .i64, .int .i64, .int .i64] }
@[simp] theorem ty111e_by : ty111e.bytes = 24 := rfl
theorem leaf112 : LeafOk Tryz.prog 112 [.int .i64, .int .i64, .int .i64] := LeafOk.of (n := 9) TB_ok rfl (by decide) (by kernel_rfl) (by kernel_rfl)
def ty112e : TI := { ty112 with leaf := some [.int .i64, .int .i64, .int .i64] }
@[simp] theorem ty112e_by : ty112e.bytes = 24 := rfl
theorem leaf113 : LeafOk Tryz.prog 113 [.int .i64, .int .i64, .int .i64, .int .i64, .int .i64] := LeafOk.of (n := 9) TB_ok rfl (by decide) (by kernel_rfl) (by kernel_rfl)
def ty113e : TI := { ty113 with leaf := some [.int .i64, .int .i64, .int .i64, .int .i64, .int .i64] }
@[simp] theorem ty113e_by : ty113e.bytes = 40 := rfl
theorem leaf114 : LeafOk Tryz.prog 114 [.int .i64, .int .i64, .int .i64, .int .i64, .int .i64] := LeafOk.of (n := 9) TB_ok rfl (by decide) (by kernel_rfl) (by kernel_rfl)
def ty114e : TI := { ty114 with leaf := some [.int .i64, .int .i64, .int .i64, .int .i64, .int .i64] }
@[simp] theorem ty114e_by : ty114e.bytes = 40 := rfl
theorem leaf129 : LeafOk Tryz.prog 129 [.int .i64, .int .i64] := LeafOk.of (n := 9) TB_ok rfl (by decide) (by kernel_rfl) (by kernel_rfl)
def ty129e : TI := { ty129 with leaf := some [.int .i64, .int .i64] }
@[simp] theorem ty129e_by : ty129e.bytes = 16 := rfl
theorem leaf130 : LeafOk Tryz.prog 130 [.int .i64, .int .i64] := LeafOk.of (n := 9) TB_ok rfl (by decide) (by kernel_rfl) (by kernel_rfl)
def ty130e : TI := { ty130 with leaf := some [.int .i64, .int .i64] }
@[simp] theorem ty130e_by : ty130e.bytes = 16 := rfl
theorem leaf222 : LeafOk Tryz.prog 222 [.int .i64, .int .i64, .int .i64, .int .i64, .int .i64] := LeafOk.of (n := 9) TB_ok rfl (by decide) (by kernel_rfl) (by kernel_rfl)
def ty222e : TI := { ty222 with leaf := some [.int .i64, .int .i64, .int .i64, .int .i64, .int .i64] }
@[simp] theorem ty222e_by : ty222e.bytes = 40 := rfl
theorem leaf223 : LeafOk Tryz.prog 223 [.int .i64, .int .i64, .int .i64, .int .i64, .int .i64] := LeafOk.of (n := 9) TB_ok rfl (by decide) (by kernel_rfl) (by kernel_rfl)
def ty223e : TI := { ty223 with leaf := some [.int .i64, .int .i64, .int .i64, .int .i64, .int .i64] }
@[simp] theorem ty223e_by : ty223e.bytes = 40 := rfl
theorem leaf233 : LeafOk Tryz.prog 233 [.int .i64, .bool] := LeafOk.of (n := 9) TB_ok rfl (by decide) (by kernel_rfl) (by kernel_rfl)
def ty233e : TI := { ty233 with leaf := some [.int .i64, .bool] }
@[simp] theorem ty233e_by : ty233e.bytes = 16 := rfl
theorem leaf234 : LeafOk Tryz.prog 234 [.int .i64, .bool] := LeafOk.of (n := 9) TB_ok rfl (by decide) (by kernel_rfl) (by kernel_rfl)
def ty234e : TI := { ty234 with leaf := some [.int .i64, .bool] }
@[simp] theorem ty234e_by : ty234e.bytes = 16 := rfl
def TT : TE := [(45, ty45e), (46, ty46e), (55, ty55e), (56, ty56e), (98, ty98e), (99, ty99e), (101, ty101e), (102, ty102e), (111, ty111e), (112, ty112e), (113, ty113e), (114, ty114e), (129, ty129e), (130, ty130e), (222, ty222e), (223, ty223e), (233, ty233e), (234, ty234e), (2, ty2), (3, ty3), (4, ty4), (5, ty5), (9, ty9), (22, ty22), (23, ty23), (24, ty24), (25, ty25), (26, ty26), (27, ty27), (28, ty28), (31, ty31), (32, ty32), (35, ty35), (38, ty38), (39, ty39), (40, ty40), (41, ty41), (44, ty44), (45, ty45), (46, ty46), (47, ty47), (48, ty48), (49, ty49), (50, ty50), (55, ty55), (56, ty56), (61, ty61), (65, ty65), (67, ty67), (68, ty68), (71, ty71), (81, ty81), (88, ty88), (89, ty89), (90, ty90), (92, ty92), (98, ty98), (99, ty99), (101, ty101), (102, ty102), (111, ty111), (112, ty112), (113, ty113), (114, ty114), (115, ty115), (118, ty118), (122, ty122), (124, ty124), (125, ty125), (129, ty129), (130, ty130), (131, ty131), (132, ty132), (133, ty133), (145, ty145), (150, ty150), (151, ty151), (152, ty152), (164, ty164), (165, ty165), (168, ty168), (180, ty180), (182, ty182), (189, ty189), (192, ty192), (193, ty193), (202, ty202), (203, ty203), (204, ty204), (205, ty205), (206, ty206), (208, ty208), (211, ty211), (218, ty218), (222, ty222), (223, ty223), (226, ty226), (232, ty232), (233, ty233), (234, ty234)]
theorem TT_ok : TOk Tryz.prog TT := TOk.leaf TB_ok (TOk.leaf TB_ok (TOk.leaf TB_ok (TOk.leaf TB_ok (TOk.leaf TB_ok (TOk.leaf TB_ok (TOk.leaf TB_ok (TOk.leaf TB_ok (TOk.leaf TB_ok (TOk.leaf TB_ok (TOk.leaf TB_ok (TOk.leaf TB_ok (TOk.leaf TB_ok (TOk.leaf TB_ok (TOk.leaf TB_ok (TOk.leaf TB_ok (TOk.leaf TB_ok (TOk.leaf TB_ok (TB_ok) (ti := ty234) rfl leaf234) (ti := ty233) rfl leaf233) (ti := ty223) rfl leaf223) (ti := ty222) rfl leaf222) (ti := ty130) rfl leaf130) (ti := ty129) rfl leaf129) (ti := ty114) rfl leaf114) (ti := ty113) rfl leaf113) (ti := ty112) rfl leaf112) (ti := ty111) rfl leaf111) (ti := ty102) rfl leaf102) (ti := ty101) rfl leaf101) (ti := ty99) rfl leaf99) (ti := ty98) rfl leaf98) (ti := ty56) rfl leaf56) (ti := ty55) rfl leaf55) (ti := ty46) rfl leaf46) (ti := ty45) rfl leaf45
end Go.Proofs.YtlhmgphgnedlkaaGreat
