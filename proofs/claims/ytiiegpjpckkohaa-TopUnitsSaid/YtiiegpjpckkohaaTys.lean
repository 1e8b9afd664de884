/- The engine's table of this seat's types, and that the program's own agrees: written by gentys.py. -/
import Derived.Test.YtiiegpjpckkohaaP4
import Derived.Test.YtiiegpjpckkohaaChecked
namespace Go.Proofs.Ytiiegpjpckkohaa
open Go.Eng
def ty2 : TI := { kind := .int .i64, size := 1, bytes := 8, zero := [.int .i64 0], leaf := none }
@[simp] theorem ty2_by : ty2.bytes = 8 := rfl
theorem ty2_i : (Try.prog.info? 2).map (fun i => (i.size, i.bytes, i.zero)) = some (1, 8, some (.int .i64 0)) := by kernel_rfl
theorem ty2_k : KindOk Try.prog 2 ty2.kind := show Try.prog.underlying 2 = some (.int .i64) from by kernel_rfl
theorem ty2_ok : TIOk Try.prog 2 ty2 := TIOk.of ty2_i rfl rfl ty2_k (fun ks h => by cases h)
def ty3 : TI := { kind := .int .i64, size := 1, bytes := 8, zero := [.int .i64 0], leaf := none }
@[simp] theorem ty3_by : ty3.bytes = 8 := rfl
theorem ty3_i : (Try.prog.info? 3).map (fun i => (i.size, i.bytes, i.zero)) = some (1, 8, some (.int .i64 0)) := by kernel_rfl
theorem ty3_k : KindOk Try.prog 3 ty3.kind := show Try.prog.underlying 3 = some (.int .i64) from by kernel_rfl
theorem ty3_ok : TIOk Try.prog 3 ty3 := TIOk.of ty3_i rfl rfl ty3_k (fun ks h => by cases h)
def ty4 : TI := { kind := .bool, size := 1, bytes := 1, zero := [.bool false], leaf := none }
@[simp] theorem ty4_by : ty4.bytes = 1 := rfl
theorem ty4_i : (Try.prog.info? 4).map (fun i => (i.size, i.bytes, i.zero)) = some (1, 1, some (.bool false)) := by kernel_rfl
theorem ty4_k : KindOk Try.prog 4 ty4.kind := show Try.prog.underlying 4 = some .bool from by kernel_rfl
theorem ty4_ok : TIOk Try.prog 4 ty4 := TIOk.of ty4_i rfl rfl ty4_k (fun ks h => by cases h)
def ty5 : TI := { kind := .int .u8, size := 1, bytes := 1, zero := [.int .u8 0], leaf := none }
@[simp] theorem ty5_by : ty5.bytes = 1 := rfl
theorem ty5_i : (Try.prog.info? 5).map (fun i => (i.size, i.bytes, i.zero)) = some (1, 1, some (.int .u8 0)) := by kernel_rfl
theorem ty5_k : KindOk Try.prog 5 ty5.kind := show Try.prog.underlying 5 = some (.int .u8) from by kernel_rfl
theorem ty5_ok : TIOk Try.prog 5 ty5 := TIOk.of ty5_i rfl rfl ty5_k (fun ks h => by cases h)
def ty9 : TI := { kind := .string, size := 1, bytes := 16, zero := [.string { data := #[] }], leaf := none }
@[simp] theorem ty9_by : ty9.bytes = 16 := rfl
theorem ty9_i : (Try.prog.info? 9).map (fun i => (i.size, i.bytes, i.zero)) = some (1, 16, some (.string { data := #[] })) := by kernel_rfl
theorem ty9_k : KindOk Try.prog 9 ty9.kind := show Try.prog.underlying 9 = some .string from by kernel_rfl
theorem ty9_ok : TIOk Try.prog 9 ty9 := TIOk.of ty9_i rfl rfl ty9_k (fun ks h => by cases h)
def ty22 : TI := { kind := .slice 3, size := 1, bytes := 24, zero := [.slice none 0 0], leaf := none }
@[simp] theorem ty22_by : ty22.bytes = 24 := rfl
theorem ty22_i : (Try.prog.info? 22).map (fun i => (i.size, i.bytes, i.zero)) = some (1, 24, some (.slice none 0 0)) := by kernel_rfl
theorem ty22_k : KindOk Try.prog 22 ty22.kind := show Try.prog.underlying 22 = some (.slice 3) from by kernel_rfl
theorem ty22_ok : TIOk Try.prog 22 ty22 := TIOk.of ty22_i rfl rfl ty22_k (fun ks h => by cases h)
def ty23 : TI := { kind := .slice 113, size := 1, bytes := 24, zero := [.slice none 0 0], leaf := none }
@[simp] theorem ty23_by : ty23.bytes = 24 := rfl
theorem ty23_i : (Try.prog.info? 23).map (fun i => (i.size, i.bytes, i.zero)) = some (1, 24, some (.slice none 0 0)) := by kernel_rfl
theorem ty23_k : KindOk Try.prog 23 ty23.kind := show Try.prog.underlying 23 = some (.slice 113) from by kernel_rfl
theorem ty23_ok : TIOk Try.prog 23 ty23 := TIOk.of ty23_i rfl rfl ty23_k (fun ks h => by cases h)
def ty24 : TI := { kind := .slice 64, size := 1, bytes := 24, zero := [.slice none 0 0], leaf := none }
@[simp] theorem ty24_by : ty24.bytes = 24 := rfl
theorem ty24_i : (Try.prog.info? 24).map (fun i => (i.size, i.bytes, i.zero)) = some (1, 24, some (.slice none 0 0)) := by kernel_rfl
theorem ty24_k : KindOk Try.prog 24 ty24.kind := show Try.prog.underlying 24 = some (.slice 64) from by kernel_rfl
theorem ty24_ok : TIOk Try.prog 24 ty24 := TIOk.of ty24_i rfl rfl ty24_k (fun ks h => by cases h)
def ty25 : TI := { kind := .slice 86, size := 1, bytes := 24, zero := [.slice none 0 0], leaf := none }
@[simp] theorem ty25_by : ty25.bytes = 24 := rfl
theorem ty25_i : (Try.prog.info? 25).map (fun i => (i.size, i.bytes, i.zero)) = some (1, 24, some (.slice none 0 0)) := by kernel_rfl
theorem ty25_k : KindOk Try.prog 25 ty25.kind := show Try.prog.underlying 25 = some (.slice 86) from by kernel_rfl
theorem ty25_ok : TIOk Try.prog 25 ty25 := TIOk.of ty25_i rfl rfl ty25_k (fun ks h => by cases h)
def ty26 : TI := { kind := .struct [(0, 1), (1, 1), (2, 1), (3, 1), (4, 1), (5, 1), (6, 1)] [3, 22, 23, 24, 25, 3, 22], size := 7, bytes := 136, zero := [.int .i64 0, .slice none 0 0, .slice none 0 0, .slice none 0 0, .slice none 0 0, .int .i64 0, .slice none 0 0], leaf := none }
@[simp] theorem ty26_by : ty26.bytes = 136 := rfl
theorem ty26_i : (Try.prog.info? 26).map (fun i => (i.size, i.bytes, i.zero)) = some (7, 136, some (.agg #[.int .i64 0, .slice none 0 0, .slice none 0 0, .slice none 0 0, .slice none 0 0, .int .i64 0, .slice none 0 0])) := by kernel_rfl
theorem ty26_k : KindOk Try.prog 26 ty26.kind := KindOk.struct_of (by kernel_rfl)
theorem ty26_ok : TIOk Try.prog 26 ty26 := TIOk.of ty26_i rfl rfl ty26_k (fun ks h => by cases h)
def ty27 : TI := { kind := .struct [(0, 1), (1, 1), (2, 1), (3, 1), (4, 1), (5, 1), (6, 1)] [3, 22, 23, 24, 25, 3, 22], size := 7, bytes := 136, zero := [.int .i64 0, .slice none 0 0, .slice none 0 0, .slice none 0 0, .slice none 0 0, .int .i64 0, .slice none 0 0], leaf := none }
@[simp] theorem ty27_by : ty27.bytes = 136 := rfl
theorem ty27_i : (Try.prog.info? 27).map (fun i => (i.size, i.bytes, i.zero)) = some (7, 136, some (.agg #[.int .i64 0, .slice none 0 0, .slice none 0 0, .slice none 0 0, .slice none 0 0, .int .i64 0, .slice none 0 0])) := by kernel_rfl
theorem ty27_k : KindOk Try.prog 27 ty27.kind := KindOk.struct_of (by kernel_rfl)
theorem ty27_ok : TIOk Try.prog 27 ty27 := TIOk.of ty27_i rfl rfl ty27_k (fun ks h => by cases h)
def ty28 : TI := { kind := .struct [(0, 1), (1, 1)] [3, 3], size := 2, bytes := 16, zero := [.int .i64 0, .int .i64 0], leaf := none }
@[simp] theorem ty28_by : ty28.bytes = 16 := rfl
theorem ty28_i : (Try.prog.info? 28).map (fun i => (i.size, i.bytes, i.zero)) = some (2, 16, some (.agg #[.int .i64 0, .int .i64 0])) := by kernel_rfl
theorem ty28_k : KindOk Try.prog 28 ty28.kind := KindOk.struct_of (by kernel_rfl)
theorem ty28_ok : TIOk Try.prog 28 ty28 := TIOk.of ty28_i rfl rfl ty28_k (fun ks h => by cases h)
def ty29 : TI := { kind := .struct [(0, 1), (1, 1)] [3, 3], size := 2, bytes := 16, zero := [.int .i64 0, .int .i64 0], leaf := none }
@[simp] theorem ty29_by : ty29.bytes = 16 := rfl
theorem ty29_i : (Try.prog.info? 29).map (fun i => (i.size, i.bytes, i.zero)) = some (2, 16, some (.agg #[.int .i64 0, .int .i64 0])) := by kernel_rfl
theorem ty29_k : KindOk Try.prog 29 ty29.kind := KindOk.struct_of (by kernel_rfl)
theorem ty29_ok : TIOk Try.prog 29 ty29 := TIOk.of ty29_i rfl rfl ty29_k (fun ks h => by cases h)
def ty30 : TI := { kind := .struct [(0, 1), (1, 2), (3, 2)] [3, 29, 29], size := 5, bytes := 40, zero := [.int .i64 0, .int .i64 0, .int .i64 0, .int .i64 0, .int .i64 0], leaf := none }
@[simp] theorem ty30_by : ty30.bytes = 40 := rfl
theorem ty30_i : (Try.prog.info? 30).map (fun i => (i.size, i.bytes, i.zero)) = some (5, 40, some (.agg #[.int .i64 0, .int .i64 0, .int .i64 0, .int .i64 0, .int .i64 0])) := by kernel_rfl
theorem ty30_k : KindOk Try.prog 30 ty30.kind := KindOk.struct_of (by kernel_rfl)
theorem ty30_ok : TIOk Try.prog 30 ty30 := TIOk.of ty30_i rfl rfl ty30_k (fun ks h => by cases h)
def ty31 : TI := { kind := .struct [(0, 1), (1, 2), (3, 2)] [3, 29, 29], size := 5, bytes := 40, zero := [.int .i64 0, .int .i64 0, .int .i64 0, .int .i64 0, .int .i64 0], leaf := none }
@[simp] theorem ty31_by : ty31.bytes = 40 := rfl
theorem ty31_i : (Try.prog.info? 31).map (fun i => (i.size, i.bytes, i.zero)) = some (5, 40, some (.agg #[.int .i64 0, .int .i64 0, .int .i64 0, .int .i64 0, .int .i64 0])) := by kernel_rfl
theorem ty31_k : KindOk Try.prog 31 ty31.kind := KindOk.struct_of (by kernel_rfl)
theorem ty31_ok : TIOk Try.prog 31 ty31 := TIOk.of ty31_i rfl rfl ty31_k (fun ks h => by cases h)
def ty34 : TI := { kind := .slice 83, size := 1, bytes := 24, zero := [.slice none 0 0], leaf := none }
@[simp] theorem ty34_by : ty34.bytes = 24 := rfl
theorem ty34_i : (Try.prog.info? 34).map (fun i => (i.size, i.bytes, i.zero)) = some (1, 24, some (.slice none 0 0)) := by kernel_rfl
theorem ty34_k : KindOk Try.prog 34 ty34.kind := show Try.prog.underlying 34 = some (.slice 83) from by kernel_rfl
theorem ty34_ok : TIOk Try.prog 34 ty34 := TIOk.of ty34_i rfl rfl ty34_k (fun ks h => by cases h)
def ty38 : TI := { kind := .int .i64, size := 1, bytes := 8, zero := [.int .i64 0], leaf := none }
@[simp] theorem ty38_by : ty38.bytes = 8 := rfl
theorem ty38_i : (Try.prog.info? 38).map (fun i => (i.size, i.bytes, i.zero)) = some (1, 8, some (.int .i64 0)) := by kernel_rfl
theorem ty38_k : KindOk Try.prog 38 ty38.kind := show Try.prog.underlying 38 = some (.int .i64) from by kernel_rfl
theorem ty38_ok : TIOk Try.prog 38 ty38 := TIOk.of ty38_i rfl rfl ty38_k (fun ks h => by cases h)
def ty41 : TI := { kind := .slice 29, size := 1, bytes := 24, zero := [.slice none 0 0], leaf := none }
@[simp] theorem ty41_by : ty41.bytes = 24 := rfl
theorem ty41_i : (Try.prog.info? 41).map (fun i => (i.size, i.bytes, i.zero)) = some (1, 24, some (.slice none 0 0)) := by kernel_rfl
theorem ty41_k : KindOk Try.prog 41 ty41.kind := show Try.prog.underlying 41 = some (.slice 29) from by kernel_rfl
theorem ty41_ok : TIOk Try.prog 41 ty41 := TIOk.of ty41_i rfl rfl ty41_k (fun ks h => by cases h)
def ty44 : TI := { kind := .struct [(0, 1), (1, 2)] [3, 29], size := 3, bytes := 24, zero := [.int .i64 0, .int .i64 0, .int .i64 0], leaf := none }
@[simp] theorem ty44_by : ty44.bytes = 24 := rfl
theorem ty44_i : (Try.prog.info? 44).map (fun i => (i.size, i.bytes, i.zero)) = some (3, 24, some (.agg #[.int .i64 0, .int .i64 0, .int .i64 0])) := by kernel_rfl
theorem ty44_k : KindOk Try.prog 44 ty44.kind := KindOk.struct_of (by kernel_rfl)
theorem ty44_ok : TIOk Try.prog 44 ty44 := TIOk.of ty44_i rfl rfl ty44_k (fun ks h => by cases h)
def ty45 : TI := { kind := .struct [(0, 1), (1, 2)] [3, 29], size := 3, bytes := 24, zero := [.int .i64 0, .int .i64 0, .int .i64 0], leaf := none }
@[simp] theorem ty45_by : ty45.bytes = 24 := rfl
theorem ty45_i : (Try.prog.info? 45).map (fun i => (i.size, i.bytes, i.zero)) = some (3, 24, some (.agg #[.int .i64 0, .int .i64 0, .int .i64 0])) := by kernel_rfl
theorem ty45_k : KindOk Try.prog 45 ty45.kind := KindOk.struct_of (by kernel_rfl)
theorem ty45_ok : TIOk Try.prog 45 ty45 := TIOk.of ty45_i rfl rfl ty45_k (fun ks h => by cases h)
def ty56 : TI := { kind := .slice 71, size := 1, bytes := 24, zero := [.slice none 0 0], leaf := none }
@[simp] theorem ty56_by : ty56.bytes = 24 := rfl
theorem ty56_i : (Try.prog.info? 56).map (fun i => (i.size, i.bytes, i.zero)) = some (1, 24, some (.slice none 0 0)) := by kernel_rfl
theorem ty56_k : KindOk Try.prog 56 ty56.kind := show Try.prog.underlying 56 = some (.slice 71) from by kernel_rfl
theorem ty56_ok : TIOk Try.prog 56 ty56 := TIOk.of ty56_i rfl rfl ty56_k (fun ks h => by cases h)
def ty63 : TI := { kind := .struct [(0, 1), (1, 1), (2, 1), (3, 1), (4, 1), (5, 2)] [3, 3, 3, 3, 3, 29], size := 7, bytes := 56, zero := [.int .i64 0, .int .i64 0, .int .i64 0, .int .i64 0, .int .i64 0, .int .i64 0, .int .i64 0], leaf := none }
@[simp] theorem ty63_by : ty63.bytes = 56 := rfl
theorem ty63_i : (Try.prog.info? 63).map (fun i => (i.size, i.bytes, i.zero)) = some (7, 56, some (.agg #[.int .i64 0, .int .i64 0, .int .i64 0, .int .i64 0, .int .i64 0, .int .i64 0, .int .i64 0])) := by kernel_rfl
theorem ty63_k : KindOk Try.prog 63 ty63.kind := KindOk.struct_of (by kernel_rfl)
theorem ty63_ok : TIOk Try.prog 63 ty63 := TIOk.of ty63_i rfl rfl ty63_k (fun ks h => by cases h)
def ty64 : TI := { kind := .struct [(0, 1), (1, 1), (2, 1), (3, 1), (4, 1), (5, 2)] [3, 3, 3, 3, 3, 29], size := 7, bytes := 56, zero := [.int .i64 0, .int .i64 0, .int .i64 0, .int .i64 0, .int .i64 0, .int .i64 0, .int .i64 0], leaf := none }
@[simp] theorem ty64_by : ty64.bytes = 56 := rfl
theorem ty64_i : (Try.prog.info? 64).map (fun i => (i.size, i.bytes, i.zero)) = some (7, 56, some (.agg #[.int .i64 0, .int .i64 0, .int .i64 0, .int .i64 0, .int .i64 0, .int .i64 0, .int .i64 0])) := by kernel_rfl
theorem ty64_k : KindOk Try.prog 64 ty64.kind := KindOk.struct_of (by kernel_rfl)
theorem ty64_ok : TIOk Try.prog 64 ty64 := TIOk.of ty64_i rfl rfl ty64_k (fun ks h => by cases h)
def ty70 : TI := { kind := .struct [(0, 1), (1, 1), (2, 1), (3, 1), (4, 1)] [3, 3, 3, 3, 3], size := 5, bytes := 40, zero := [.int .i64 0, .int .i64 0, .int .i64 0, .int .i64 0, .int .i64 0], leaf := none }
@[simp] theorem ty70_by : ty70.bytes = 40 := rfl
theorem ty70_i : (Try.prog.info? 70).map (fun i => (i.size, i.bytes, i.zero)) = some (5, 40, some (.agg #[.int .i64 0, .int .i64 0, .int .i64 0, .int .i64 0, .int .i64 0])) := by kernel_rfl
theorem ty70_k : KindOk Try.prog 70 ty70.kind := KindOk.struct_of (by kernel_rfl)
theorem ty70_ok : TIOk Try.prog 70 ty70 := TIOk.of ty70_i rfl rfl ty70_k (fun ks h => by cases h)
def ty71 : TI := { kind := .struct [(0, 1), (1, 1), (2, 1), (3, 1), (4, 1)] [3, 3, 3, 3, 3], size := 5, bytes := 40, zero := [.int .i64 0, .int .i64 0, .int .i64 0, .int .i64 0, .int .i64 0], leaf := none }
@[simp] theorem ty71_by : ty71.bytes = 40 := rfl
theorem ty71_i : (Try.prog.info? 71).map (fun i => (i.size, i.bytes, i.zero)) = some (5, 40, some (.agg #[.int .i64 0, .int .i64 0, .int .i64 0, .int .i64 0, .int .i64 0])) := by kernel_rfl
theorem ty71_k : KindOk Try.prog 71 ty71.kind := KindOk.struct_of (by kernel_rfl)
theorem ty71_ok : TIOk Try.prog 71 ty71 := TIOk.of ty71_i rfl rfl ty71_k (fun ks h => by cases h)
def ty73 : TI := { kind := .int .u16, size := 1, bytes := 2, zero := [.int .u16 0], leaf := none }
@[simp] theorem ty73_by : ty73.bytes = 2 := rfl
theorem ty73_i : (Try.prog.info? 73).map (fun i => (i.size, i.bytes, i.zero)) = some (1, 2, some (.int .u16 0)) := by kernel_rfl
theorem ty73_k : KindOk Try.prog 73 ty73.kind := show Try.prog.underlying 73 = some (.int .u16) from by kernel_rfl
theorem ty73_ok : TIOk Try.prog 73 ty73 := TIOk.of ty73_i rfl rfl ty73_k (fun ks h => by cases h)
def ty82 : TI := { kind := .struct [(0, 1), (1, 1), (2, 2)] [3, 3, 29], size := 4, bytes := 32, zero := [.int .i64 0, .int .i64 0, .int .i64 0, .int .i64 0], leaf := none }
@[simp] theorem ty82_by : ty82.bytes = 32 := rfl
theorem ty82_i : (Try.prog.info? 82).map (fun i => (i.size, i.bytes, i.zero)) = some (4, 32, some (.agg #[.int .i64 0, .int .i64 0, .int .i64 0, .int .i64 0])) := by kernel_rfl
theorem ty82_k : KindOk Try.prog 82 ty82.kind := KindOk.struct_of (by kernel_rfl)
theorem ty82_ok : TIOk Try.prog 82 ty82 := TIOk.of ty82_i rfl rfl ty82_k (fun ks h => by cases h)
def ty83 : TI := { kind := .struct [(0, 1), (1, 1), (2, 2)] [3, 3, 29], size := 4, bytes := 32, zero := [.int .i64 0, .int .i64 0, .int .i64 0, .int .i64 0], leaf := none }
@[simp] theorem ty83_by : ty83.bytes = 32 := rfl
theorem ty83_i : (Try.prog.info? 83).map (fun i => (i.size, i.bytes, i.zero)) = some (4, 32, some (.agg #[.int .i64 0, .int .i64 0, .int .i64 0, .int .i64 0])) := by kernel_rfl
theorem ty83_k : KindOk Try.prog 83 ty83.kind := KindOk.struct_of (by kernel_rfl)
theorem ty83_ok : TIOk Try.prog 83 ty83 := TIOk.of ty83_i rfl rfl ty83_k (fun ks h => by cases h)
def ty84 : TI := { kind := .slice 160, size := 1, bytes := 24, zero := [.slice none 0 0], leaf := none }
@[simp] theorem ty84_by : ty84.bytes = 24 := rfl
theorem ty84_i : (Try.prog.info? 84).map (fun i => (i.size, i.bytes, i.zero)) = some (1, 24, some (.slice none 0 0)) := by kernel_rfl
theorem ty84_k : KindOk Try.prog 84 ty84.kind := show Try.prog.underlying 84 = some (.slice 160) from by kernel_rfl
theorem ty84_ok : TIOk Try.prog 84 ty84 := TIOk.of ty84_i rfl rfl ty84_k (fun ks h => by cases h)
def ty85 : TI := { kind := .struct [(0, 1), (1, 1), (2, 1), (3, 1), (4, 1), (5, 1), (6, 1), (7, 1), (8, 1), (9, 1), (10, 1), (11, 2), (13, 1), (14, 1), (15, 1)] [3, 3, 3, 3, 84, 3, 3, 4, 4, 3, 3, 29, 3, 3, 4], size := 16, bytes := 136, zero := [.int .i64 0, .int .i64 0, .int .i64 0, .int .i64 0, .slice none 0 0, .int .i64 0, .int .i64 0, .bool false, .bool false, .int .i64 0, .int .i64 0, .int .i64 0, .int .i64 0, .int .i64 0, .int .i64 0, .bool false], leaf := none }
@[simp] theorem ty85_by : ty85.bytes = 136 := rfl
theorem ty85_i : (Try.prog.info? 85).map (fun i => (i.size, i.bytes, i.zero)) = some (16, 136, some (.agg #[.int .i64 0, .int .i64 0, .int .i64 0, .int .i64 0, .slice none 0 0, .int .i64 0, .int .i64 0, .bool false, .bool false, .int .i64 0, .int .i64 0, .int .i64 0, .int .i64 0, .int .i64 0, .int .i64 0, .bool false])) := by kernel_rfl
theorem ty85_k : KindOk Try.prog 85 ty85.kind := KindOk.struct_of (by kernel_rfl)
theorem ty85_ok : TIOk Try.prog 85 ty85 := TIOk.of ty85_i rfl rfl ty85_k (fun ks h => by cases h)
def ty86 : TI := { kind := .struct [(0, 1), (1, 1), (2, 1), (3, 1), (4, 1), (5, 1), (6, 1), (7, 1), (8, 1), (9, 1), (10, 1), (11, 2), (13, 1), (14, 1), (15, 1)] [3, 3, 3, 3, 84, 3, 3, 4, 4, 3, 3, 29, 3, 3, 4], size := 16, bytes := 136, zero := [.int .i64 0, .int .i64 0, .int .i64 0, .int .i64 0, .slice none 0 0, .int .i64 0, .int .i64 0, .bool false, .bool false, .int .i64 0, .int .i64 0, .int .i64 0, .int .i64 0, .int .i64 0, .int .i64 0, .bool false], leaf := none }
@[simp] theorem ty86_by : ty86.bytes = 136 := rfl
theorem ty86_i : (Try.prog.info? 86).map (fun i => (i.size, i.bytes, i.zero)) = some (16, 136, some (.agg #[.int .i64 0, .int .i64 0, .int .i64 0, .int .i64 0, .slice none 0 0, .int .i64 0, .int .i64 0, .bool false, .bool false, .int .i64 0, .int .i64 0, .int .i64 0, .int .i64 0, .int .i64 0, .int .i64 0, .bool false])) := by kernel_rfl
theorem ty86_k : KindOk Try.prog 86 ty86.kind := KindOk.struct_of (by kernel_rfl)
theorem ty86_ok : TIOk Try.prog 86 ty86 := TIOk.of ty86_i rfl rfl ty86_k (fun ks h => by cases h)
def ty88 : TI := { kind := .array 12 29, size := 24, bytes := 192, zero := [.int .i64 0, .int .i64 0, .int .i64 0, .int .i64 0, .int .i64 0, .int .i64 0, .int .i64 0, .int .i64 0, .int .i64 0, .int .i64 0, .int .i64 0, .int .i64 0, .int .i64 0, .int .i64 0, .int .i64 0, .int .i64 0, .int .i64 0, .int .i64 0, .int .i64 0, .int .i64 0, .int .i64 0, .int .i64 0, .int .i64 0, .int .i64 0], leaf := none }
@[simp] theorem ty88_by : ty88.bytes = 192 := rfl
theorem ty88_i : (Try.prog.info? 88).map (fun i => (i.size, i.bytes, i.zero)) = some (24, 192, some (.agg #[.int .i64 0, .int .i64 0, .int .i64 0, .int .i64 0, .int .i64 0, .int .i64 0, .int .i64 0, .int .i64 0, .int .i64 0, .int .i64 0, .int .i64 0, .int .i64 0, .int .i64 0, .int .i64 0, .int .i64 0, .int .i64 0, .int .i64 0, .int .i64 0, .int .i64 0, .int .i64 0, .int .i64 0, .int .i64 0, .int .i64 0, .int .i64 0])) := by kernel_rfl
theorem ty88_k : KindOk Try.prog 88 ty88.kind := show Try.prog.underlying 88 = some (.array 12 29) from by kernel_rfl
theorem ty88_ok : TIOk Try.prog 88 ty88 := TIOk.of ty88_i rfl rfl ty88_k (fun ks h => by cases h)
def ty89 : TI := { kind := .array 12 88, size := 288, bytes := 2304, zero := [.int .i64 0, .int .i64 0, .int .i64 0, .int .i64 0, .int .i64 0, .int .i64 0, .int .i64 0, .int .i64 0, .int .i64 0, .int .i64 0, .int .i64 0, .int .i64 0, .int .i64 0, .int .i64 0, .int .i64 0, .int .i64 0, .int .i64 0, .int .i64 0, .int .i64 0, .int .i64 0, .int .i64 0, .int .i64 0, .int .i64 0, .int .i64 0, .int .i64 0, .int .i64 0, .int .i64 0, .int .i64 0, .int .i64 0, .int .i64 0, .int .i64 0, .int .i64 0, .int .i64 0, .int .i64 0, .int .i64 0, .int .i64 0, .int .i64 0, .int .i64 0, .int .i64 0, .int .i64 0, .int .i64 0, .int .i64 0, .int .i64 0, .int .i64 0, .int .i64 0, .int .i64 0, .int .i64 0, .int .i64 0, .int .i64 0, .int .i64 0, .int .i64 0, .int .i64 0, .int .i64 0, .int .i64 0, .int .i64 0, .int .i64 0, .int .i64 0, .int .i64 0, .int .i64 0, .int .i64 0, .int .i64 0, .int .i64 0, .int .i64 0, .int .i64 0, .int .i64 0, .int .i64 0, .int .i64 0, .int .i64 0, .int .i64 0, .int .i64 0, .int .i64 0, .int .i64 0, .int .i64 0, .int .i64 0, .int .i64 0, .int .i64 0, .int .i64 0, .int .i64 0, .int .i64 0, .int .i64 0, .int .i64 0, .int .i64 0, .int .i64 0, .int .i64 0, .int .i64 0, .int .i64 0, .int .i64 0, .int .i64 0, .int .i64 0, .int .i64 0, .int .i64 0, .int .i64 0, .int .i64 0, .int .i64 0, .int .i64 0, .int .i64 0, .int .i64 0, .int .i64 0, .int .i64 0, .int .i64 0, .int .i64 0, .int .i64 0, .int .i64 0, .int .i64 0, .int .i64 0, .int .i64 0, .int .i64 0, .int .i64 0, .int .i64 0, .int .i64 0, .int .i64 0, .int .i64 0, .int .i64 0, .int .i64 0, .int .i64 0, .int .i64 0, .int .i64 0, .int .i64 0, .int .i64 0, .int .i64 0, .int .i64 0, .int .i64 0, .int .i64 0, .int .i64 0, .int .i64 0, .int .i64 0, .int .i64 0, .int .i64 0, .int .i64 0, .int .i64 0, .int .i64 0, .int .i64 0, .int .i64 0, .int .i64 0, .int .i64 0, .int .i64 0, .int .i64 0, .int .i64 0, .int .i64 0, .int .i64 0, .int .i64 0, .int .i64 0, .int .i64 0, .int .i64 0, .int .i64 0, .int .i64 0, .int .i64 0, .int .i64 0, .int .i64 0, .int .i64 0, .int .i64 0, .int .i64 0, .int .i64 0, .int .i64 0, .int .i64 0, .int .i64 0, .int .i64 0, .int .i64 0, .int .i64 0, .int .i64 0, .int .i64 0, .int .i64 0, .int .i64 0, .int .i64 0, .int .i64 0, .int .i64 0, .int .i64 0, .int .i64 0, .int .i64 0, .int .i64 0, .int .i64 0, .int .i64 0, .int .i64 0, .int .i64 0, .int .i64 0, .int .i64 0, .int .i64 0, .int .i64 0, .int .i64 0, .int .i64 0, .int .i64 0, .int .i64 0, .int .i64 0, .int .i64 0, .int .i64 0, .int .i64 0, .int .i64 0, .int .i64 0, .int .i64 0, .int .i64 0, .int .i64 0, .int .i64 0, .int .i64 0, .int .i64 0, .int .i64 0, .int .i64 0, .int .i64 0, .int .i64 0, .int .i64 0, .int .i64 0, .int .i64 0, .int .i64 0, .int .i64 0, .int .i64 0, .int .i64 0, .int .i64 0, .int .i64 0, .int .i64 0, .int .i64 0, .int .i64 0, .int .i64 0, .int .i64 0, .int .i64 0, .int .i64 0, .int .i64 0, .int .i64 0, .int .i64 0, .int .i64 0, .int .i64 0, .int .i64 0, .int .i64 0, .int .i64 0, .int .i64 0, .int .i64 0, .int .i64 0, .int .i64 0, .int .i64 0, .int .i64 0, .int .i64 0, .int .i64 0, .int .i64 0, .int .i64 0, .int .i64 0, .int .i64 0, .int .i64 0, .int .i64 0, .int .i64 0, .int .i64 0, .int .i64 0, .int .i64 0, .int .i64 0, .int .i64 0, .int .i64 0, .int .i64 0, .int .i64 0, .int .i64 0, .int .i64 0, .int .i64 0, .int .i64 0, .int .i64 0, .int .i64 0, .int .i64 0, .int .i64 0, .int .i64 0, .int .i64 0, .int .i64 0, .int .i64 0, .int .i64 0, .int .i64 0, .int .i64 0, .int .i64 0, .int .i64 0, .int .i64 0, .int .i64 0, .int .i64 0, .int .i64 0, .int .i64 0, .int .i64 0, .int .i64 0, .int .i64 0, .int .i64 0, .int .i64 0, .int .i64 0, .int .i64 0, .int .i64 0, .int .i64 0, .int .i64 0, .int .i64 0, .int .i64 0, .int .i64 0, .int .i64 0, .int .i64 0, .int .i64 0, .int .i64 0, .int .i64 0, .int .i64 0, .int .i64 0, .int .i64 0], leaf := none }
@[simp] theorem ty89_by : ty89.bytes = 2304 := rfl
theorem ty89_i : (Try.prog.info? 89).map (fun i => (i.size, i.bytes, i.zero)) = some (288, 2304, some (.agg #[.int .i64 0, .int .i64 0, .int .i64 0, .int .i64 0, .int .i64 0, .int .i64 0, .int .i64 0, .int .i64 0, .int .i64 0, .int .i64 0, .int .i64 0, .int .i64 0, .int .i64 0, .int .i64 0, .int .i64 0, .int .i64 0, .int .i64 0, .int .i64 0, .int .i64 0, .int .i64 0, .int .i64 0, .int .i64 0, .int .i64 0, .int .i64 0, .int .i64 0, .int .i64 0, .int .i64 0, .int .i64 0, .int .i64 0, .int .i64 0, .int .i64 0, .int .i64 0, .int .i64 0, .int .i64 0, .int .i64 0, .int .i64 0, .int .i64 0, .int .i64 0, .int .i64 0, .int .i64 0, .int .i64 0, .int .i64 0, .int .i64 0, .int .i64 0, .int .i64 0, .int .i64 0, .int .i64 0, .int .i64 0, .int .i64 0, .int .i64 0, .int .i64 0, .int .i64 0, .int .i64 0, .int .i64 0, .int .i64 0, .int .i64 0, .int .i64 0, .int .i64 0, .int .i64 0, .int .i64 0, .int .i64 0, .int .i64 0, .int .i64 0, .int .i64 0, .int .i64 0, .int .i64 0, .int .i64 0, .int .i64 0, .int .i64 0, .int .i64 0, .int .i64 0, .int .i64 0, .int .i64 0, .int .i64 0, .int .i64 0, .int .i64 0, .int .i64 0, .int .i64 0, .int .i64 0, .int .i64 0, .int .i64 0, .int .i64 0, .int .i64 0, .int .i64 0, .int .i64 0, .int .i64 0, .int .i64 0, .int .i64 0, .int .i64 0, .int .i64 0, .int .i64 0, .int .i64 0, .int .i64 0, .int .i64 0, .int .i64 0, .int .i64 0, .int .i64 0, .int .i64 0, .int .i64 0, .int .i64 0, .int .i64 0, .int .i64 0, .int .i64 0, .int .i64 0, .int .i64 0, .int .i64 0, .int .i64 0, .int .i64 0, .int .i64 0, .int .i64 0, .int .i64 0, .int .i64 0, .int .i64 0, .int .i64 0, .int .i64 0, .int .i64 0, .int .i64 0, .int .i64 0, .int .i64 0, .int .i64 0, .int .i64 0, .int .i64 0, .int .i64 0, .int .i64 0, .int .i64 0, .int .i64 0, .int .i64 0, .int .i64 0, .int .i64 0, .int .i64 0, .int .i64 0, .int .i64 0, .int .i64 0, .int .i64 0, .int .i64 0, .int .i64 0, .int .i64 0, .int .i64 0, .int .i64 0, .int .i64 0, .int .i64 0, .int .i64 0, .int .i64 0, .int .i64 0, .int .i64 0, .int .i64 0, .int .i64 0, .int .i64 0, .int .i64 0, .int .i64 0, .int .i64 0, .int .i64 0, .int .i64 0, .int .i64 0, .int .i64 0, .int .i64 0, .int .i64 0, .int .i64 0, .int .i64 0, .int .i64 0, .int .i64 0, .int .i64 0, .int .i64 0, .int .i64 0, .int .i64 0, .int .i64 0, .int .i64 0, .int .i64 0, .int .i64 0, .int .i64 0, .int .i64 0, .int .i64 0, .int .i64 0, .int .i64 0, .int .i64 0, .int .i64 0, .int .i64 0, .int .i64 0, .int .i64 0, .int .i64 0, .int .i64 0, .int .i64 0, .int .i64 0, .int .i64 0, .int .i64 0, .int .i64 0, .int .i64 0, .int .i64 0, .int .i64 0, .int .i64 0, .int .i64 0, .int .i64 0, .int .i64 0, .int .i64 0, .int .i64 0, .int .i64 0, .int .i64 0, .int .i64 0, .int .i64 0, .int .i64 0, .int .i64 0, .int .i64 0, .int .i64 0, .int .i64 0, .int .i64 0, .int .i64 0, .int .i64 0, .int .i64 0, .int .i64 0, .int .i64 0, .int .i64 0, .int .i64 0, .int .i64 0, .int .i64 0, .int .i64 0, .int .i64 0, .int .i64 0, .int .i64 0, .int .i64 0, .int .i64 0, .int .i64 0, .int .i64 0, .int .i64 0, .int .i64 0, .int .i64 0, .int .i64 0, .int .i64 0, .int .i64 0, .int .i64 0, .int .i64 0, .int .i64 0, .int .i64 0, .int .i64 0, .int .i64 0, .int .i64 0, .int .i64 0, .int .i64 0, .int .i64 0, .int .i64 0, .int .i64 0, .int .i64 0, .int .i64 0, .int .i64 0, .int .i64 0, .int .i64 0, .int .i64 0, .int .i64 0, .int .i64 0, .int .i64 0, .int .i64 0, .int .i64 0, .int .i64 0, .int .i64 0, .int .i64 0, .int .i64 0, .int .i64 0, .int .i64 0, .int .i64 0, .int .i64 0, .int .i64 0, .int .i64 0, .int .i64 0, .int .i64 0, .int .i64 0, .int .i64 0, .int .i64 0, .int .i64 0, .int .i64 0, .int .i64 0, .int .i64 0, .int .i64 0, .int .i64 0, .int .i64 0, .int .i64 0, .int .i64 0, .int .i64 0, .int .i64 0, .int .i64 0, .int .i64 0, .int .i64 0, .int .i64 0, .int .i64 0, .int .i64 0, .int .i64 0, .int .i64 0, .int .i64 0, .int .i64 0, .int .i64 0])) := by kernel_rfl
theorem ty89_k : KindOk Try.prog 89 ty89.kind := show Try.prog.underlying 89 = some (.array 12 88) from by kernel_rfl
theorem ty89_ok : TIOk Try.prog 89 ty89 := TIOk.of ty89_i rfl rfl ty89_k (fun ks h => by cases h)
def ty91 : TI := { kind := .other, size := 1, bytes := 8, zero := [.nilFunc], leaf := none }
@[simp] theorem ty91_by : ty91.bytes = 8 := rfl
theorem ty91_i : (Try.prog.info? 91).map (fun i => (i.size, i.bytes, i.zero)) = some (1, 8, some (.nilFunc)) := by kernel_rfl
theorem ty91_k : KindOk Try.prog 91 ty91.kind := KindOk.other_of (by kernel_rfl)
theorem ty91_ok : TIOk Try.prog 91 ty91 := TIOk.of ty91_i rfl rfl ty91_k (fun ks h => by cases h)
def ty97 : TI := { kind := .other, size := 1, bytes := 8, zero := [.nilFunc], leaf := none }
@[simp] theorem ty97_by : ty97.bytes = 8 := rfl
theorem ty97_i : (Try.prog.info? 97).map (fun i => (i.size, i.bytes, i.zero)) = some (1, 8, some (.nilFunc)) := by kernel_rfl
theorem ty97_k : KindOk Try.prog 97 ty97.kind := KindOk.other_of (by kernel_rfl)
theorem ty97_ok : TIOk Try.prog 97 ty97 := TIOk.of ty97_i rfl rfl ty97_k (fun ks h => by cases h)
def ty102 : TI := { kind := .struct [(0, 3), (3, 1)] [45, 3], size := 4, bytes := 32, zero := [.int .i64 0, .int .i64 0, .int .i64 0, .int .i64 0], leaf := none }
@[simp] theorem ty102_by : ty102.bytes = 32 := rfl
theorem ty102_i : (Try.prog.info? 102).map (fun i => (i.size, i.bytes, i.zero)) = some (4, 32, some (.agg #[.int .i64 0, .int .i64 0, .int .i64 0, .int .i64 0])) := by kernel_rfl
theorem ty102_k : KindOk Try.prog 102 ty102.kind := KindOk.struct_of (by kernel_rfl)
theorem ty102_ok : TIOk Try.prog 102 ty102 := TIOk.of ty102_i rfl rfl ty102_k (fun ks h => by cases h)
def ty103 : TI := { kind := .struct [(0, 3), (3, 1)] [45, 3], size := 4, bytes := 32, zero := [.int .i64 0, .int .i64 0, .int .i64 0, .int .i64 0], leaf := none }
@[simp] theorem ty103_by : ty103.bytes = 32 := rfl
theorem ty103_i : (Try.prog.info? 103).map (fun i => (i.size, i.bytes, i.zero)) = some (4, 32, some (.agg #[.int .i64 0, .int .i64 0, .int .i64 0, .int .i64 0])) := by kernel_rfl
theorem ty103_k : KindOk Try.prog 103 ty103.kind := KindOk.struct_of (by kernel_rfl)
theorem ty103_ok : TIOk Try.prog 103 ty103 := TIOk.of ty103_i rfl rfl ty103_k (fun ks h => by cases h)
def ty104 : TI := { kind := .other, size := 1, bytes := 8, zero := [.pointer none], leaf := none }
@[simp] theorem ty104_by : ty104.bytes = 8 := rfl
theorem ty104_i : (Try.prog.info? 104).map (fun i => (i.size, i.bytes, i.zero)) = some (1, 8, some (.pointer none)) := by kernel_rfl
theorem ty104_k : KindOk Try.prog 104 ty104.kind := KindOk.other_of (by kernel_rfl)
theorem ty104_ok : TIOk Try.prog 104 ty104 := TIOk.of ty104_i rfl rfl ty104_k (fun ks h => by cases h)
def ty105 : TI := { kind := .struct [(0, 2), (2, 1)] [29, 38], size := 3, bytes := 24, zero := [.int .i64 0, .int .i64 0, .int .i64 0], leaf := none }
@[simp] theorem ty105_by : ty105.bytes = 24 := rfl
theorem ty105_i : (Try.prog.info? 105).map (fun i => (i.size, i.bytes, i.zero)) = some (3, 24, some (.agg #[.int .i64 0, .int .i64 0, .int .i64 0])) := by kernel_rfl
theorem ty105_k : KindOk Try.prog 105 ty105.kind := KindOk.struct_of (by kernel_rfl)
theorem ty105_ok : TIOk Try.prog 105 ty105 := TIOk.of ty105_i rfl rfl ty105_k (fun ks h => by cases h)
def ty106 : TI := { kind := .struct [(0, 2), (2, 1)] [29, 38], size := 3, bytes := 24, zero := [.int .i64 0, .int .i64 0, .int .i64 0], leaf := none }
@[simp] theorem ty106_by : ty106.bytes = 24 := rfl
theorem ty106_i : (Try.prog.info? 106).map (fun i => (i.size, i.bytes, i.zero)) = some (3, 24, some (.agg #[.int .i64 0, .int .i64 0, .int .i64 0])) := by kernel_rfl
theorem ty106_k : KindOk Try.prog 106 ty106.kind := KindOk.struct_of (by kernel_rfl)
theorem ty106_ok : TIOk Try.prog 106 ty106 := TIOk.of ty106_i rfl rfl ty106_k (fun ks h => by cases h)
def ty108 : TI := { kind := .other, size := 1, bytes := 8, zero := [.nilFunc], leaf := none }
@[simp] theorem ty108_by : ty108.bytes = 8 := rfl
theorem ty108_i : (Try.prog.info? 108).map (fun i => (i.size, i.bytes, i.zero)) = some (1, 8, some (.nilFunc)) := by kernel_rfl
theorem ty108_k : KindOk Try.prog 108 ty108.kind := KindOk.other_of (by kernel_rfl)
theorem ty108_ok : TIOk Try.prog 108 ty108 := TIOk.of ty108_i rfl rfl ty108_k (fun ks h => by cases h)
def ty109 : TI := { kind := .slice 113, size := 1, bytes := 24, zero := [.slice none 0 0], leaf := none }
@[simp] theorem ty109_by : ty109.bytes = 24 := rfl
theorem ty109_i : (Try.prog.info? 109).map (fun i => (i.size, i.bytes, i.zero)) = some (1, 24, some (.slice none 0 0)) := by kernel_rfl
theorem ty109_k : KindOk Try.prog 109 ty109.kind := show Try.prog.underlying 109 = some (.slice 113) from by kernel_rfl
theorem ty109_ok : TIOk Try.prog 109 ty109 := TIOk.of ty109_i rfl rfl ty109_k (fun ks h => by cases h)
def ty111 : TI := { kind := .other, size := 1, bytes := 8, zero := [.nilFunc], leaf := none }
@[simp] theorem ty111_by : ty111.bytes = 8 := rfl
theorem ty111_i : (Try.prog.info? 111).map (fun i => (i.size, i.bytes, i.zero)) = some (1, 8, some (.nilFunc)) := by kernel_rfl
theorem ty111_k : KindOk Try.prog 111 ty111.kind := KindOk.other_of (by kernel_rfl)
theorem ty111_ok : TIOk Try.prog 111 ty111 := TIOk.of ty111_i rfl rfl ty111_k (fun ks h => by cases h)
def ty112 : TI := { kind := .struct [(0, 1), (1, 1), (2, 1), (3, 2)] [9, 3, 3, 29], size := 5, bytes := 48, zero := [.string { data := #[] }, .int .i64 0, .int .i64 0, .int .i64 0, .int .i64 0], leaf := none }
@[simp] theorem ty112_by : ty112.bytes = 48 := rfl
theorem ty112_i : (Try.prog.info? 112).map (fun i => (i.size, i.bytes, i.zero)) = some (5, 48, some (.agg #[.string { data := #[] }, .int .i64 0, .int .i64 0, .int .i64 0, .int .i64 0])) := by kernel_rfl
theorem ty112_k : KindOk Try.prog 112 ty112.kind := KindOk.struct_of (by kernel_rfl)
theorem ty112_ok : TIOk Try.prog 112 ty112 := TIOk.of ty112_i rfl rfl ty112_k (fun ks h => by cases h)
def ty113 : TI := { kind := .struct [(0, 1), (1, 1), (2, 1), (3, 2)] [9, 3, 3, 29], size := 5, bytes := 48, zero := [.string { data := #[] }, .int .i64 0, .int .i64 0, .int .i64 0, .int .i64 0], leaf := none }
@[simp] theorem ty113_by : ty113.bytes = 48 := rfl
theorem ty113_i : (Try.prog.info? 113).map (fun i => (i.size, i.bytes, i.zero)) = some (5, 48, some (.agg #[.string { data := #[] }, .int .i64 0, .int .i64 0, .int .i64 0, .int .i64 0])) := by kernel_rfl
theorem ty113_k : KindOk Try.prog 113 ty113.kind := KindOk.struct_of (by kernel_rfl)
theorem ty113_ok : TIOk Try.prog 113 ty113 := TIOk.of ty113_i rfl rfl ty113_k (fun ks h => by cases h)
def ty117 : TI := { kind := .slice 4, size := 1, bytes := 24, zero := [.slice none 0 0], leaf := none }
@[simp] theorem ty117_by : ty117.bytes = 24 := rfl
theorem ty117_i : (Try.prog.info? 117).map (fun i => (i.size, i.bytes, i.zero)) = some (1, 24, some (.slice none 0 0)) := by kernel_rfl
theorem ty117_k : KindOk Try.prog 117 ty117.kind := show Try.prog.underlying 117 = some (.slice 4) from by kernel_rfl
theorem ty117_ok : TIOk Try.prog 117 ty117 := TIOk.of ty117_i rfl rfl ty117_k (fun ks h => by cases h)
def ty118 : TI := { kind := .map 3 22, size := 1, bytes := 8, zero := [.map none], leaf := none }
@[simp] theorem ty118_by : ty118.bytes = 8 := rfl
theorem ty118_i : (Try.prog.info? 118).map (fun i => (i.size, i.bytes, i.zero)) = some (1, 8, some (.map none)) := by kernel_rfl
theorem ty118_k : KindOk Try.prog 118 ty118.kind := show Try.prog.underlying 118 = some (.map 3 22) from by kernel_rfl
theorem ty118_ok : TIOk Try.prog 118 ty118 := TIOk.of ty118_i rfl rfl ty118_k (fun ks h => by cases h)
def ty119 : TI := { kind := .slice 173, size := 1, bytes := 24, zero := [.slice none 0 0], leaf := none }
@[simp] theorem ty119_by : ty119.bytes = 24 := rfl
theorem ty119_i : (Try.prog.info? 119).map (fun i => (i.size, i.bytes, i.zero)) = some (1, 24, some (.slice none 0 0)) := by kernel_rfl
theorem ty119_k : KindOk Try.prog 119 ty119.kind := show Try.prog.underlying 119 = some (.slice 173) from by kernel_rfl
theorem ty119_ok : TIOk Try.prog 119 ty119 := TIOk.of ty119_i rfl rfl ty119_k (fun ks h => by cases h)
def ty120 : TI := { kind := .struct [(0, 7), (7, 1), (8, 1), (9, 1), (10, 1), (11, 1), (12, 1), (13, 1), (14, 1)] [27, 3, 3, 22, 117, 111, 118, 119, 56], size := 15, bytes := 264, zero := [.int .i64 0, .slice none 0 0, .slice none 0 0, .slice none 0 0, .slice none 0 0, .int .i64 0, .slice none 0 0, .int .i64 0, .int .i64 0, .slice none 0 0, .slice none 0 0, .nilFunc, .map none, .slice none 0 0, .slice none 0 0], leaf := none }
@[simp] theorem ty120_by : ty120.bytes = 264 := rfl
theorem ty120_i : (Try.prog.info? 120).map (fun i => (i.size, i.bytes, i.zero)) = some (15, 264, some (.agg #[.int .i64 0, .slice none 0 0, .slice none 0 0, .slice none 0 0, .slice none 0 0, .int .i64 0, .slice none 0 0, .int .i64 0, .int .i64 0, .slice none 0 0, .slice none 0 0, .nilFunc, .map none, .slice none 0 0, .slice none 0 0])) := by kernel_rfl
theorem ty120_k : KindOk Try.prog 120 ty120.kind := KindOk.struct_of (by kernel_rfl)
theorem ty120_ok : TIOk Try.prog 120 ty120 := TIOk.of ty120_i rfl rfl ty120_k (fun ks h => by cases h)
def ty121 : TI := { kind := .struct [(0, 7), (7, 1), (8, 1), (9, 1), (10, 1), (11, 1), (12, 1), (13, 1), (14, 1)] [27, 3, 3, 22, 117, 111, 118, 119, 56], size := 15, bytes := 264, zero := [.int .i64 0, .slice none 0 0, .slice none 0 0, .slice none 0 0, .slice none 0 0, .int .i64 0, .slice none 0 0, .int .i64 0, .int .i64 0, .slice none 0 0, .slice none 0 0, .nilFunc, .map none, .slice none 0 0, .slice none 0 0], leaf := none }
@[simp] theorem ty121_by : ty121.bytes = 264 := rfl
theorem ty121_i : (Try.prog.info? 121).map (fun i => (i.size, i.bytes, i.zero)) = some (15, 264, some (.agg #[.int .i64 0, .slice none 0 0, .slice none 0 0, .slice none 0 0, .slice none 0 0, .int .i64 0, .slice none 0 0, .int .i64 0, .int .i64 0, .slice none 0 0, .slice none 0 0, .nilFunc, .map none, .slice none 0 0, .slice none 0 0])) := by kernel_rfl
theorem ty121_k : KindOk Try.prog 121 ty121.kind := KindOk.struct_of (by kernel_rfl)
theorem ty121_ok : TIOk Try.prog 121 ty121 := TIOk.of ty121_i rfl rfl ty121_k (fun ks h => by cases h)
def ty122 : TI := { kind := .other, size := 1, bytes := 8, zero := [.pointer none], leaf := none }
@[simp] theorem ty122_by : ty122.bytes = 8 := rfl
theorem ty122_i : (Try.prog.info? 122).map (fun i => (i.size, i.bytes, i.zero)) = some (1, 8, some (.pointer none)) := by kernel_rfl
theorem ty122_k : KindOk Try.prog 122 ty122.kind := KindOk.other_of (by kernel_rfl)
theorem ty122_ok : TIOk Try.prog 122 ty122 := TIOk.of ty122_i rfl rfl ty122_k (fun ks h => by cases h)
def ty125 : TI := { kind := .struct [(0, 3), (3, 1), (4, 1)] [45, 3, 3], size := 5, bytes := 40, zero := [.int .i64 0, .int .i64 0, .int .i64 0, .int .i64 0, .int .i64 0], leaf := none }
@[simp] theorem ty125_by : ty125.bytes = 40 := rfl
theorem ty125_i : (Try.prog.info? 125).map (fun i => (i.size, i.bytes, i.zero)) = some (5, 40, some (.agg #[.int .i64 0, .int .i64 0, .int .i64 0, .int .i64 0, .int .i64 0])) := by kernel_rfl
theorem ty125_k : KindOk Try.prog 125 ty125.kind := KindOk.struct_of (by kernel_rfl)
theorem ty125_ok : TIOk Try.prog 125 ty125 := TIOk.of ty125_i rfl rfl ty125_k (fun ks h => by cases h)
def ty126 : TI := { kind := .struct [(0, 3), (3, 1), (4, 1)] [45, 3, 3], size := 5, bytes := 40, zero := [.int .i64 0, .int .i64 0, .int .i64 0, .int .i64 0, .int .i64 0], leaf := none }
@[simp] theorem ty126_by : ty126.bytes = 40 := rfl
theorem ty126_i : (Try.prog.info? 126).map (fun i => (i.size, i.bytes, i.zero)) = some (5, 40, some (.agg #[.int .i64 0, .int .i64 0, .int .i64 0, .int .i64 0, .int .i64 0])) := by kernel_rfl
theorem ty126_k : KindOk Try.prog 126 ty126.kind := KindOk.struct_of (by kernel_rfl)
theorem ty126_ok : TIOk Try.prog 126 ty126 := TIOk.of ty126_i rfl rfl ty126_k (fun ks h => by cases h)
def ty127 : TI := { kind := .other, size := 1, bytes := 8, zero := [.nilFunc], leaf := none }
@[simp] theorem ty127_by : ty127.bytes = 8 := rfl
theorem ty127_i : (Try.prog.info? 127).map (fun i => (i.size, i.bytes, i.zero)) = some (1, 8, some (.nilFunc)) := by kernel_rfl
theorem ty127_k : KindOk Try.prog 127 ty127.kind := KindOk.other_of (by kernel_rfl)
theorem ty127_ok : TIOk Try.prog 127 ty127 := TIOk.of ty127_i rfl rfl ty127_k (fun ks h => by cases h)
def ty131 : TI := { kind := .int .u64, size := 1, bytes := 8, zero := [.int .u64 0], leaf := none }
@[simp] theorem ty131_by : ty131.bytes = 8 := rfl
theorem ty131_i : (Try.prog.info? 131).map (fun i => (i.size, i.bytes, i.zero)) = some (1, 8, some (.int .u64 0)) := by kernel_rfl
theorem ty131_k : KindOk Try.prog 131 ty131.kind := show Try.prog.underlying 131 = some (.int .u64) from by kernel_rfl
theorem ty131_ok : TIOk Try.prog 131 ty131 := TIOk.of ty131_i rfl rfl ty131_k (fun ks h => by cases h)
def ty135 : TI := { kind := .other, size := 1, bytes := 8, zero := [.nilFunc], leaf := none }
@[simp] theorem ty135_by : ty135.bytes = 8 := rfl
theorem ty135_i : (Try.prog.info? 135).map (fun i => (i.size, i.bytes, i.zero)) = some (1, 8, some (.nilFunc)) := by kernel_rfl
theorem ty135_k : KindOk Try.prog 135 ty135.kind := KindOk.other_of (by kernel_rfl)
theorem ty135_ok : TIOk Try.prog 135 ty135 := TIOk.of ty135_i rfl rfl ty135_k (fun ks h => by cases h)
def ty136 : TI := { kind := .slice 45, size := 1, bytes := 24, zero := [.slice none 0 0], leaf := none }
@[simp] theorem ty136_by : ty136.bytes = 24 := rfl
theorem ty136_i : (Try.prog.info? 136).map (fun i => (i.size, i.bytes, i.zero)) = some (1, 24, some (.slice none 0 0)) := by kernel_rfl
theorem ty136_k : KindOk Try.prog 136 ty136.kind := show Try.prog.underlying 136 = some (.slice 45) from by kernel_rfl
theorem ty136_ok : TIOk Try.prog 136 ty136 := TIOk.of ty136_i rfl rfl ty136_k (fun ks h => by cases h)
def ty139 : TI := { kind := .array 3 3, size := 3, bytes := 24, zero := [.int .i64 0, .int .i64 0, .int .i64 0], leaf := none }
@[simp] theorem ty139_by : ty139.bytes = 24 := rfl
theorem ty139_i : (Try.prog.info? 139).map (fun i => (i.size, i.bytes, i.zero)) = some (3, 24, some (.agg #[.int .i64 0, .int .i64 0, .int .i64 0])) := by kernel_rfl
theorem ty139_k : KindOk Try.prog 139 ty139.kind := show Try.prog.underlying 139 = some (.array 3 3) from by kernel_rfl
theorem ty139_ok : TIOk Try.prog 139 ty139 := TIOk.of ty139_i rfl rfl ty139_k (fun ks h => by cases h)
def ty141 : TI := { kind := .other, size := 1, bytes := 8, zero := [.pointer none], leaf := none }
@[simp] theorem ty141_by : ty141.bytes = 8 := rfl
theorem ty141_i : (Try.prog.info? 141).map (fun i => (i.size, i.bytes, i.zero)) = some (1, 8, some (.pointer none)) := by kernel_rfl
theorem ty141_k : KindOk Try.prog 141 ty141.kind := KindOk.other_of (by kernel_rfl)
theorem ty141_ok : TIOk Try.prog 141 ty141 := TIOk.of ty141_i rfl rfl ty141_k (fun ks h => by cases h)
def ty154 : TI := { kind := .slice 131, size := 1, bytes := 24, zero := [.slice none 0 0], leaf := none }
@[simp] theorem ty154_by : ty154.bytes = 24 := rfl
theorem ty154_i : (Try.prog.info? 154).map (fun i => (i.size, i.bytes, i.zero)) = some (1, 24, some (.slice none 0 0)) := by kernel_rfl
theorem ty154_k : KindOk Try.prog 154 ty154.kind := show Try.prog.underlying 154 = some (.slice 131) from by kernel_rfl
theorem ty154_ok : TIOk Try.prog 154 ty154 := TIOk.of ty154_i rfl rfl ty154_k (fun ks h => by cases h)
def ty159 : TI := { kind := .struct [(0, 1), (1, 1)] [3, 3], size := 2, bytes := 16, zero := [.int .i64 0, .int .i64 0], leaf := none }
@[simp] theorem ty159_by : ty159.bytes = 16 := rfl
theorem ty159_i : (Try.prog.info? 159).map (fun i => (i.size, i.bytes, i.zero)) = some (2, 16, some (.agg #[.int .i64 0, .int .i64 0])) := by kernel_rfl
theorem ty159_k : KindOk Try.prog 159 ty159.kind := KindOk.struct_of (by kernel_rfl)
theorem ty159_ok : TIOk Try.prog 159 ty159 := TIOk.of ty159_i rfl rfl ty159_k (fun ks h => by cases h)
def ty160 : TI := { kind := .struct [(0, 1), (1, 1)] [3, 3], size := 2, bytes := 16, zero := [.int .i64 0, .int .i64 0], leaf := none }
@[simp] theorem ty160_by : ty160.bytes = 16 := rfl
theorem ty160_i : (Try.prog.info? 160).map (fun i => (i.size, i.bytes, i.zero)) = some (2, 16, some (.agg #[.int .i64 0, .int .i64 0])) := by kernel_rfl
theorem ty160_k : KindOk Try.prog 160 ty160.kind := KindOk.struct_of (by kernel_rfl)
theorem ty160_ok : TIOk Try.prog 160 ty160 := TIOk.of ty160_i rfl rfl ty160_k (fun ks h => by cases h)
def ty163 : TI := { kind := .other, size := 1, bytes := 8, zero := [.nilFunc], leaf := none }
@[simp] theorem ty163_by : ty163.bytes = 8 := rfl
theorem ty163_i : (Try.prog.info? 163).map (fun i => (i.size, i.bytes, i.zero)) = some (1, 8, some (.nilFunc)) := by kernel_rfl
theorem ty163_k : KindOk Try.prog 163 ty163.kind := KindOk.other_of (by kernel_rfl)
theorem ty163_ok : TIOk Try.prog 163 ty163 := TIOk.of ty163_i rfl rfl ty163_k (fun ks h => by cases h)
def ty167 : TI := { kind := .int .u64, size := 1, bytes := 8, zero := [.int .u64 0], leaf := none }
@[simp] theorem ty167_by : ty167.bytes = 8 := rfl
theorem ty167_i : (Try.prog.info? 167).map (fun i => (i.size, i.bytes, i.zero)) = some (1, 8, some (.int .u64 0)) := by kernel_rfl
theorem ty167_k : KindOk Try.prog 167 ty167.kind := show Try.prog.underlying 167 = some (.int .u64) from by kernel_rfl
theorem ty167_ok : TIOk Try.prog 167 ty167 := TIOk.of ty167_i rfl rfl ty167_k (fun ks h => by cases h)
def ty172 : TI := { kind := .struct [(0, 1), (1, 1)] [3, 4], size := 2, bytes := 16, zero := [.int .i64 0, .bool false], leaf := none }
@[simp] theorem ty172_by : ty172.bytes = 16 := rfl
theorem ty172_i : (Try.prog.info? 172).map (fun i => (i.size, i.bytes, i.zero)) = some (2, 16, some (.agg #[.int .i64 0, .bool false])) := by kernel_rfl
theorem ty172_k : KindOk Try.prog 172 ty172.kind := KindOk.struct_of (by kernel_rfl)
theorem ty172_ok : TIOk Try.prog 172 ty172 := TIOk.of ty172_i rfl rfl ty172_k (fun ks h => by cases h)
def ty173 : TI := { kind := .struct [(0, 1), (1, 1)] [3, 4], size := 2, bytes := 16, zero := [.int .i64 0, .bool false], leaf := none }
@[simp] theorem ty173_by : ty173.bytes = 16 := rfl
theorem ty173_i : (Try.prog.info? 173).map (fun i => (i.size, i.bytes, i.zero)) = some (2, 16, some (.agg #[.int .i64 0, .bool false])) := by kernel_rfl
theorem ty173_k : KindOk Try.prog 173 ty173.kind := KindOk.struct_of (by kernel_rfl)
theorem ty173_ok : TIOk Try.prog 173 ty173 := TIOk.of ty173_i rfl rfl ty173_k (fun ks h => by cases h)
def ty175 : TI := { kind := .other, size := 1, bytes := 8, zero := [.nilFunc], leaf := none }
@[simp] theorem ty175_by : ty175.bytes = 8 := rfl
theorem ty175_i : (Try.prog.info? 175).map (fun i => (i.size, i.bytes, i.zero)) = some (1, 8, some (.nilFunc)) := by kernel_rfl
theorem ty175_k : KindOk Try.prog 175 ty175.kind := KindOk.other_of (by kernel_rfl)
theorem ty175_ok : TIOk Try.prog 175 ty175 := TIOk.of ty175_i rfl rfl ty175_k (fun ks h => by cases h)
def TB : TE := [(2, ty2), (3, ty3), (4, ty4), (5, ty5), (9, ty9), (22, ty22), (23, ty23), (24, ty24), (25, ty25), (26, ty26), (27, ty27), (28, ty28), (29, ty29), (30, ty30), (31, ty31), (34, ty34), (38, ty38), (41, ty41), (44, ty44), (45, ty45), (56, ty56), (63, ty63), (64, ty64), (70, ty70), (71, ty71), (73, ty73), (82, ty82), (83, ty83), (84, ty84), (85, ty85), (86, ty86), (88, ty88), (89, ty89), (91, ty91), (97, ty97), (102, ty102), (103, ty103), (104, ty104), (105, ty105), (106, ty106), (108, ty108), (109, ty109), (111, ty111), (112, ty112), (113, ty113), (117, ty117), (118, ty118), (119, ty119), (120, ty120), (121, ty121), (122, ty122), (125, ty125), (126, ty126), (127, ty127), (131, ty131), (135, ty135), (136, ty136), (139, ty139), (141, ty141), (154, ty154), (159, ty159), (160, ty160), (163, ty163), (167, ty167), (172, ty172), (173, ty173), (175, ty175)]
theorem TB_ok : TOk Try.prog TB := TOk.cons ty2_ok (TOk.cons ty3_ok (TOk.cons ty4_ok (TOk.cons ty5_ok (TOk.cons ty9_ok (TOk.cons ty22_ok (TOk.cons ty23_ok (TOk.cons ty24_ok (TOk.cons ty25_ok (TOk.cons ty26_ok (TOk.cons ty27_ok (TOk.cons ty28_ok (TOk.cons ty29_ok (TOk.cons ty30_ok (TOk.cons ty31_ok (TOk.cons ty34_ok (TOk.cons ty38_ok (TOk.cons ty41_ok (TOk.cons ty44_ok (TOk.cons ty45_ok (TOk.cons ty56_ok (TOk.cons ty63_ok (TOk.cons ty64_ok (TOk.cons ty70_ok (TOk.cons ty71_ok (TOk.cons ty73_ok (TOk.cons ty82_ok (TOk.cons ty83_ok (TOk.cons ty84_ok (TOk.cons ty85_ok (TOk.cons ty86_ok (TOk.cons ty88_ok (TOk.cons ty89_ok (TOk.cons ty91_ok (TOk.cons ty97_ok (TOk.cons ty102_ok (TOk.cons ty103_ok (TOk.cons ty104_ok (TOk.cons ty105_ok (TOk.cons ty106_ok (TOk.cons ty108_ok (TOk.cons ty109_ok (TOk.cons ty111_ok (TOk.cons ty112_ok (TOk.cons ty113_ok (TOk.cons ty117_ok (TOk.cons ty118_ok (TOk.cons ty119_ok (TOk.cons ty120_ok (TOk.cons ty121_ok (TOk.cons ty122_ok (TOk.cons ty125_ok (TOk.cons ty126_ok (TOk.cons ty127_ok (TOk.cons ty131_ok (TOk.cons ty135_ok (TOk.cons ty136_ok (TOk.cons ty139_ok (TOk.cons ty141_ok (TOk.cons ty154_ok (TOk.cons ty159_ok (TOk.cons ty160_ok (TOk.cons ty163_ok (TOk.cons ty167_ok (TOk.cons ty172_ok (TOk.cons ty173_ok (TOk.cons ty175_ok (TOk.nil _)))))))))))))))))))))))))))))))))))))))))))))))))))))))))))))))))))
theorem leaf28 : LeafOk Try.prog 28 [.int .i64, .int .i64] := LeafOk.of (n := 9) TB_ok rfl (by decide) (by kernel_rfl) (by kernel_rfl)
def ty28e : TI := { kind := ty28.kind, size := 2, bytes := 16, zero := [.int .i64 0, .int .i64 0], leaf := some [.int .i64, .int .i64] }
@[simp] theorem ty28e_by : ty28e.bytes = 16 := rfl
theorem ty28e_ok : TIOk Try.prog 28 ty28e := TIOk.of ty28_i rfl rfl ty28_k (fun ks h => by injection h with h; exact h ▸ leaf28)
theorem leaf29 : LeafOk Try.prog 29 [.int .i64, .int .i64] := LeafOk.of (n := 9) TB_ok rfl (by decide) (by kernel_rfl) (by kernel_rfl)
def ty29e : TI := { kind := ty29.kind, size := 2, bytes := 16, zero := [.int .i64 0, .int .i64 0], leaf := some [.int .i64, .int .i64] }
@[simp] theorem ty29e_by : ty29e.bytes = 16 := rfl
theorem ty29e_ok : TIOk Try.prog 29 ty29e := TIOk.of ty29_i rfl rfl ty29_k (fun ks h => by injection h with h; exact h ▸ leaf29)
theorem leaf30 : LeafOk Try.prog 30 [.int .i64, .int .i64, .int .i64, .int .i64, .int .i64] := LeafOk.of (n := 9) TB_ok rfl (by decide) (by kernel_rfl) (by kernel_rfl)
def ty30e : TI := { kind := ty30.kind, size := 5, bytes := 40, zero := [.int .i64 0, .int .i64 0, .int .i64 0, .int .i64 0, .int .i64 0], leaf := some [.int .i64, .int .i64, .int .i64, .int .i64, .int .i64] }
@[simp] theorem ty30e_by : ty30e.bytes = 40 := rfl
theorem ty30e_ok : TIOk Try.prog 30 ty30e := TIOk.of ty30_i rfl rfl ty30_k (fun ks h => by injection h with h; exact h ▸ leaf30)
theorem leaf31 : LeafOk Try.prog 31 [.int .i64, .int .i64, .int .i64, .int .i64, .int .i64] := LeafOk.of (n := 9) TB_ok rfl (by decide) (by kernel_rfl) (by kernel_rfl)
def ty31e : TI := { kind := ty31.kind, size := 5, bytes := 40, zero := [.int .i64 0, .int .i64 0, .int .i64 0, .int .i64 0, .int .i64 0], leaf := some [.int .i64, .int .i64, .int .i64, .int .i64, .int .i64] }
@[simp] theorem ty31e_by : ty31e.bytes = 40 := rfl
theorem ty31e_ok : TIOk Try.prog 31 ty31e := TIOk.of ty31_i rfl rfl ty31_k (fun ks h => by injection h with h; exact h ▸ leaf31)
theorem leaf44 : LeafOk Try.prog 44 [.int .i64, .int .i64, .int .i64] := LeafOk.of (n := 9) TB_ok rfl (by decide) (by kernel_rfl) (by kernel_rfl)
def ty44e : TI := { kind := ty44.kind, size := 3, bytes := 24, zero := [.int .i64 0, .int .i64 0, .int .i64 0], leaf := some [.int .i64, .int .i64, .int .i64] }
@[simp] theorem ty44e_by : ty44e.bytes = 24 := rfl
theorem ty44e_ok : TIOk Try.prog 44 ty44e := TIOk.of ty44_i rfl rfl ty44_k (fun ks h => by injection h with h; exact h ▸ leaf44)
theorem leaf45 : LeafOk Try.prog 45 [.int .i64, .int .i64, .int .i64] := LeafOk.of (n := 9) TB_ok rfl (by decide) (by kernel_rfl) (by kernel_rfl)
def ty45e : TI := { kind := ty45.kind, size := 3, bytes := 24, zero := [.int .i64 0, .int .i64 0, .int .i64 0], leaf := some [.int .i64, .int .i64, .int .i64] }
@[simp] theorem ty45e_by : ty45e.bytes = 24 := rfl
theorem ty45e_ok : TIOk Try.prog 45 ty45e := TIOk.of ty45_i rfl rfl ty45_k (fun ks h => by injection h with h; exact h ▸ leaf45)
theorem leaf63 : LeafOk Try.prog 63 [.int .i64, .int .i64, .int .i64, .int .i64, .int .i64, .int .i64, .int .i64] := LeafOk.of (n := 9) TB_ok rfl (by decide) (by kernel_rfl) (by kernel_rfl)
def ty63e : TI := { kind := ty63.kind, size := 7, bytes := 56, zero := [.int .i64 0, .int .i64 0, .int .i64 0, .int .i64 0, .int .i64 0, .int .i64 0, .int .i64 0], leaf := some [.int .i64, .int .i64, .int .i64, .int .i64, .int .i64, .int .i64, .int .i64] }
@[simp] theorem ty63e_by : ty63e.bytes = 56 := rfl
theorem ty63e_ok : TIOk Try.prog 63 ty63e := TIOk.of ty63_i rfl rfl ty63_k (fun ks h => by injection h with h; exact h ▸ leaf63)
theorem leaf64 : LeafOk Try.prog 64 [.int .i64, .int .i64, .int .i64, .int .i64, .int .i64, .int .i64, .int .i64] := LeafOk.of (n := 9) TB_ok rfl (by decide) (by kernel_rfl) (by kernel_rfl)
def ty64e : TI := { kind := ty64.kind, size := 7, bytes := 56, zero := [.int .i64 0, .int .i64 0, .int .i64 0, .int .i64 0, .int .i64 0, .int .i64 0, .int .i64 0], leaf := some [.int .i64, .int .i64, .int .i64, .int .i64, .int .i64, .int .i64, .int .i64] }
@[simp] theorem ty64e_by : ty64e.bytes = 56 := rfl
theorem ty64e_ok : TIOk Try.prog 64 ty64e := TIOk.of ty64_i rfl rfl ty64_k (fun ks h => by injection h with h; exact h ▸ leaf64)
theorem leaf70 : LeafOk Try.prog 70 [.int .i64, .int .i64, .int .i64, .int .i64, .int .i64] := LeafOk.of (n := 9) TB_ok rfl (by decide) (by kernel_rfl) (by kernel_rfl)
def ty70e : TI := { kind := ty70.kind, size := 5, bytes := 40, zero := [.int .i64 0, .int .i64 0, .int .i64 0, .int .i64 0, .int .i64 0], leaf := some [.int .i64, .int .i64, .int .i64, .int .i64, .int .i64] }
@[simp] theorem ty70e_by : ty70e.bytes = 40 := rfl
theorem ty70e_ok : TIOk Try.prog 70 ty70e := TIOk.of ty70_i rfl rfl ty70_k (fun ks h => by injection h with h; exact h ▸ leaf70)
theorem leaf71 : LeafOk Try.prog 71 [.int .i64, .int .i64, .int .i64, .int .i64, .int .i64] := LeafOk.of (n := 9) TB_ok rfl (by decide) (by kernel_rfl) (by kernel_rfl)
def ty71e : TI := { kind := ty71.kind, size := 5, bytes := 40, zero := [.int .i64 0, .int .i64 0, .int .i64 0, .int .i64 0, .int .i64 0], leaf := some [.int .i64, .int .i64, .int .i64, .int .i64, .int .i64] }
@[simp] theorem ty71e_by : ty71e.bytes = 40 := rfl
theorem ty71e_ok : TIOk Try.prog 71 ty71e := TIOk.of ty71_i rfl rfl ty71_k (fun ks h => by injection h with h; exact h ▸ leaf71)
theorem leaf82 : LeafOk Try.prog 82 [.int .i64, .int .i64, .int .i64, .int .i64] := LeafOk.of (n := 9) TB_ok rfl (by decide) (by kernel_rfl) (by kernel_rfl)
def ty82e : TI := { kind := ty82.kind, size := 4, bytes := 32, zero := [.int .i64 0, .int .i64 0, .int .i64 0, .int .i64 0], leaf := some [.int .i64, .int .i64, .int .i64, .int .i64] }
@[simp] theorem ty82e_by : ty82e.bytes = 32 := rfl
theorem ty82e_ok : TIOk Try.prog 82 ty82e := TIOk.of ty82_i rfl rfl ty82_k (fun ks h => by injection h with h; exact h ▸ leaf82)
theorem leaf83 : LeafOk Try.prog 83 [.int .i64, .int .i64, .int .i64, .int .i64] := LeafOk.of (n := 9) TB_ok rfl (by decide) (by kernel_rfl) (by kernel_rfl)
def ty83e : TI := { kind := ty83.kind, size := 4, bytes := 32, zero := [.int .i64 0, .int .i64 0, .int .i64 0, .int .i64 0], leaf := some [.int .i64, .int .i64, .int .i64, .int .i64] }
@[simp] theorem ty83e_by : ty83e.bytes = 32 := rfl
theorem ty83e_ok : TIOk Try.prog 83 ty83e := TIOk.of ty83_i rfl rfl ty83_k (fun ks h => by injection h with h; exact h ▸ leaf83)
theorem leaf102 : LeafOk Try.prog 102 [.int .i64, .int .i64, .int .i64, .int .i64] := LeafOk.of (n := 9) TB_ok rfl (by decide) (by kernel_rfl) (by kernel_rfl)
def ty102e : TI := { kind := ty102.kind, size := 4, bytes := 32, zero := [.int .i64 0, .int .i64 0, .int .i64 0, .int .i64 0], leaf := some [.int .i64, .int .i64, .int .i64, .int .i64] }
@[simp] theorem ty102e_by : ty102e.bytes = 32 := rfl
theorem ty102e_ok : TIOk Try.prog 102 ty102e := TIOk.of ty102_i rfl rfl ty102_k (fun ks h => by injection h with h; exact h ▸ leaf102)
theorem leaf103 : LeafOk Try.prog 103 [.int .i64, .int .i64, .int .i64, .int .i64] := LeafOk.of (n := 9) TB_ok rfl (by decide) (by kernel_rfl) (by kernel_rfl)
def ty103e : TI := { kind := ty103.kind, size := 4, bytes := 32, zero := [.int .i64 0, .int .i64 0, .int .i64 0, .int .i64 0], leaf := some [.int .i64, .int .i64, .int .i64, .int .i64] }
@[simp] theorem ty103e_by : ty103e.bytes = 32 := rfl
theorem ty103e_ok : TIOk Try.prog 103 ty103e := TIOk.of ty103_i rfl rfl ty103_k (fun ks h => by injection h with h; exact h ▸ leaf103)
theorem leaf105 : LeafOk Try.prog 105 [.int .i64, .int .i64, .int .i64] := LeafOk.of (n := 9) TB_ok rfl (by decide) (by kernel_rfl) (by kernel_rfl)
def ty105e : TI := { kind := ty105.kind, size := 3, bytes := 24, zero := [.int .i64 0, .int .i64 0, .int .i64 0], leaf := some [.int .i64, .int .i64, .int .i64] }
@[simp] theorem ty105e_by : ty105e.bytes = 24 := rfl
theorem ty105e_ok : TIOk Try.prog 105 ty105e := TIOk.of ty105_i rfl rfl ty105_k (fun ks h => by injection h with h; exact h ▸ leaf105)
theorem leaf106 : LeafOk Try.prog 106 [.int .i64, .int .i64, .int .i64] := LeafOk.of (n := 9) TB_ok rfl (by decide) (by kernel_rfl) (by kernel_rfl)
def ty106e : TI := { kind := ty106.kind, size := 3, bytes := 24, zero := [.int .i64 0, .int .i64 0, .int .i64 0], leaf := some [.int .i64, .int .i64, .int .i64] }
@[simp] theorem ty106e_by : ty106e.bytes = 24 := rfl
theorem ty106e_ok : TIOk Try.prog 106 ty106e := TIOk.of ty106_i rfl rfl ty106_k (fun ks h => by injection h with h; exact h ▸ leaf106)
theorem leaf112 : LeafOk Try.prog 112 [.string, .int .i64, .int .i64, .int .i64, .int .i64] := LeafOk.of (n := 9) TB_ok rfl (by decide) (by kernel_rfl) (by kernel_rfl)
def ty112e : TI := { kind := ty112.kind, size := 5, bytes := 48, zero := [.string { data := #[] }, .int .i64 0, .int .i64 0, .int .i64 0, .int .i64 0], leaf := some [.string, .int .i64, .int .i64, .int .i64, .int .i64] }
@[simp] theorem ty112e_by : ty112e.bytes = 48 := rfl
theorem ty112e_ok : TIOk Try.prog 112 ty112e := TIOk.of ty112_i rfl rfl ty112_k (fun ks h => by injection h with h; exact h ▸ leaf112)
theorem leaf113 : LeafOk Try.prog 113 [.string, .int .i64, .int .i64, .int .i64, .int .i64] := LeafOk.of (n := 9) TB_ok rfl (by decide) (by kernel_rfl) (by kernel_rfl)
def ty113e : TI := { kind := ty113.kind, size := 5, bytes := 48, zero := [.string { data := #[] }, .int .i64 0, .int .i64 0, .int .i64 0, .int .i64 0], leaf := some [.string, .int .i64, .int .i64, .int .i64, .int .i64] }
@[simp] theorem ty113e_by : ty113e.bytes = 48 := rfl
theorem ty113e_ok : TIOk Try.prog 113 ty113e := TIOk.of ty113_i rfl rfl ty113_k (fun ks h => by injection h with h; exact h ▸ leaf113)
theorem leaf125 : LeafOk Try.prog 125 [.int .i64, .int .i64, .int .i64, .int .i64, .int .i64] := LeafOk.of (n := 9) TB_ok rfl (by decide) (by kernel_rfl) (by kernel_rfl)
def ty125e : TI := { kind := ty125.kind, size := 5, bytes := 40, zero := [.int .i64 0, .int .i64 0, .int .i64 0, .int .i64 0, .int .i64 0], leaf := some [.int .i64, .int .i64, .int .i64, .int .i64, .int .i64] }
@[simp] theorem ty125e_by : ty125e.bytes = 40 := rfl
theorem ty125e_ok : TIOk Try.prog 125 ty125e := TIOk.of ty125_i rfl rfl ty125_k (fun ks h => by injection h with h; exact h ▸ leaf125)
theorem leaf126 : LeafOk Try.prog 126 [.int .i64, .int .i64, .int .i64, .int .i64, .int .i64] := LeafOk.of (n := 9) TB_ok rfl (by decide) (by kernel_rfl) (by kernel_rfl)
def ty126e : TI := { kind := ty126.kind, size := 5, bytes := 40, zero := [.int .i64 0, .int .i64 0, .int .i64 0, .int .i64 0, .int .i64 0], leaf := some [.int .i64, .int .i64, .int .i64, .int .i64, .int .i64] }
@[simp] theorem ty126e_by : ty126e.bytes = 40 := rfl
theorem ty126e_ok : TIOk Try.prog 126 ty126e := TIOk.of ty126_i rfl rfl ty126_k (fun ks h => by injection h with h; exact h ▸ leaf126)
theorem leaf159 : LeafOk Try.prog 159 [.int .i64, .int .i64] := LeafOk.of (n := 9) TB_ok rfl (by decide) (by kernel_rfl) (by kernel_rfl)
def ty159e : TI := { kind := ty159.kind, size := 2, bytes := 16, zero := [.int .i64 0, .int .i64 0], leaf := some [.int .i64, .int .i64] }
@[simp] theorem ty159e_by : ty159e.bytes = 16 := rfl
theorem ty159e_ok : TIOk Try.prog 159 ty159e := TIOk.of ty159_i rfl rfl ty159_k (fun ks h => by injection h with h; exact h ▸ leaf159)
theorem leaf160 : LeafOk Try.prog 160 [.int .i64, .int .i64] := LeafOk.of (n := 9) TB_ok rfl (by decide) (by kernel_rfl) (by kernel_rfl)
def ty160e : TI := { kind := ty160.kind, size := 2, bytes := 16, zero := [.int .i64 0, .int .i64 0], leaf := some [.int .i64, .int .i64] }
@[simp] theorem ty160e_by : ty160e.bytes = 16 := rfl
theorem ty160e_ok : TIOk Try.prog 160 ty160e := TIOk.of ty160_i rfl rfl ty160_k (fun ks h => by injection h with h; exact h ▸ leaf160)
theorem leaf172 : LeafOk Try.prog 172 [.int .i64, .bool] := LeafOk.of (n := 9) TB_ok rfl (by decide) (by kernel_rfl) (by kernel_rfl)
def ty172e : TI := { kind := ty172.kind, size := 2, bytes := 16, zero := [.int .i64 0, .bool false], leaf := some [.int .i64, .bool] }
@[simp] theorem ty172e_by : ty172e.bytes = 16 := rfl
theorem ty172e_ok : TIOk Try.prog 172 ty172e := TIOk.of ty172_i rfl rfl ty172_k (fun ks h => by injection h with h; exact h ▸ leaf172)
theorem leaf173 : LeafOk Try.prog 173 [.int .i64, .bool] := LeafOk.of (n := 9) TB_ok rfl (by decide) (by kernel_rfl) (by kernel_rfl)
def ty173e : TI := { kind := ty173.kind, size := 2, bytes := 16, zero := [.int .i64 0, .bool false], leaf := some [.int .i64, .bool] }
@[simp] theorem ty173e_by : ty173e.bytes = 16 := rfl
theorem ty173e_ok : TIOk Try.prog 173 ty173e := TIOk.of ty173_i rfl rfl ty173_k (fun ks h => by injection h with h; exact h ▸ leaf173)
def TT : TE := [(2, ty2), (3, ty3), (4, ty4), (5, ty5), (9, ty9), (22, ty22), (23, ty23), (24, ty24), (25, ty25), (26, ty26), (27, ty27), (28, ty28e), (29, ty29e), (30, ty30e), (31, ty31e), (34, ty34), (38, ty38), (41, ty41), (44, ty44e), (45, ty45e), (56, ty56), (63, ty63e), (64, ty64e), (70, ty70e), (71, ty71e), (73, ty73), (82, ty82e), (83, ty83e), (84, ty84), (85, ty85), (86, ty86), (88, ty88), (89, ty89), (91, ty91), (97, ty97), (102, ty102e), (103, ty103e), (104, ty104), (105, ty105e), (106, ty106e), (108, ty108), (109, ty109), (111, ty111), (112, ty112e), (113, ty113e), (117, ty117), (118, ty118), (119, ty119), (120, ty120), (121, ty121), (122, ty122), (125, ty125e), (126, ty126e), (127, ty127), (131, ty131), (135, ty135), (136, ty136), (139, ty139), (141, ty141), (154, ty154), (159, ty159e), (160, ty160e), (163, ty163), (167, ty167), (172, ty172e), (173, ty173e), (175, ty175)]
theorem TT_ok : TOk Try.prog TT := TOk.cons ty2_ok (TOk.cons ty3_ok (TOk.cons ty4_ok (TOk.cons ty5_ok (TOk.cons ty9_ok (TOk.cons ty22_ok (TOk.cons ty23_ok (TOk.cons ty24_ok (TOk.cons ty25_ok (TOk.cons ty26_ok (TOk.cons ty27_ok (TOk.cons ty28e_ok (TOk.cons ty29e_ok (TOk.cons ty30e_ok (TOk.cons ty31e_ok (TOk.cons ty34_ok (TOk.cons ty38_ok (TOk.cons ty41_ok (TOk.cons ty44e_ok (TOk.cons ty45e_ok (TOk.cons ty56_ok (TOk.cons ty63e_ok (TOk.cons ty64e_ok (TOk.cons ty70e_ok (TOk.cons ty71e_ok (TOk.cons ty73_ok (TOk.cons ty82e_ok (TOk.cons ty83e_ok (TOk.cons ty84_ok (TOk.cons ty85_ok (TOk.cons ty86_ok (TOk.cons ty88_ok (TOk.cons ty89_ok (TOk.cons ty91_ok (TOk.cons ty97_ok (TOk.cons ty102e_ok (TOk.cons ty103e_ok (TOk.cons ty104_ok (TOk.cons ty105e_ok (TOk.cons ty106e_ok (TOk.cons ty108_ok (TOk.cons ty109_ok (TOk.cons ty111_ok (TOk.cons ty112e_ok (TOk.cons ty113e_ok (TOk.cons ty117_ok (TOk.cons ty118_ok (TOk.cons ty119_ok (TOk.cons ty120_ok (TOk.cons ty121_ok (TOk.cons ty122_ok (TOk.cons ty125e_ok (TOk.cons ty126e_ok (TOk.cons ty127_ok (TOk.cons ty131_ok (TOk.cons ty135_ok (TOk.cons ty136_ok (TOk.cons ty139_ok (TOk.cons ty141_ok (TOk.cons ty154_ok (TOk.cons ty159e_ok (TOk.cons ty160e_ok (TOk.cons ty163_ok (TOk.cons ty167_ok (TOk.cons ty172e_ok (TOk.cons ty173e_ok (TOk.cons ty175_ok (TOk.nil _)))))))))))))))))))))))))))))))))))))))))))))))))))))))))))))))))))
end Go.Proofs.Ytiiegpjpckkohaa
