/- The engine's table of this seat's types, and that the program's own agrees: written by gentys.py. -/
import Derived.Test.YtmnnjllimphjhaaP4
import Derived.Test.YtmnnjllimphjhaaChecked
namespace Go.Proofs.Ytmnnjllimphjhaa
open Go.Eng
def ty2 : TI := { kind := .int .i64, size := 1, bytes := 8, zero := [.int .i64 0], leaf := none }
@[simp] theorem ty2_by : ty2.bytes = 8 := rfl
theorem ty2_i : (Try.prog.info? 2).map (fun i => (i.size, i.bytes, i.zero)) = some (1, 8, some (.int .i64 0)) := by kernel_rfl
theorem ty2_k : KindOk Try.prog 2 ty2.kind := show Try.prog.underlying 2 = some (.int .i64) from by kernel_rfl
theorem ty2_ok : TIOk Try.prog 2 ty2 := TIOk.of ty2_i rfl rfl ty2_k (fun ks h => by cases h)
def ty3 : TI := { kind := .int .i64, size := 1, bytes := 8, zero := [.int .i64 0], leaf := none }
@[simp] theorem ty3_by : ty3.bytes = 8 := rfl
theorem ty3_i : (Try.prog.info? 3).map (fun i => (i.size, i.bytes, i.zero)) = some (1, 8, some (.int .i64 0)) := by kernel_rfl
theorem ty3_k : KindOk Try.prog 3 ty3.kind := show Try.prog.underlying 3 = some (.int .i64) from by kernel_rfl
theorem ty3_ok : TIOk Try.prog 3 ty3 := TIOk.of ty3_i rfl rfl ty3_k (fun ks h => by cases h)
def ty4 : TI := { kind := .bool, size := 1, bytes := 1, zero := [.bool false], leaf := none }
@[simp] theorem ty4_by : ty4.bytes = 1 := rfl
theorem ty4_i : (Try.prog.info? 4).map (fun i => (i.size, i.bytes, i.zero)) = some (1, 1, some (.bool false)) := by kernel_rfl
theorem ty4_k : KindOk Try.prog 4 ty4.kind := show Try.prog.underlying 4 = some .bool from by kernel_rfl
theorem ty4_ok : TIOk Try.prog 4 ty4 := TIOk.of ty4_i rfl rfl ty4_k (fun ks h => by cases h)
def ty5 : TI := { kind := .int .u8, size := 1, bytes := 1, zero := [.int .u8 0], leaf := none }
@[simp] theorem ty5_by : ty5.bytes = 1 := rfl
theorem ty5_i : (Try.prog.info? 5).map (fun i => (i.size, i.bytes, i.zero)) = some (1, 1, some (.int .u8 0)) := by kernel_rfl
theorem ty5_k : KindOk Try.prog 5 ty5.kind := show Try.prog.underlying 5 = some (.int .u8) from by kernel_rfl
theorem ty5_ok : TIOk Try.prog 5 ty5 := TIOk.of ty5_i rfl rfl ty5_k (fun ks h => by cases h)
def ty9 : TI := { kind := .string, size := 1, bytes := 16, zero := [.string { data := #[] }], leaf := none }
@[simp] theorem ty9_by : ty9.bytes = 16 := rfl
theorem ty9_i : (Try.prog.info? 9).map (fun i => (i.size, i.bytes, i.zero)) = some (1, 16, some (.string { data := #[] })) := by kernel_rfl
theorem ty9_k : KindOk Try.prog 9 ty9.kind := show Try.prog.underlying 9 = some .string from by kernel_rfl
theorem ty9_ok : TIOk Try.prog 9 ty9 := TIOk.of ty9_i rfl rfl ty9_k (fun ks h => by cases h)
def ty22 : TI := { kind := .slice 3, size := 1, bytes := 24, zero := [.slice none 0 0], leaf := none }
@[simp] theorem ty22_by : ty22.bytes = 24 := rfl
theorem ty22_i : (Try.prog.info? 22).map (fun i => (i.size, i.bytes, i.zero)) = some (1, 24, some (.slice none 0 0)) := by kernel_rfl
theorem ty22_k : KindOk Try.prog 22 ty22.kind := show Try.prog.underlying 22 = some (.slice 3) from by kernel_rfl
theorem ty22_ok : TIOk Try.prog 22 ty22 := TIOk.of ty22_i rfl rfl ty22_k (fun ks h => by cases h)
def ty23 : TI := { kind := .slice 81, size := 1, bytes := 24, zero := [.slice none 0 0], leaf := none }
@[simp] theorem ty23_by : ty23.bytes = 24 := rfl
theorem ty23_i : (Try.prog.info? 23).map (fun i => (i.size, i.bytes, i.zero)) = some (1, 24, some (.slice none 0 0)) := by kernel_rfl
theorem ty23_k : KindOk Try.prog 23 ty23.kind := show Try.prog.underlying 23 = some (.slice 81) from by kernel_rfl
theorem ty23_ok : TIOk Try.prog 23 ty23 := TIOk.of ty23_i rfl rfl ty23_k (fun ks h => by cases h)
def ty24 : TI := { kind := .slice 52, size := 1, bytes := 24, zero := [.slice none 0 0], leaf := none }
@[simp] theorem ty24_by : ty24.bytes = 24 := rfl
theorem ty24_i : (Try.prog.info? 24).map (fun i => (i.size, i.bytes, i.zero)) = some (1, 24, some (.slice none 0 0)) := by kernel_rfl
theorem ty24_k : KindOk Try.prog 24 ty24.kind := show Try.prog.underlying 24 = some (.slice 52) from by kernel_rfl
theorem ty24_ok : TIOk Try.prog 24 ty24 := TIOk.of ty24_i rfl rfl ty24_k (fun ks h => by cases h)
def ty25 : TI := { kind := .slice 46, size := 1, bytes := 24, zero := [.slice none 0 0], leaf := none }
@[simp] theorem ty25_by : ty25.bytes = 24 := rfl
theorem ty25_i : (Try.prog.info? 25).map (fun i => (i.size, i.bytes, i.zero)) = some (1, 24, some (.slice none 0 0)) := by kernel_rfl
theorem ty25_k : KindOk Try.prog 25 ty25.kind := show Try.prog.underlying 25 = some (.slice 46) from by kernel_rfl
theorem ty25_ok : TIOk Try.prog 25 ty25 := TIOk.of ty25_i rfl rfl ty25_k (fun ks h => by cases h)
def ty27 : TI := { kind := .struct [(0, 1), (1, 1), (2, 1), (3, 1), (4, 1), (5, 1), (6, 1)] [3, 22, 23, 24, 25, 3, 22], size := 7, bytes := 136, zero := [.int .i64 0, .slice none 0 0, .slice none 0 0, .slice none 0 0, .slice none 0 0, .int .i64 0, .slice none 0 0], leaf := none }
@[simp] theorem ty27_by : ty27.bytes = 136 := rfl
theorem ty27_i : (Try.prog.info? 27).map (fun i => (i.size, i.bytes, i.zero)) = some (7, 136, some (.agg #[.int .i64 0, .slice none 0 0, .slice none 0 0, .slice none 0 0, .slice none 0 0, .int .i64 0, .slice none 0 0])) := by kernel_rfl
theorem ty27_k : KindOk Try.prog 27 ty27.kind := KindOk.struct_of (by kernel_rfl)
theorem ty27_ok : TIOk Try.prog 27 ty27 := TIOk.of ty27_i rfl rfl ty27_k (fun ks h => by cases h)
def ty28 : TI := { kind := .int .u16, size := 1, bytes := 2, zero := [.int .u16 0], leaf := none }
@[simp] theorem ty28_by : ty28.bytes = 2 := rfl
theorem ty28_i : (Try.prog.info? 28).map (fun i => (i.size, i.bytes, i.zero)) = some (1, 2, some (.int .u16 0)) := by kernel_rfl
theorem ty28_k : KindOk Try.prog 28 ty28.kind := show Try.prog.underlying 28 = some (.int .u16) from by kernel_rfl
theorem ty28_ok : TIOk Try.prog 28 ty28 := TIOk.of ty28_i rfl rfl ty28_k (fun ks h => by cases h)
def ty31 : TI := { kind := .slice 36, size := 1, bytes := 24, zero := [.slice none 0 0], leaf := none }
@[simp] theorem ty31_by : ty31.bytes = 24 := rfl
theorem ty31_i : (Try.prog.info? 31).map (fun i => (i.size, i.bytes, i.zero)) = some (1, 24, some (.slice none 0 0)) := by kernel_rfl
theorem ty31_k : KindOk Try.prog 31 ty31.kind := show Try.prog.underlying 31 = some (.slice 36) from by kernel_rfl
theorem ty31_ok : TIOk Try.prog 31 ty31 := TIOk.of ty31_i rfl rfl ty31_k (fun ks h => by cases h)
def ty32 : TI := { kind := .int .i64, size := 1, bytes := 8, zero := [.int .i64 0], leaf := none }
@[simp] theorem ty32_by : ty32.bytes = 8 := rfl
theorem ty32_i : (Try.prog.info? 32).map (fun i => (i.size, i.bytes, i.zero)) = some (1, 8, some (.int .i64 0)) := by kernel_rfl
theorem ty32_k : KindOk Try.prog 32 ty32.kind := show Try.prog.underlying 32 = some (.int .i64) from by kernel_rfl
theorem ty32_ok : TIOk Try.prog 32 ty32 := TIOk.of ty32_i rfl rfl ty32_k (fun ks h => by cases h)
def ty36 : TI := { kind := .struct [(0, 1), (1, 1), (2, 1), (3, 1), (4, 1)] [3, 3, 3, 3, 3], size := 5, bytes := 40, zero := [.int .i64 0, .int .i64 0, .int .i64 0, .int .i64 0, .int .i64 0], leaf := none }
@[simp] theorem ty36_by : ty36.bytes = 40 := rfl
theorem ty36_i : (Try.prog.info? 36).map (fun i => (i.size, i.bytes, i.zero)) = some (5, 40, some (.agg #[.int .i64 0, .int .i64 0, .int .i64 0, .int .i64 0, .int .i64 0])) := by kernel_rfl
theorem ty36_k : KindOk Try.prog 36 ty36.kind := KindOk.struct_of (by kernel_rfl)
theorem ty36_ok : TIOk Try.prog 36 ty36 := TIOk.of ty36_i rfl rfl ty36_k (fun ks h => by cases h)
def ty42 : TI := { kind := .slice 49, size := 1, bytes := 24, zero := [.slice none 0 0], leaf := none }
@[simp] theorem ty42_by : ty42.bytes = 24 := rfl
theorem ty42_i : (Try.prog.info? 42).map (fun i => (i.size, i.bytes, i.zero)) = some (1, 24, some (.slice none 0 0)) := by kernel_rfl
theorem ty42_k : KindOk Try.prog 42 ty42.kind := show Try.prog.underlying 42 = some (.slice 49) from by kernel_rfl
theorem ty42_ok : TIOk Try.prog 42 ty42 := TIOk.of ty42_i rfl rfl ty42_k (fun ks h => by cases h)
def ty44 : TI := { kind := .struct [(0, 1), (1, 1)] [3, 3], size := 2, bytes := 16, zero := [.int .i64 0, .int .i64 0], leaf := none }
@[simp] theorem ty44_by : ty44.bytes = 16 := rfl
theorem ty44_i : (Try.prog.info? 44).map (fun i => (i.size, i.bytes, i.zero)) = some (2, 16, some (.agg #[.int .i64 0, .int .i64 0])) := by kernel_rfl
theorem ty44_k : KindOk Try.prog 44 ty44.kind := KindOk.struct_of (by kernel_rfl)
theorem ty44_ok : TIOk Try.prog 44 ty44 := TIOk.of ty44_i rfl rfl ty44_k (fun ks h => by cases h)
def ty46 : TI := { kind := .struct [(0, 1), (1, 1), (2, 1), (3, 1), (4, 1), (5, 1), (6, 1), (7, 1), (8, 1), (9, 1), (10, 1), (11, 2), (13, 1), (14, 1), (15, 1)] [3, 3, 3, 3, 42, 3, 3, 4, 4, 3, 3, 44, 3, 3, 4], size := 16, bytes := 136, zero := [.int .i64 0, .int .i64 0, .int .i64 0, .int .i64 0, .slice none 0 0, .int .i64 0, .int .i64 0, .bool false, .bool false, .int .i64 0, .int .i64 0, .int .i64 0, .int .i64 0, .int .i64 0, .int .i64 0, .bool false], leaf := none }
@[simp] theorem ty46_by : ty46.bytes = 136 := rfl
theorem ty46_i : (Try.prog.info? 46).map (fun i => (i.size, i.bytes, i.zero)) = some (16, 136, some (.agg #[.int .i64 0, .int .i64 0, .int .i64 0, .int .i64 0, .slice none 0 0, .int .i64 0, .int .i64 0, .bool false, .bool false, .int .i64 0, .int .i64 0, .int .i64 0, .int .i64 0, .int .i64 0, .int .i64 0, .bool false])) := by kernel_rfl
theorem ty46_k : KindOk Try.prog 46 ty46.kind := KindOk.struct_of (by kernel_rfl)
theorem ty46_ok : TIOk Try.prog 46 ty46 := TIOk.of ty46_i rfl rfl ty46_k (fun ks h => by cases h)
def ty49 : TI := { kind := .struct [(0, 1), (1, 1)] [3, 3], size := 2, bytes := 16, zero := [.int .i64 0, .int .i64 0], leaf := none }
@[simp] theorem ty49_by : ty49.bytes = 16 := rfl
theorem ty49_i : (Try.prog.info? 49).map (fun i => (i.size, i.bytes, i.zero)) = some (2, 16, some (.agg #[.int .i64 0, .int .i64 0])) := by kernel_rfl
theorem ty49_k : KindOk Try.prog 49 ty49.kind := KindOk.struct_of (by kernel_rfl)
theorem ty49_ok : TIOk Try.prog 49 ty49 := TIOk.of ty49_i rfl rfl ty49_k (fun ks h => by cases h)
def ty50 : TI := { kind := .slice 4, size := 1, bytes := 24, zero := [.slice none 0 0], leaf := none }
@[simp] theorem ty50_by : ty50.bytes = 24 := rfl
theorem ty50_i : (Try.prog.info? 50).map (fun i => (i.size, i.bytes, i.zero)) = some (1, 24, some (.slice none 0 0)) := by kernel_rfl
theorem ty50_k : KindOk Try.prog 50 ty50.kind := show Try.prog.underlying 50 = some (.slice 4) from by kernel_rfl
theorem ty50_ok : TIOk Try.prog 50 ty50 := TIOk.of ty50_i rfl rfl ty50_k (fun ks h => by cases h)
def ty52 : TI := { kind := .struct [(0, 1), (1, 1), (2, 1), (3, 1), (4, 1), (5, 2)] [3, 3, 3, 3, 3, 44], size := 7, bytes := 56, zero := [.int .i64 0, .int .i64 0, .int .i64 0, .int .i64 0, .int .i64 0, .int .i64 0, .int .i64 0], leaf := none }
@[simp] theorem ty52_by : ty52.bytes = 56 := rfl
theorem ty52_i : (Try.prog.info? 52).map (fun i => (i.size, i.bytes, i.zero)) = some (7, 56, some (.agg #[.int .i64 0, .int .i64 0, .int .i64 0, .int .i64 0, .int .i64 0, .int .i64 0, .int .i64 0])) := by kernel_rfl
theorem ty52_k : KindOk Try.prog 52 ty52.kind := KindOk.struct_of (by kernel_rfl)
theorem ty52_ok : TIOk Try.prog 52 ty52 := TIOk.of ty52_i rfl rfl ty52_k (fun ks h => by cases h)
def ty59 : TI := { kind := .other, size := 1, bytes := 8, zero := [.nilFunc], leaf := none }
@[simp] theorem ty59_by : ty59.bytes = 8 := rfl
theorem ty59_i : (Try.prog.info? 59).map (fun i => (i.size, i.bytes, i.zero)) = some (1, 8, some (.nilFunc)) := by kernel_rfl
theorem ty59_k : KindOk Try.prog 59 ty59.kind := KindOk.other_of (by kernel_rfl)
theorem ty59_ok : TIOk Try.prog 59 ty59 := TIOk.of ty59_i rfl rfl ty59_k (fun ks h => by cases h)
def ty60 : TI := { kind := .map 3 22, size := 1, bytes := 8, zero := [.map none], leaf := none }
@[simp] theorem ty60_by : ty60.bytes = 8 := rfl
theorem ty60_i : (Try.prog.info? 60).map (fun i => (i.size, i.bytes, i.zero)) = some (1, 8, some (.map none)) := by kernel_rfl
theorem ty60_k : KindOk Try.prog 60 ty60.kind := show Try.prog.underlying 60 = some (.map 3 22) from by kernel_rfl
theorem ty60_ok : TIOk Try.prog 60 ty60 := TIOk.of ty60_i rfl rfl ty60_k (fun ks h => by cases h)
def ty61 : TI := { kind := .slice 86, size := 1, bytes := 24, zero := [.slice none 0 0], leaf := none }
@[simp] theorem ty61_by : ty61.bytes = 24 := rfl
theorem ty61_i : (Try.prog.info? 61).map (fun i => (i.size, i.bytes, i.zero)) = some (1, 24, some (.slice none 0 0)) := by kernel_rfl
theorem ty61_k : KindOk Try.prog 61 ty61.kind := show Try.prog.underlying 61 = some (.slice 86) from by kernel_rfl
theorem ty61_ok : TIOk Try.prog 61 ty61 := TIOk.of ty61_i rfl rfl ty61_k (fun ks h => by cases h)
def ty63 : TI := { kind := .struct [(0, 7), (7, 1), (8, 1), (9, 1), (10, 1), (11, 1), (12, 1), (13, 1), (14, 1)] [27, 3, 3, 22, 50, 59, 60, 61, 31], size := 15, bytes := 264, zero := [.int .i64 0, .slice none 0 0, .slice none 0 0, .slice none 0 0, .slice none 0 0, .int .i64 0, .slice none 0 0, .int .i64 0, .int .i64 0, .slice none 0 0, .slice none 0 0, .nilFunc, .map none, .slice none 0 0, .slice none 0 0], leaf := none }
@[simp] theorem ty63_by : ty63.bytes = 264 := rfl
theorem ty63_i : (Try.prog.info? 63).map (fun i => (i.size, i.bytes, i.zero)) = some (15, 264, some (.agg #[.int .i64 0, .slice none 0 0, .slice none 0 0, .slice none 0 0, .slice none 0 0, .int .i64 0, .slice none 0 0, .int .i64 0, .int .i64 0, .slice none 0 0, .slice none 0 0, .nilFunc, .map none, .slice none 0 0, .slice none 0 0])) := by kernel_rfl
theorem ty63_k : KindOk Try.prog 63 ty63.kind := KindOk.struct_of (by kernel_rfl)
theorem ty63_ok : TIOk Try.prog 63 ty63 := TIOk.of ty63_i rfl rfl ty63_k (fun ks h => by cases h)
def ty64 : TI := { kind := .other, size := 1, bytes := 8, zero := [.pointer none], leaf := none }
@[simp] theorem ty64_by : ty64.bytes = 8 := rfl
theorem ty64_i : (Try.prog.info? 64).map (fun i => (i.size, i.bytes, i.zero)) = some (1, 8, some (.pointer none)) := by kernel_rfl
theorem ty64_k : KindOk Try.prog 64 ty64.kind := KindOk.other_of (by kernel_rfl)
theorem ty64_ok : TIOk Try.prog 64 ty64 := TIOk.of ty64_i rfl rfl ty64_k (fun ks h => by cases h)
def ty72 : TI := { kind := .other, size := 1, bytes := 8, zero := [.nilFunc], leaf := none }
@[simp] theorem ty72_by : ty72.bytes = 8 := rfl
theorem ty72_i : (Try.prog.info? 72).map (fun i => (i.size, i.bytes, i.zero)) = some (1, 8, some (.nilFunc)) := by kernel_rfl
theorem ty72_k : KindOk Try.prog 72 ty72.kind := KindOk.other_of (by kernel_rfl)
theorem ty72_ok : TIOk Try.prog 72 ty72 := TIOk.of ty72_i rfl rfl ty72_k (fun ks h => by cases h)
def ty74 : TI := { kind := .other, size := 1, bytes := 8, zero := [.nilFunc], leaf := none }
@[simp] theorem ty74_by : ty74.bytes = 8 := rfl
theorem ty74_i : (Try.prog.info? 74).map (fun i => (i.size, i.bytes, i.zero)) = some (1, 8, some (.nilFunc)) := by kernel_rfl
theorem ty74_k : KindOk Try.prog 74 ty74.kind := KindOk.other_of (by kernel_rfl)
theorem ty74_ok : TIOk Try.prog 74 ty74 := TIOk.of ty74_i rfl rfl ty74_k (fun ks h => by cases h)
def ty81 : TI := { kind := .struct [(0, 1), (1, 1), (2, 1), (3, 2)] [9, 3, 3, 44], size := 5, bytes := 48, zero := [.string { data := #[] }, .int .i64 0, .int .i64 0, .int .i64 0, .int .i64 0], leaf := none }
@[simp] theorem ty81_by : ty81.bytes = 48 := rfl
theorem ty81_i : (Try.prog.info? 81).map (fun i => (i.size, i.bytes, i.zero)) = some (5, 48, some (.agg #[.string { data := #[] }, .int .i64 0, .int .i64 0, .int .i64 0, .int .i64 0])) := by kernel_rfl
theorem ty81_k : KindOk Try.prog 81 ty81.kind := KindOk.struct_of (by kernel_rfl)
theorem ty81_ok : TIOk Try.prog 81 ty81 := TIOk.of ty81_i rfl rfl ty81_k (fun ks h => by cases h)
def ty83 : TI := { kind := .int .u64, size := 1, bytes := 8, zero := [.int .u64 0], leaf := none }
@[simp] theorem ty83_by : ty83.bytes = 8 := rfl
theorem ty83_i : (Try.prog.info? 83).map (fun i => (i.size, i.bytes, i.zero)) = some (1, 8, some (.int .u64 0)) := by kernel_rfl
theorem ty83_k : KindOk Try.prog 83 ty83.kind := show Try.prog.underlying 83 = some (.int .u64) from by kernel_rfl
theorem ty83_ok : TIOk Try.prog 83 ty83 := TIOk.of ty83_i rfl rfl ty83_k (fun ks h => by cases h)
def ty86 : TI := { kind := .struct [(0, 1), (1, 1)] [3, 4], size := 2, bytes := 16, zero := [.int .i64 0, .bool false], leaf := none }
@[simp] theorem ty86_by : ty86.bytes = 16 := rfl
theorem ty86_i : (Try.prog.info? 86).map (fun i => (i.size, i.bytes, i.zero)) = some (2, 16, some (.agg #[.int .i64 0, .bool false])) := by kernel_rfl
theorem ty86_k : KindOk Try.prog 86 ty86.kind := KindOk.struct_of (by kernel_rfl)
theorem ty86_ok : TIOk Try.prog 86 ty86 := TIOk.of ty86_i rfl rfl ty86_k (fun ks h => by cases h)
def ty88 : TI := { kind := .slice 81, size := 1, bytes := 24, zero := [.slice none 0 0], leaf := none }
@[simp] theorem ty88_by : ty88.bytes = 24 := rfl
theorem ty88_i : (Try.prog.info? 88).map (fun i => (i.size, i.bytes, i.zero)) = some (1, 24, some (.slice none 0 0)) := by kernel_rfl
theorem ty88_k : KindOk Try.prog 88 ty88.kind := show Try.prog.underlying 88 = some (.slice 81) from by kernel_rfl
theorem ty88_ok : TIOk Try.prog 88 ty88 := TIOk.of ty88_i rfl rfl ty88_k (fun ks h => by cases h)
def ty89 : TI := { kind := .int .u64, size := 1, bytes := 8, zero := [.int .u64 0], leaf := none }
@[simp] theorem ty89_by : ty89.bytes = 8 := rfl
theorem ty89_i : (Try.prog.info? 89).map (fun i => (i.size, i.bytes, i.zero)) = some (1, 8, some (.int .u64 0)) := by kernel_rfl
theorem ty89_k : KindOk Try.prog 89 ty89.kind := show Try.prog.underlying 89 = some (.int .u64) from by kernel_rfl
theorem ty89_ok : TIOk Try.prog 89 ty89 := TIOk.of ty89_i rfl rfl ty89_k (fun ks h => by cases h)
def ty92 : TI := { kind := .slice 89, size := 1, bytes := 24, zero := [.slice none 0 0], leaf := none }
@[simp] theorem ty92_by : ty92.bytes = 24 := rfl
theorem ty92_i : (Try.prog.info? 92).map (fun i => (i.size, i.bytes, i.zero)) = some (1, 24, some (.slice none 0 0)) := by kernel_rfl
theorem ty92_k : KindOk Try.prog 92 ty92.kind := show Try.prog.underlying 92 = some (.slice 89) from by kernel_rfl
theorem ty92_ok : TIOk Try.prog 92 ty92 := TIOk.of ty92_i rfl rfl ty92_k (fun ks h => by cases h)
def TB : TE := [(2, ty2), (3, ty3), (4, ty4), (5, ty5), (9, ty9), (22, ty22), (23, ty23), (24, ty24), (25, ty25), (27, ty27), (28, ty28), (31, ty31), (32, ty32), (36, ty36), (42, ty42), (44, ty44), (46, ty46), (49, ty49), (50, ty50), (52, ty52), (59, ty59), (60, ty60), (61, ty61), (63, ty63), (64, ty64), (72, ty72), (74, ty74), (81, ty81), (83, ty83), (86, ty86), (88, ty88), (89, ty89), (92, ty92)]
theorem TB_ok : TOk Try.prog TB := TOk.cons ty2_ok (TOk.cons ty3_ok (TOk.cons ty4_ok (TOk.cons ty5_ok (TOk.cons ty9_ok (TOk.cons ty22_ok (TOk.cons ty23_ok (TOk.cons ty24_ok (TOk.cons ty25_ok (TOk.cons ty27_ok (TOk.cons ty28_ok (TOk.cons ty31_ok (TOk.cons ty32_ok (TOk.cons ty36_ok (TOk.cons ty42_ok (TOk.cons ty44_ok (TOk.cons ty46_ok (TOk.cons ty49_ok (TOk.cons ty50_ok (TOk.cons ty52_ok (TOk.cons ty59_ok (TOk.cons ty60_ok (TOk.cons ty61_ok (TOk.cons ty63_ok (TOk.cons ty64_ok (TOk.cons ty72_ok (TOk.cons ty74_ok (TOk.cons ty81_ok (TOk.cons ty83_ok (TOk.cons ty86_ok (TOk.cons ty88_ok (TOk.cons ty89_ok (TOk.cons ty92_ok (TOk.nil _)))))))))))))))))))))))))))))))))
theorem leaf36 : LeafOk Try.prog 36 [.int .i64, .int .i64, .int .i64, .int .i64, .int .i64] := LeafOk.of (n := 9) TB_ok rfl (by decide) (by kernel_rfl) (by kernel_rfl)
def ty36e : TI := { kind := ty36.kind, size := 5, bytes := 40, zero := [.int .i64 0, .int .i64 0, .int .i64 0, .int .i64 0, .int .i64 0], leaf := some [.int .i64, .int .i64, .int .i64, .int .i64, .int .i64] }
@[simp] theorem ty36e_by : ty36e.bytes = 40 := rfl
theorem ty36e_ok : TIOk Try.prog 36 ty36e := TIOk.of ty36_i rfl rfl ty36_k (fun ks h => by injection h with h; exact h ▸ leaf36)
theorem leaf44 : LeafOk Try.prog 44 [.int .i64, .int .i64] := LeafOk.of (n := 9) TB_ok rfl (by decide) (by kernel_rfl) (by kernel_rfl)
def ty44e : TI := { kind := ty44.kind, size := 2, bytes := 16, zero := [.int .i64 0, .int .i64 0], leaf := some [.int .i64, .int .i64] }
@[simp] theorem ty44e_by : ty44e.bytes = 16 := rfl
theorem ty44e_ok : TIOk Try.prog 44 ty44e := TIOk.of ty44_i rfl rfl ty44_k (fun ks h => by injection h with h; exact h ▸ leaf44)
theorem leaf49 : LeafOk Try.prog 49 [.int .i64, .int .i64] := LeafOk.of (n := 9) TB_ok rfl (by decide) (by kernel_rfl) (by kernel_rfl)
def ty49e : TI := { kind := ty49.kind, size := 2, bytes := 16, zero := [.int .i64 0, .int .i64 0], leaf := some [.int .i64, .int .i64] }
@[simp] theorem ty49e_by : ty49e.bytes = 16 := rfl
theorem ty49e_ok : TIOk Try.prog 49 ty49e := TIOk.of ty49_i rfl rfl ty49_k (fun ks h => by injection h with h; exact h ▸ leaf49)
theorem leaf52 : LeafOk Try.prog 52 [.int .i64, .int .i64, .int .i64, .int .i64, .int .i64, .int .i64, .int .i64] := LeafOk.of (n := 9) TB_ok rfl (by decide) (by kernel_rfl) (by kernel_rfl)
def ty52e : TI := { kind := ty52.kind, size := 7, bytes := 56, zero := [.int .i64 0, .int .i64 0, .int .i64 0, .int .i64 0, .int .i64 0, .int .i64 0, .int .i64 0], leaf := some [.int .i64, .int .i64, .int .i64, .int .i64, .int .i64, .int .i64, .int .i64] }
@[simp] theorem ty52e_by : ty52e.bytes = 56 := rfl
theorem ty52e_ok : TIOk Try.prog 52 ty52e := TIOk.of ty52_i rfl rfl ty52_k (fun ks h => by injection h with h; exact h ▸ leaf52)
theorem leaf81 : LeafOk Try.prog 81 [.string, .int .i64, .int .i64, .int .i64, .int .i64] := LeafOk.of (n := 9) TB_ok rfl (by decide) (by kernel_rfl) (by kernel_rfl)
def ty81e : TI := { kind := ty81.kind, size := 5, bytes := 48, zero := [.string { data := #[] }, .int .i64 0, .int .i64 0, .int .i64 0, .int .i64 0], leaf := some [.string, .int .i64, .int .i64, .int .i64, .int .i64] }
@[simp] theorem ty81e_by : ty81e.bytes = 48 := rfl
theorem ty81e_ok : TIOk Try.prog 81 ty81e := TIOk.of ty81_i rfl rfl ty81_k (fun ks h => by injection h with h; exact h ▸ leaf81)
theorem leaf86 : LeafOk Try.prog 86 [.int .i64, .bool] := LeafOk.of (n := 9) TB_ok rfl (by decide) (by kernel_rfl) (by kernel_rfl)
def ty86e : TI := { kind := ty86.kind, size := 2, bytes := 16, zero := [.int .i64 0, .bool false], leaf := some [.int .i64, .bool] }
@[simp] theorem ty86e_by : ty86e.bytes = 16 := rfl
theorem ty86e_ok : TIOk Try.prog 86 ty86e := TIOk.of ty86_i rfl rfl ty86_k (fun ks h => by injection h with h; exact h ▸ leaf86)
def TT : TE := [(2, ty2), (3, ty3), (4, ty4), (5, ty5), (9, ty9), (22, ty22), (23, ty23), (24, ty24), (25, ty25), (27, ty27), (28, ty28), (31, ty31), (32, ty32), (36, ty36e), (42, ty42), (44, ty44e), (46, ty46), (49, ty49e), (50, ty50), (52, ty52e), (59, ty59), (60, ty60), (61, ty61), (63, ty63), (64, ty64), (72, ty72), (74, ty74), (81, ty81e), (83, ty83), (86, ty86e), (88, ty88), (89, ty89), (92, ty92)]
theorem TT_ok : TOk Try.prog TT := TOk.cons ty2_ok (TOk.cons ty3_ok (TOk.cons ty4_ok (TOk.cons ty5_ok (TOk.cons ty9_ok (TOk.cons ty22_ok (TOk.cons ty23_ok (TOk.cons ty24_ok (TOk.cons ty25_ok (TOk.cons ty27_ok (TOk.cons ty28_ok (TOk.cons ty31_ok (TOk.cons ty32_ok (TOk.cons ty36e_ok (TOk.cons ty42_ok (TOk.cons ty44e_ok (TOk.cons ty46_ok (TOk.cons ty49e_ok (TOk.cons ty50_ok (TOk.cons ty52e_ok (TOk.cons ty59_ok (TOk.cons ty60_ok (TOk.cons ty61_ok (TOk.cons ty63_ok (TOk.cons ty64_ok (TOk.cons ty72_ok (TOk.cons ty74_ok (TOk.cons ty81e_ok (TOk.cons ty83_ok (TOk.cons ty86e_ok (TOk.cons ty88_ok (TOk.cons ty89_ok (TOk.cons ty92_ok (TOk.nil _)))))))))))))))))))))))))))))))))
end Go.Proofs.Ytmnnjllimphjhaa
