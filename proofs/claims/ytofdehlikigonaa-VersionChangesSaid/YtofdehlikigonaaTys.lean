/- The engine's table of this seat's types, and that the program's own agrees: written by gentys.py. -/
import Derived.Test.YtofdehlikigonaaP4
import Derived.Test.YtofdehlikigonaaChecked
namespace Go.Proofs.Ytofdehlikigonaa
open Go.Eng
def ty1 : TI := { kind := .other, size := 1, bytes := 8, zero := [.nilFunc], leaf := none }
@[simp] theorem ty1_by : ty1.bytes = 8 := rfl
theorem ty1_i : (Try.prog.info? 1).map (fun i => (i.size, i.bytes, i.zero)) = some (1, 8, some (.nilFunc)) := by kernel_rfl
theorem ty1_k : KindOk Try.prog 1 ty1.kind := KindOk.other_of (by kernel_rfl)
theorem ty1_ok : TIOk Try.prog 1 ty1 := TIOk.of ty1_i rfl rfl ty1_k (fun ks h => by cases h)
def ty2 : TI := { kind := .int .i64, size := 1, bytes := 8, zero := [.int .i64 0], leaf := none }
@[simp] theorem ty2_by : ty2.bytes = 8 := rfl
theorem ty2_i : (Try.prog.info? 2).map (fun i => (i.size, i.bytes, i.zero)) = some (1, 8, some (.int .i64 0)) := by kernel_rfl
theorem ty2_k : KindOk Try.prog 2 ty2.kind := show Try.prog.underlying 2 = some (.int .i64) from by kernel_rfl
theorem ty2_ok : TIOk Try.prog 2 ty2 := TIOk.of ty2_i rfl rfl ty2_k (fun ks h => by cases h)
def ty3 : TI := { kind := .int .i64, size := 1, bytes := 8, zero := [.int .i64 0], leaf := none }
@[simp] theorem ty3_by : ty3.bytes = 8 := rfl
theorem ty3_i : (Try.prog.info? 3).map (fun i => (i.size, i.bytes, i.zero)) = some (1, 8, some (.int .i64 0)) := by kernel_rfl
theorem ty3_k : KindOk Try.prog 3 ty3.kind := show Try.prog.underlying 3 = some (.int .i64) from by kernel_rfl
theorem ty3_ok : TIOk Try.prog 3 ty3 := TIOk.of ty3_i rfl rfl ty3_k (fun ks h => by cases h)
def ty4 : TI := { kind := .bool, size := 1, bytes := 1, zero := [.bool false], leaf := none }
@[simp] theorem ty4_by : ty4.bytes = 1 := rfl
theorem ty4_i : (Try.prog.info? 4).map (fun i => (i.size, i.bytes, i.zero)) = some (1, 1, some (.bool false)) := by kernel_rfl
theorem ty4_k : KindOk Try.prog 4 ty4.kind := show Try.prog.underlying 4 = some .bool from by kernel_rfl
theorem ty4_ok : TIOk Try.prog 4 ty4 := TIOk.of ty4_i rfl rfl ty4_k (fun ks h => by cases h)
def ty5 : TI := { kind := .int .u8, size := 1, bytes := 1, zero := [.int .u8 0], leaf := none }
@[simp] theorem ty5_by : ty5.bytes = 1 := rfl
theorem ty5_i : (Try.prog.info? 5).map (fun i => (i.size, i.bytes, i.zero)) = some (1, 1, some (.int .u8 0)) := by kernel_rfl
theorem ty5_k : KindOk Try.prog 5 ty5.kind := show Try.prog.underlying 5 = some (.int .u8) from by kernel_rfl
theorem ty5_ok : TIOk Try.prog 5 ty5 := TIOk.of ty5_i rfl rfl ty5_k (fun ks h => by cases h)
def ty9 : TI := { kind := .string, size := 1, bytes := 16, zero := [.string { data := #[] }], leaf := none }
@[simp] theorem ty9_by : ty9.bytes = 16 := rfl
theorem ty9_i : (Try.prog.info? 9).map (fun i => (i.size, i.bytes, i.zero)) = some (1, 16, some (.string { data := #[] })) := by kernel_rfl
theorem ty9_k : KindOk Try.prog 9 ty9.kind := show Try.prog.underlying 9 = some .string from by kernel_rfl
theorem ty9_ok : TIOk Try.prog 9 ty9 := TIOk.of ty9_i rfl rfl ty9_k (fun ks h => by cases h)
def ty22 : TI := { kind := .slice 35, size := 1, bytes := 24, zero := [.slice none 0 0], leaf := none }
@[simp] theorem ty22_by : ty22.bytes = 24 := rfl
theorem ty22_i : (Try.prog.info? 22).map (fun i => (i.size, i.bytes, i.zero)) = some (1, 24, some (.slice none 0 0)) := by kernel_rfl
theorem ty22_k : KindOk Try.prog 22 ty22.kind := show Try.prog.underlying 22 = some (.slice 35) from by kernel_rfl
theorem ty22_ok : TIOk Try.prog 22 ty22 := TIOk.of ty22_i rfl rfl ty22_k (fun ks h => by cases h)
def ty24 : TI := { kind := .slice 3, size := 1, bytes := 24, zero := [.slice none 0 0], leaf := none }
@[simp] theorem ty24_by : ty24.bytes = 24 := rfl
theorem ty24_i : (Try.prog.info? 24).map (fun i => (i.size, i.bytes, i.zero)) = some (1, 24, some (.slice none 0 0)) := by kernel_rfl
theorem ty24_k : KindOk Try.prog 24 ty24.kind := show Try.prog.underlying 24 = some (.slice 3) from by kernel_rfl
theorem ty24_ok : TIOk Try.prog 24 ty24 := TIOk.of ty24_i rfl rfl ty24_k (fun ks h => by cases h)
def ty26 : TI := { kind := .slice 4, size := 1, bytes := 24, zero := [.slice none 0 0], leaf := none }
@[simp] theorem ty26_by : ty26.bytes = 24 := rfl
theorem ty26_i : (Try.prog.info? 26).map (fun i => (i.size, i.bytes, i.zero)) = some (1, 24, some (.slice none 0 0)) := by kernel_rfl
theorem ty26_k : KindOk Try.prog 26 ty26.kind := show Try.prog.underlying 26 = some (.slice 4) from by kernel_rfl
theorem ty26_ok : TIOk Try.prog 26 ty26 := TIOk.of ty26_i rfl rfl ty26_k (fun ks h => by cases h)
def ty27 : TI := { kind := .slice 98, size := 1, bytes := 24, zero := [.slice none 0 0], leaf := none }
@[simp] theorem ty27_by : ty27.bytes = 24 := rfl
theorem ty27_i : (Try.prog.info? 27).map (fun i => (i.size, i.bytes, i.zero)) = some (1, 24, some (.slice none 0 0)) := by kernel_rfl
theorem ty27_k : KindOk Try.prog 27 ty27.kind := show Try.prog.underlying 27 = some (.slice 98) from by kernel_rfl
theorem ty27_ok : TIOk Try.prog 27 ty27 := TIOk.of ty27_i rfl rfl ty27_k (fun ks h => by cases h)
def ty29 : TI := { kind := .struct [(0, 1), (1, 1)] [3, 3], size := 2, bytes := 16, zero := [.int .i64 0, .int .i64 0], leaf := none }
@[simp] theorem ty29_by : ty29.bytes = 16 := rfl
theorem ty29_i : (Try.prog.info? 29).map (fun i => (i.size, i.bytes, i.zero)) = some (2, 16, some (.agg #[.int .i64 0, .int .i64 0])) := by kernel_rfl
theorem ty29_k : KindOk Try.prog 29 ty29.kind := KindOk.struct_of (by kernel_rfl)
theorem ty29_ok : TIOk Try.prog 29 ty29 := TIOk.of ty29_i rfl rfl ty29_k (fun ks h => by cases h)
def ty31 : TI := { kind := .struct [(0, 1), (1, 1), (2, 1), (3, 1), (4, 1), (5, 1), (6, 1), (7, 1), (8, 1), (9, 1), (10, 1), (11, 2), (13, 1), (14, 1), (15, 1)] [3, 3, 3, 3, 27, 3, 3, 4, 4, 3, 3, 29, 3, 3, 4], size := 16, bytes := 136, zero := [.int .i64 0, .int .i64 0, .int .i64 0, .int .i64 0, .slice none 0 0, .int .i64 0, .int .i64 0, .bool false, .bool false, .int .i64 0, .int .i64 0, .int .i64 0, .int .i64 0, .int .i64 0, .int .i64 0, .bool false], leaf := none }
@[simp] theorem ty31_by : ty31.bytes = 136 := rfl
theorem ty31_i : (Try.prog.info? 31).map (fun i => (i.size, i.bytes, i.zero)) = some (16, 136, some (.agg #[.int .i64 0, .int .i64 0, .int .i64 0, .int .i64 0, .slice none 0 0, .int .i64 0, .int .i64 0, .bool false, .bool false, .int .i64 0, .int .i64 0, .int .i64 0, .int .i64 0, .int .i64 0, .int .i64 0, .bool false])) := by kernel_rfl
theorem ty31_k : KindOk Try.prog 31 ty31.kind := KindOk.struct_of (by kernel_rfl)
theorem ty31_ok : TIOk Try.prog 31 ty31 := TIOk.of ty31_i rfl rfl ty31_k (fun ks h => by cases h)
def ty33 : TI := { kind := .struct [(0, 1), (1, 1), (2, 16), (18, 1)] [3, 24, 31, 3], size := 19, bytes := 176, zero := [.int .i64 0, .slice none 0 0, .int .i64 0, .int .i64 0, .int .i64 0, .int .i64 0, .slice none 0 0, .int .i64 0, .int .i64 0, .bool false, .bool false, .int .i64 0, .int .i64 0, .int .i64 0, .int .i64 0, .int .i64 0, .int .i64 0, .bool false, .int .i64 0], leaf := none }
@[simp] theorem ty33_by : ty33.bytes = 176 := rfl
theorem ty33_i : (Try.prog.info? 33).map (fun i => (i.size, i.bytes, i.zero)) = some (19, 176, some (.agg #[.int .i64 0, .slice none 0 0, .int .i64 0, .int .i64 0, .int .i64 0, .int .i64 0, .slice none 0 0, .int .i64 0, .int .i64 0, .bool false, .bool false, .int .i64 0, .int .i64 0, .int .i64 0, .int .i64 0, .int .i64 0, .int .i64 0, .bool false, .int .i64 0])) := by kernel_rfl
theorem ty33_k : KindOk Try.prog 33 ty33.kind := KindOk.struct_of (by kernel_rfl)
theorem ty33_ok : TIOk Try.prog 33 ty33 := TIOk.of ty33_i rfl rfl ty33_k (fun ks h => by cases h)
def ty35 : TI := { kind := .struct [(0, 1), (1, 1), (2, 1), (3, 19)] [3, 3, 3, 33], size := 22, bytes := 200, zero := [.int .i64 0, .int .i64 0, .int .i64 0, .int .i64 0, .slice none 0 0, .int .i64 0, .int .i64 0, .int .i64 0, .int .i64 0, .slice none 0 0, .int .i64 0, .int .i64 0, .bool false, .bool false, .int .i64 0, .int .i64 0, .int .i64 0, .int .i64 0, .int .i64 0, .int .i64 0, .bool false, .int .i64 0], leaf := none }
@[simp] theorem ty35_by : ty35.bytes = 200 := rfl
theorem ty35_i : (Try.prog.info? 35).map (fun i => (i.size, i.bytes, i.zero)) = some (22, 200, some (.agg #[.int .i64 0, .int .i64 0, .int .i64 0, .int .i64 0, .slice none 0 0, .int .i64 0, .int .i64 0, .int .i64 0, .int .i64 0, .slice none 0 0, .int .i64 0, .int .i64 0, .bool false, .bool false, .int .i64 0, .int .i64 0, .int .i64 0, .int .i64 0, .int .i64 0, .int .i64 0, .bool false, .int .i64 0])) := by kernel_rfl
theorem ty35_k : KindOk Try.prog 35 ty35.kind := KindOk.struct_of (by kernel_rfl)
theorem ty35_ok : TIOk Try.prog 35 ty35 := TIOk.of ty35_i rfl rfl ty35_k (fun ks h => by cases h)
def ty37 : TI := { kind := .slice 74, size := 1, bytes := 24, zero := [.slice none 0 0], leaf := none }
@[simp] theorem ty37_by : ty37.bytes = 24 := rfl
theorem ty37_i : (Try.prog.info? 37).map (fun i => (i.size, i.bytes, i.zero)) = some (1, 24, some (.slice none 0 0)) := by kernel_rfl
theorem ty37_k : KindOk Try.prog 37 ty37.kind := show Try.prog.underlying 37 = some (.slice 74) from by kernel_rfl
theorem ty37_ok : TIOk Try.prog 37 ty37 := TIOk.of ty37_i rfl rfl ty37_k (fun ks h => by cases h)
def ty38 : TI := { kind := .slice 76, size := 1, bytes := 24, zero := [.slice none 0 0], leaf := none }
@[simp] theorem ty38_by : ty38.bytes = 24 := rfl
theorem ty38_i : (Try.prog.info? 38).map (fun i => (i.size, i.bytes, i.zero)) = some (1, 24, some (.slice none 0 0)) := by kernel_rfl
theorem ty38_k : KindOk Try.prog 38 ty38.kind := show Try.prog.underlying 38 = some (.slice 76) from by kernel_rfl
theorem ty38_ok : TIOk Try.prog 38 ty38 := TIOk.of ty38_i rfl rfl ty38_k (fun ks h => by cases h)
def ty39 : TI := { kind := .slice 31, size := 1, bytes := 24, zero := [.slice none 0 0], leaf := none }
@[simp] theorem ty39_by : ty39.bytes = 24 := rfl
theorem ty39_i : (Try.prog.info? 39).map (fun i => (i.size, i.bytes, i.zero)) = some (1, 24, some (.slice none 0 0)) := by kernel_rfl
theorem ty39_k : KindOk Try.prog 39 ty39.kind := show Try.prog.underlying 39 = some (.slice 31) from by kernel_rfl
theorem ty39_ok : TIOk Try.prog 39 ty39 := TIOk.of ty39_i rfl rfl ty39_k (fun ks h => by cases h)
def ty41 : TI := { kind := .struct [(0, 1), (1, 1), (2, 1), (3, 1), (4, 1), (5, 1), (6, 1)] [3, 24, 37, 38, 39, 3, 24], size := 7, bytes := 136, zero := [.int .i64 0, .slice none 0 0, .slice none 0 0, .slice none 0 0, .slice none 0 0, .int .i64 0, .slice none 0 0], leaf := none }
@[simp] theorem ty41_by : ty41.bytes = 136 := rfl
theorem ty41_i : (Try.prog.info? 41).map (fun i => (i.size, i.bytes, i.zero)) = some (7, 136, some (.agg #[.int .i64 0, .slice none 0 0, .slice none 0 0, .slice none 0 0, .slice none 0 0, .int .i64 0, .slice none 0 0])) := by kernel_rfl
theorem ty41_k : KindOk Try.prog 41 ty41.kind := KindOk.struct_of (by kernel_rfl)
theorem ty41_ok : TIOk Try.prog 41 ty41 := TIOk.of ty41_i rfl rfl ty41_k (fun ks h => by cases h)
def ty43 : TI := { kind := .int .i64, size := 1, bytes := 8, zero := [.int .i64 0], leaf := none }
@[simp] theorem ty43_by : ty43.bytes = 8 := rfl
theorem ty43_i : (Try.prog.info? 43).map (fun i => (i.size, i.bytes, i.zero)) = some (1, 8, some (.int .i64 0)) := by kernel_rfl
theorem ty43_k : KindOk Try.prog 43 ty43.kind := show Try.prog.underlying 43 = some (.int .i64) from by kernel_rfl
theorem ty43_ok : TIOk Try.prog 43 ty43 := TIOk.of ty43_i rfl rfl ty43_k (fun ks h => by cases h)
def ty60 : TI := { kind := .slice 62, size := 1, bytes := 24, zero := [.slice none 0 0], leaf := none }
@[simp] theorem ty60_by : ty60.bytes = 24 := rfl
theorem ty60_i : (Try.prog.info? 60).map (fun i => (i.size, i.bytes, i.zero)) = some (1, 24, some (.slice none 0 0)) := by kernel_rfl
theorem ty60_k : KindOk Try.prog 60 ty60.kind := show Try.prog.underlying 60 = some (.slice 62) from by kernel_rfl
theorem ty60_ok : TIOk Try.prog 60 ty60 := TIOk.of ty60_i rfl rfl ty60_k (fun ks h => by cases h)
def ty62 : TI := { kind := .struct [(0, 22), (22, 1)] [35, 3], size := 23, bytes := 208, zero := [.int .i64 0, .int .i64 0, .int .i64 0, .int .i64 0, .slice none 0 0, .int .i64 0, .int .i64 0, .int .i64 0, .int .i64 0, .slice none 0 0, .int .i64 0, .int .i64 0, .bool false, .bool false, .int .i64 0, .int .i64 0, .int .i64 0, .int .i64 0, .int .i64 0, .int .i64 0, .bool false, .int .i64 0, .int .i64 0], leaf := none }
@[simp] theorem ty62_by : ty62.bytes = 208 := rfl
theorem ty62_i : (Try.prog.info? 62).map (fun i => (i.size, i.bytes, i.zero)) = some (23, 208, some (.agg #[.int .i64 0, .int .i64 0, .int .i64 0, .int .i64 0, .slice none 0 0, .int .i64 0, .int .i64 0, .int .i64 0, .int .i64 0, .slice none 0 0, .int .i64 0, .int .i64 0, .bool false, .bool false, .int .i64 0, .int .i64 0, .int .i64 0, .int .i64 0, .int .i64 0, .int .i64 0, .bool false, .int .i64 0, .int .i64 0])) := by kernel_rfl
theorem ty62_k : KindOk Try.prog 62 ty62.kind := KindOk.struct_of (by kernel_rfl)
theorem ty62_ok : TIOk Try.prog 62 ty62 := TIOk.of ty62_i rfl rfl ty62_k (fun ks h => by cases h)
def ty64 : TI := { kind := .other, size := 1, bytes := 8, zero := [.nilFunc], leaf := none }
@[simp] theorem ty64_by : ty64.bytes = 8 := rfl
theorem ty64_i : (Try.prog.info? 64).map (fun i => (i.size, i.bytes, i.zero)) = some (1, 8, some (.nilFunc)) := by kernel_rfl
theorem ty64_k : KindOk Try.prog 64 ty64.kind := KindOk.other_of (by kernel_rfl)
theorem ty64_ok : TIOk Try.prog 64 ty64 := TIOk.of ty64_i rfl rfl ty64_k (fun ks h => by cases h)
def ty70 : TI := { kind := .other, size := 1, bytes := 8, zero := [.nilFunc], leaf := none }
@[simp] theorem ty70_by : ty70.bytes = 8 := rfl
theorem ty70_i : (Try.prog.info? 70).map (fun i => (i.size, i.bytes, i.zero)) = some (1, 8, some (.nilFunc)) := by kernel_rfl
theorem ty70_k : KindOk Try.prog 70 ty70.kind := KindOk.other_of (by kernel_rfl)
theorem ty70_ok : TIOk Try.prog 70 ty70 := TIOk.of ty70_i rfl rfl ty70_k (fun ks h => by cases h)
def ty71 : TI := { kind := .other, size := 1, bytes := 8, zero := [.nilFunc], leaf := none }
@[simp] theorem ty71_by : ty71.bytes = 8 := rfl
theorem ty71_i : (Try.prog.info? 71).map (fun i => (i.size, i.bytes, i.zero)) = some (1, 8, some (.nilFunc)) := by kernel_rfl
theorem ty71_k : KindOk Try.prog 71 ty71.kind := KindOk.other_of (by kernel_rfl)
theorem ty71_ok : TIOk Try.prog 71 ty71 := TIOk.of ty71_i rfl rfl ty71_k (fun ks h => by cases h)
def ty74 : TI := { kind := .struct [(0, 1), (1, 1), (2, 1), (3, 2)] [9, 3, 3, 29], size := 5, bytes := 48, zero := [.string { data := #[] }, .int .i64 0, .int .i64 0, .int .i64 0, .int .i64 0], leaf := none }
@[simp] theorem ty74_by : ty74.bytes = 48 := rfl
theorem ty74_i : (Try.prog.info? 74).map (fun i => (i.size, i.bytes, i.zero)) = some (5, 48, some (.agg #[.string { data := #[] }, .int .i64 0, .int .i64 0, .int .i64 0, .int .i64 0])) := by kernel_rfl
theorem ty74_k : KindOk Try.prog 74 ty74.kind := KindOk.struct_of (by kernel_rfl)
theorem ty74_ok : TIOk Try.prog 74 ty74 := TIOk.of ty74_i rfl rfl ty74_k (fun ks h => by cases h)
def ty76 : TI := { kind := .struct [(0, 1), (1, 1), (2, 1), (3, 1), (4, 1), (5, 2)] [3, 3, 3, 3, 3, 29], size := 7, bytes := 56, zero := [.int .i64 0, .int .i64 0, .int .i64 0, .int .i64 0, .int .i64 0, .int .i64 0, .int .i64 0], leaf := none }
@[simp] theorem ty76_by : ty76.bytes = 56 := rfl
theorem ty76_i : (Try.prog.info? 76).map (fun i => (i.size, i.bytes, i.zero)) = some (7, 56, some (.agg #[.int .i64 0, .int .i64 0, .int .i64 0, .int .i64 0, .int .i64 0, .int .i64 0, .int .i64 0])) := by kernel_rfl
theorem ty76_k : KindOk Try.prog 76 ty76.kind := KindOk.struct_of (by kernel_rfl)
theorem ty76_ok : TIOk Try.prog 76 ty76 := TIOk.of ty76_i rfl rfl ty76_k (fun ks h => by cases h)
def ty77 : TI := { kind := .other, size := 1, bytes := 8, zero := [.nilFunc], leaf := none }
@[simp] theorem ty77_by : ty77.bytes = 8 := rfl
theorem ty77_i : (Try.prog.info? 77).map (fun i => (i.size, i.bytes, i.zero)) = some (1, 8, some (.nilFunc)) := by kernel_rfl
theorem ty77_k : KindOk Try.prog 77 ty77.kind := KindOk.other_of (by kernel_rfl)
theorem ty77_ok : TIOk Try.prog 77 ty77 := TIOk.of ty77_i rfl rfl ty77_k (fun ks h => by cases h)
def ty79 : TI := { kind := .other, size := 1, bytes := 8, zero := [.nilFunc], leaf := none }
@[simp] theorem ty79_by : ty79.bytes = 8 := rfl
theorem ty79_i : (Try.prog.info? 79).map (fun i => (i.size, i.bytes, i.zero)) = some (1, 8, some (.nilFunc)) := by kernel_rfl
theorem ty79_k : KindOk Try.prog 79 ty79.kind := KindOk.other_of (by kernel_rfl)
theorem ty79_ok : TIOk Try.prog 79 ty79 := TIOk.of ty79_i rfl rfl ty79_k (fun ks h => by cases h)
def ty81 : TI := { kind := .struct [(0, 1), (1, 1), (2, 1), (3, 1), (4, 1)] [3, 3, 4, 4, 79], size := 5, bytes := 32, zero := [.int .i64 0, .int .i64 0, .bool false, .bool false, .nilFunc], leaf := none }
@[simp] theorem ty81_by : ty81.bytes = 32 := rfl
theorem ty81_i : (Try.prog.info? 81).map (fun i => (i.size, i.bytes, i.zero)) = some (5, 32, some (.agg #[.int .i64 0, .int .i64 0, .bool false, .bool false, .nilFunc])) := by kernel_rfl
theorem ty81_k : KindOk Try.prog 81 ty81.kind := KindOk.struct_of (by kernel_rfl)
theorem ty81_ok : TIOk Try.prog 81 ty81 := TIOk.of ty81_i rfl rfl ty81_k (fun ks h => by cases h)
def ty83 : TI := { kind := .map 3 81, size := 1, bytes := 8, zero := [.map none], leaf := none }
@[simp] theorem ty83_by : ty83.bytes = 8 := rfl
theorem ty83_i : (Try.prog.info? 83).map (fun i => (i.size, i.bytes, i.zero)) = some (1, 8, some (.map none)) := by kernel_rfl
theorem ty83_k : KindOk Try.prog 83 ty83.kind := show Try.prog.underlying 83 = some (.map 3 81) from by kernel_rfl
theorem ty83_ok : TIOk Try.prog 83 ty83 := TIOk.of ty83_i rfl rfl ty83_k (fun ks h => by cases h)
def ty92 : TI := { kind := .int .u64, size := 1, bytes := 8, zero := [.int .u64 0], leaf := none }
@[simp] theorem ty92_by : ty92.bytes = 8 := rfl
theorem ty92_i : (Try.prog.info? 92).map (fun i => (i.size, i.bytes, i.zero)) = some (1, 8, some (.int .u64 0)) := by kernel_rfl
theorem ty92_k : KindOk Try.prog 92 ty92.kind := show Try.prog.underlying 92 = some (.int .u64) from by kernel_rfl
theorem ty92_ok : TIOk Try.prog 92 ty92 := TIOk.of ty92_i rfl rfl ty92_k (fun ks h => by cases h)
def ty98 : TI := { kind := .struct [(0, 1), (1, 1)] [3, 3], size := 2, bytes := 16, zero := [.int .i64 0, .int .i64 0], leaf := none }
@[simp] theorem ty98_by : ty98.bytes = 16 := rfl
theorem ty98_i : (Try.prog.info? 98).map (fun i => (i.size, i.bytes, i.zero)) = some (2, 16, some (.agg #[.int .i64 0, .int .i64 0])) := by kernel_rfl
theorem ty98_k : KindOk Try.prog 98 ty98.kind := KindOk.struct_of (by kernel_rfl)
theorem ty98_ok : TIOk Try.prog 98 ty98 := TIOk.of ty98_i rfl rfl ty98_k (fun ks h => by cases h)
def ty99 : TI := { kind := .other, size := 1, bytes := 8, zero := [.nilFunc], leaf := none }
@[simp] theorem ty99_by : ty99.bytes = 8 := rfl
theorem ty99_i : (Try.prog.info? 99).map (fun i => (i.size, i.bytes, i.zero)) = some (1, 8, some (.nilFunc)) := by kernel_rfl
theorem ty99_k : KindOk Try.prog 99 ty99.kind := KindOk.other_of (by kernel_rfl)
theorem ty99_ok : TIOk Try.prog 99 ty99 := TIOk.of ty99_i rfl rfl ty99_k (fun ks h => by cases h)
def ty116 : TI := { kind := .int .u32, size := 1, bytes := 4, zero := [.int .u32 0], leaf := none }
@[simp] theorem ty116_by : ty116.bytes = 4 := rfl
theorem ty116_i : (Try.prog.info? 116).map (fun i => (i.size, i.bytes, i.zero)) = some (1, 4, some (.int .u32 0)) := by kernel_rfl
theorem ty116_k : KindOk Try.prog 116 ty116.kind := show Try.prog.underlying 116 = some (.int .u32) from by kernel_rfl
theorem ty116_ok : TIOk Try.prog 116 ty116 := TIOk.of ty116_i rfl rfl ty116_k (fun ks h => by cases h)
def ty118 : TI := { kind := .int .u64, size := 1, bytes := 8, zero := [.int .u64 0], leaf := none }
@[simp] theorem ty118_by : ty118.bytes = 8 := rfl
theorem ty118_i : (Try.prog.info? 118).map (fun i => (i.size, i.bytes, i.zero)) = some (1, 8, some (.int .u64 0)) := by kernel_rfl
theorem ty118_k : KindOk Try.prog 118 ty118.kind := show Try.prog.underlying 118 = some (.int .u64) from by kernel_rfl
theorem ty118_ok : TIOk Try.prog 118 ty118 := TIOk.of ty118_i rfl rfl ty118_k (fun ks h => by cases h)
def ty121 : TI := { kind := .slice 74, size := 1, bytes := 24, zero := [.slice none 0 0], leaf := none }
@[simp] theorem ty121_by : ty121.bytes = 24 := rfl
theorem ty121_i : (Try.prog.info? 121).map (fun i => (i.size, i.bytes, i.zero)) = some (1, 24, some (.slice none 0 0)) := by kernel_rfl
theorem ty121_k : KindOk Try.prog 121 ty121.kind := show Try.prog.underlying 121 = some (.slice 74) from by kernel_rfl
theorem ty121_ok : TIOk Try.prog 121 ty121 := TIOk.of ty121_i rfl rfl ty121_k (fun ks h => by cases h)
def ty133 : TI := { kind := .slice 118, size := 1, bytes := 24, zero := [.slice none 0 0], leaf := none }
@[simp] theorem ty133_by : ty133.bytes = 24 := rfl
theorem ty133_i : (Try.prog.info? 133).map (fun i => (i.size, i.bytes, i.zero)) = some (1, 24, some (.slice none 0 0)) := by kernel_rfl
theorem ty133_k : KindOk Try.prog 133 ty133.kind := show Try.prog.underlying 133 = some (.slice 118) from by kernel_rfl
theorem ty133_ok : TIOk Try.prog 133 ty133 := TIOk.of ty133_i rfl rfl ty133_k (fun ks h => by cases h)
def TB : TE := [(1, ty1), (2, ty2), (3, ty3), (4, ty4), (5, ty5), (9, ty9), (22, ty22), (24, ty24), (26, ty26), (27, ty27), (29, ty29), (31, ty31), (33, ty33), (35, ty35), (37, ty37), (38, ty38), (39, ty39), (41, ty41), (43, ty43), (60, ty60), (62, ty62), (64, ty64), (70, ty70), (71, ty71), (74, ty74), (76, ty76), (77, ty77), (79, ty79), (81, ty81), (83, ty83), (92, ty92), (98, ty98), (99, ty99), (116, ty116), (118, ty118), (121, ty121), (133, ty133)]
theorem TB_ok : TOk Try.prog TB := TOk.cons ty1_ok (TOk.cons ty2_ok (TOk.cons ty3_ok (TOk.cons ty4_ok (TOk.cons ty5_ok (TOk.cons ty9_ok (TOk.cons ty22_ok (TOk.cons ty24_ok (TOk.cons ty26_ok (TOk.cons ty27_ok (TOk.cons ty29_ok (TOk.cons ty31_ok (TOk.cons ty33_ok (TOk.cons ty35_ok (TOk.cons ty37_ok (TOk.cons ty38_ok (TOk.cons ty39_ok (TOk.cons ty41_ok (TOk.cons ty43_ok (TOk.cons ty60_ok (TOk.cons ty62_ok (TOk.cons ty64_ok (TOk.cons ty70_ok (TOk.cons ty71_ok (TOk.cons ty74_ok (TOk.cons ty76_ok (TOk.cons ty77_ok (TOk.cons ty79_ok (TOk.cons ty81_ok (TOk.cons ty83_ok (TOk.cons ty92_ok (TOk.cons ty98_ok (TOk.cons ty99_ok (TOk.cons ty116_ok (TOk.cons ty118_ok (TOk.cons ty121_ok (TOk.cons ty133_ok (TOk.nil _)))))))))))))))))))))))))))))))))))))
theorem leaf29 : LeafOk Try.prog 29 [.int .i64, .int .i64] := LeafOk.of (n := 9) TB_ok rfl (by decide) (by kernel_rfl) (by kernel_rfl)
def ty29e : TI := { kind := ty29.kind, size := 2, bytes := 16, zero := [.int .i64 0, .int .i64 0], leaf := some [.int .i64, .int .i64] }
@[simp] theorem ty29e_by : ty29e.bytes = 16 := rfl
theorem ty29e_ok : TIOk Try.prog 29 ty29e := TIOk.of ty29_i rfl rfl ty29_k (fun ks h => by injection h with h; exact h ▸ leaf29)
theorem leaf74 : LeafOk Try.prog 74 [.string, .int .i64, .int .i64, .int .i64, .int .i64] := LeafOk.of (n := 9) TB_ok rfl (by decide) (by kernel_rfl) (by kernel_rfl)
def ty74e : TI := { kind := ty74.kind, size := 5, bytes := 48, zero := [.string { data := #[] }, .int .i64 0, .int .i64 0, .int .i64 0, .int .i64 0], leaf := some [.string, .int .i64, .int .i64, .int .i64, .int .i64] }
@[simp] theorem ty74e_by : ty74e.bytes = 48 := rfl
theorem ty74e_ok : TIOk Try.prog 74 ty74e := TIOk.of ty74_i rfl rfl ty74_k (fun ks h => by injection h with h; exact h ▸ leaf74)
theorem leaf76 : LeafOk Try.prog 76 [.int .i64, .int .i64, .int .i64, .int .i64, .int .i64, .int .i64, .int .i64] := LeafOk.of (n := 9) TB_ok rfl (by decide) (by kernel_rfl) (by kernel_rfl)
def ty76e : TI := { kind := ty76.kind, size := 7, bytes := 56, zero := [.int .i64 0, .int .i64 0, .int .i64 0, .int .i64 0, .int .i64 0, .int .i64 0, .int .i64 0], leaf := some [.int .i64, .int .i64, .int .i64, .int .i64, .int .i64, .int .i64, .int .i64] }
@[simp] theorem ty76e_by : ty76e.bytes = 56 := rfl
theorem ty76e_ok : TIOk Try.prog 76 ty76e := TIOk.of ty76_i rfl rfl ty76_k (fun ks h => by injection h with h; exact h ▸ leaf76)
theorem leaf98 : LeafOk Try.prog 98 [.int .i64, .int .i64] := LeafOk.of (n := 9) TB_ok rfl (by decide) (by kernel_rfl) (by kernel_rfl)
def ty98e : TI := { kind := ty98.kind, size := 2, bytes := 16, zero := [.int .i64 0, .int .i64 0], leaf := some [.int .i64, .int .i64] }
@[simp] theorem ty98e_by : ty98e.bytes = 16 := rfl
theorem ty98e_ok : TIOk Try.prog 98 ty98e := TIOk.of ty98_i rfl rfl ty98_k (fun ks h => by injection h with h; exact h ▸ leaf98)
def TT : TE := [(1, ty1), (2, ty2), (3, ty3), (4, ty4), (5, ty5), (9, ty9), (22, ty22), (24, ty24), (26, ty26), (27, ty27), (29, ty29e), (31, ty31), (33, ty33), (35, ty35), (37, ty37), (38, ty38), (39, ty39), (41, ty41), (43, ty43), (60, ty60), (62, ty62), (64, ty64), (70, ty70), (71, ty71), (74, ty74e), (76, ty76e), (77, ty77), (79, ty79), (81, ty81), (83, ty83), (92, ty92), (98, ty98e), (99, ty99), (116, ty116), (118, ty118), (121, ty121), (133, ty133)]
theorem TT_ok : TOk Try.prog TT := TOk.cons ty1_ok (TOk.cons ty2_ok (TOk.cons ty3_ok (TOk.cons ty4_ok (TOk.cons ty5_ok (TOk.cons ty9_ok (TOk.cons ty22_ok (TOk.cons ty24_ok (TOk.cons ty26_ok (TOk.cons ty27_ok (TOk.cons ty29e_ok (TOk.cons ty31_ok (TOk.cons ty33_ok (TOk.cons ty35_ok (TOk.cons ty37_ok (TOk.cons ty38_ok (TOk.cons ty39_ok (TOk.cons ty41_ok (TOk.cons ty43_ok (TOk.cons ty60_ok (TOk.cons ty62_ok (TOk.cons ty64_ok (TOk.cons ty70_ok (TOk.cons ty71_ok (TOk.cons ty74e_ok (TOk.cons ty76e_ok (TOk.cons ty77_ok (TOk.cons ty79_ok (TOk.cons ty81_ok (TOk.cons ty83_ok (TOk.cons ty92_ok (TOk.cons ty98e_ok (TOk.cons ty99_ok (TOk.cons ty116_ok (TOk.cons ty118_ok (TOk.cons ty121_ok (TOk.cons ty133_ok (TOk.nil _)))))))))))))))))))))))))))))))))))))
end Go.Proofs.Ytofdehlikigonaa
