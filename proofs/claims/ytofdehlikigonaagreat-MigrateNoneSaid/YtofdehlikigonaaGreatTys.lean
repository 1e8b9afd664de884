/- The engine's table of this seat's types, and that the program's own agrees: written by gentys.py. -/
import Derived.Test.YtofdehlikigonaaGreatP4
import Derived.Test.YtofdehlikigonaaGreatChecked
namespace Go.Proofs.YtofdehlikigonaaGreat
open Go.Eng
def ty1 : TI := { kind := .other, size := 1, bytes := 8, zero := [.nilFunc], leaf := none }
@[simp] theorem ty1_by : ty1.bytes = 8 := rfl
theorem ty1_i : (Tryz.prog.info? 1).map (fun i => (i.size, i.bytes, i.zero)) = some (1, 8, some (.nilFunc)) := by kernel_rfl
theorem ty1_k : KindOk Tryz.prog 1 ty1.kind := KindOk.other_of (by kernel_rfl)
theorem ty1_ok : TIOk Tryz.prog 1 ty1 := TIOk.of ty1_i rfl rfl ty1_k (fun ks h => by cases h)
def ty2 : TI := { kind := .int .i64, size := 1, bytes := 8, zero := [.int .i64 0], leaf := none }
@[simp] theorem ty2_by : ty2.bytes = 8 := rfl
theorem ty2_i : (Tryz.prog.info? 2).map (fun i => (i.size, i.bytes, i.zero)) = some (1, 8, some (.int .i64 0)) := by kernel_rfl
theorem ty2_k : KindOk Tryz.prog 2 ty2.kind := show Tryz.prog.underlying 2 = some (.int .i64) from by kernel_rfl
theorem ty2_ok : TIOk Tryz.prog 2 ty2 := TIOk.of ty2_i rfl rfl ty2_k (fun ks h => by cases h)
def ty3 : TI := { kind := .int .i64, size := 1, bytes := 8, zero := [.int .i64 0], leaf := none }
@[simp] theorem ty3_by : ty3.bytes = 8 := rfl
theorem ty3_i : (Tryz.prog.info? 3).map (fun i => (i.size, i.bytes, i.zero)) = some (1, 8, some (.int .i64 0)) := by kernel_rfl
theorem ty3_k : KindOk Tryz.prog 3 ty3.kind := show Tryz.prog.underlying 3 = some (.int .i64) from by kernel_rfl
theorem ty3_ok : TIOk Tryz.prog 3 ty3 := TIOk.of ty3_i rfl rfl ty3_k (fun ks h => by cases h)
def ty4 : TI := { kind := .bool, size := 1, bytes := 1, zero := [.bool false], leaf := none }
@[simp] theorem ty4_by : ty4.bytes = 1 := rfl
theorem ty4_i : (Tryz.prog.info? 4).map (fun i => (i.size, i.bytes, i.zero)) = some (1, 1, some (.bool false)) := by kernel_rfl
theorem ty4_k : KindOk Tryz.prog 4 ty4.kind := show Tryz.prog.underlying 4 = some .bool from by kernel_rfl
theorem ty4_ok : TIOk Tryz.prog 4 ty4 := TIOk.of ty4_i rfl rfl ty4_k (fun ks h => by cases h)
def ty5 : TI := { kind := .int .u8, size := 1, bytes := 1, zero := [.int .u8 0], leaf := none }
@[simp] theorem ty5_by : ty5.bytes = 1 := rfl
theorem ty5_i : (Tryz.prog.info? 5).map (fun i => (i.size, i.bytes, i.zero)) = some (1, 1, some (.int .u8 0)) := by kernel_rfl
theorem ty5_k : KindOk Tryz.prog 5 ty5.kind := show Tryz.prog.underlying 5 = some (.int .u8) from by kernel_rfl
theorem ty5_ok : TIOk Tryz.prog 5 ty5 := TIOk.of ty5_i rfl rfl ty5_k (fun ks h => by cases h)
def ty9 : TI := { kind := .string, size := 1, bytes := 16, zero := [.string { data := #[] }], leaf := none }
@[simp] theorem ty9_by : ty9.bytes = 16 := rfl
theorem ty9_i : (Tryz.prog.info? 9).map (fun i => (i.size, i.bytes, i.zero)) = some (1, 16, some (.string { data := #[] })) := by kernel_rfl
theorem ty9_k : KindOk Tryz.prog 9 ty9.kind := show Tryz.prog.underlying 9 = some .string from by kernel_rfl
theorem ty9_ok : TIOk Tryz.prog 9 ty9 := TIOk.of ty9_i rfl rfl ty9_k (fun ks h => by cases h)
def ty22 : TI := { kind := .slice 3, size := 1, bytes := 24, zero := [.slice none 0 0], leaf := none }
@[simp] theorem ty22_by : ty22.bytes = 24 := rfl
theorem ty22_i : (Tryz.prog.info? 22).map (fun i => (i.size, i.bytes, i.zero)) = some (1, 24, some (.slice none 0 0)) := by kernel_rfl
theorem ty22_k : KindOk Tryz.prog 22 ty22.kind := show Tryz.prog.underlying 22 = some (.slice 3) from by kernel_rfl
theorem ty22_ok : TIOk Tryz.prog 22 ty22 := TIOk.of ty22_i rfl rfl ty22_k (fun ks h => by cases h)
def ty23 : TI := { kind := .slice 90, size := 1, bytes := 24, zero := [.slice none 0 0], leaf := none }
@[simp] theorem ty23_by : ty23.bytes = 24 := rfl
theorem ty23_i : (Tryz.prog.info? 23).map (fun i => (i.size, i.bytes, i.zero)) = some (1, 24, some (.slice none 0 0)) := by kernel_rfl
theorem ty23_k : KindOk Tryz.prog 23 ty23.kind := show Tryz.prog.underlying 23 = some (.slice 90) from by kernel_rfl
theorem ty23_ok : TIOk Tryz.prog 23 ty23 := TIOk.of ty23_i rfl rfl ty23_k (fun ks h => by cases h)
def ty24 : TI := { kind := .slice 76, size := 1, bytes := 24, zero := [.slice none 0 0], leaf := none }
@[simp] theorem ty24_by : ty24.bytes = 24 := rfl
theorem ty24_i : (Tryz.prog.info? 24).map (fun i => (i.size, i.bytes, i.zero)) = some (1, 24, some (.slice none 0 0)) := by kernel_rfl
theorem ty24_k : KindOk Tryz.prog 24 ty24.kind := show Tryz.prog.underlying 24 = some (.slice 76) from by kernel_rfl
theorem ty24_ok : TIOk Tryz.prog 24 ty24 := TIOk.of ty24_i rfl rfl ty24_k (fun ks h => by cases h)
def ty25 : TI := { kind := .slice 32, size := 1, bytes := 24, zero := [.slice none 0 0], leaf := none }
@[simp] theorem ty25_by : ty25.bytes = 24 := rfl
theorem ty25_i : (Tryz.prog.info? 25).map (fun i => (i.size, i.bytes, i.zero)) = some (1, 24, some (.slice none 0 0)) := by kernel_rfl
theorem ty25_k : KindOk Tryz.prog 25 ty25.kind := show Tryz.prog.underlying 25 = some (.slice 32) from by kernel_rfl
theorem ty25_ok : TIOk Tryz.prog 25 ty25 := TIOk.of ty25_i rfl rfl ty25_k (fun ks h => by cases h)
def ty27 : TI := { kind := .struct [(0, 1), (1, 1), (2, 1), (3, 1), (4, 1), (5, 1), (6, 1)] [3, 22, 23, 24, 25, 3, 22], size := 7, bytes := 136, zero := [.int .i64 0, .slice none 0 0, .slice none 0 0, .slice none 0 0, .slice none 0 0, .int .i64 0, .slice none 0 0], leaf := none }
@[simp] theorem ty27_by : ty27.bytes = 136 := rfl
theorem ty27_i : (Tryz.prog.info? 27).map (fun i => (i.size, i.bytes, i.zero)) = some (7, 136, some (.agg #[.int .i64 0, .slice none 0 0, .slice none 0 0, .slice none 0 0, .slice none 0 0, .int .i64 0, .slice none 0 0])) := by kernel_rfl
theorem ty27_k : KindOk Tryz.prog 27 ty27.kind := KindOk.struct_of (by kernel_rfl)
theorem ty27_ok : TIOk Tryz.prog 27 ty27 := TIOk.of ty27_i rfl rfl ty27_k (fun ks h => by cases h)
def ty28 : TI := { kind := .slice 112, size := 1, bytes := 24, zero := [.slice none 0 0], leaf := none }
@[simp] theorem ty28_by : ty28.bytes = 24 := rfl
theorem ty28_i : (Tryz.prog.info? 28).map (fun i => (i.size, i.bytes, i.zero)) = some (1, 24, some (.slice none 0 0)) := by kernel_rfl
theorem ty28_k : KindOk Tryz.prog 28 ty28.kind := show Tryz.prog.underlying 28 = some (.slice 112) from by kernel_rfl
theorem ty28_ok : TIOk Tryz.prog 28 ty28 := TIOk.of ty28_i rfl rfl ty28_k (fun ks h => by cases h)
def ty30 : TI := { kind := .struct [(0, 1), (1, 1)] [3, 3], size := 2, bytes := 16, zero := [.int .i64 0, .int .i64 0], leaf := none }
@[simp] theorem ty30_by : ty30.bytes = 16 := rfl
theorem ty30_i : (Tryz.prog.info? 30).map (fun i => (i.size, i.bytes, i.zero)) = some (2, 16, some (.agg #[.int .i64 0, .int .i64 0])) := by kernel_rfl
theorem ty30_k : KindOk Tryz.prog 30 ty30.kind := KindOk.struct_of (by kernel_rfl)
theorem ty30_ok : TIOk Tryz.prog 30 ty30 := TIOk.of ty30_i rfl rfl ty30_k (fun ks h => by cases h)
def ty32 : TI := { kind := .struct [(0, 1), (1, 1), (2, 1), (3, 1), (4, 1), (5, 1), (6, 1), (7, 1), (8, 1), (9, 1), (10, 1), (11, 2), (13, 1), (14, 1), (15, 1)] [3, 3, 3, 3, 28, 3, 3, 4, 4, 3, 3, 30, 3, 3, 4], size := 16, bytes := 136, zero := [.int .i64 0, .int .i64 0, .int .i64 0, .int .i64 0, .slice none 0 0, .int .i64 0, .int .i64 0, .bool false, .bool false, .int .i64 0, .int .i64 0, .int .i64 0, .int .i64 0, .int .i64 0, .int .i64 0, .bool false], leaf := none }
@[simp] theorem ty32_by : ty32.bytes = 136 := rfl
theorem ty32_i : (Tryz.prog.info? 32).map (fun i => (i.size, i.bytes, i.zero)) = some (16, 136, some (.agg #[.int .i64 0, .int .i64 0, .int .i64 0, .int .i64 0, .slice none 0 0, .int .i64 0, .int .i64 0, .bool false, .bool false, .int .i64 0, .int .i64 0, .int .i64 0, .int .i64 0, .int .i64 0, .int .i64 0, .bool false])) := by kernel_rfl
theorem ty32_k : KindOk Tryz.prog 32 ty32.kind := KindOk.struct_of (by kernel_rfl)
theorem ty32_ok : TIOk Tryz.prog 32 ty32 := TIOk.of ty32_i rfl rfl ty32_k (fun ks h => by cases h)
def ty34 : TI := { kind := .struct [(0, 1), (1, 1), (2, 16), (18, 1)] [3, 22, 32, 3], size := 19, bytes := 176, zero := [.int .i64 0, .slice none 0 0, .int .i64 0, .int .i64 0, .int .i64 0, .int .i64 0, .slice none 0 0, .int .i64 0, .int .i64 0, .bool false, .bool false, .int .i64 0, .int .i64 0, .int .i64 0, .int .i64 0, .int .i64 0, .int .i64 0, .bool false, .int .i64 0], leaf := none }
@[simp] theorem ty34_by : ty34.bytes = 176 := rfl
theorem ty34_i : (Tryz.prog.info? 34).map (fun i => (i.size, i.bytes, i.zero)) = some (19, 176, some (.agg #[.int .i64 0, .slice none 0 0, .int .i64 0, .int .i64 0, .int .i64 0, .int .i64 0, .slice none 0 0, .int .i64 0, .int .i64 0, .bool false, .bool false, .int .i64 0, .int .i64 0, .int .i64 0, .int .i64 0, .int .i64 0, .int .i64 0, .bool false, .int .i64 0])) := by kernel_rfl
theorem ty34_k : KindOk Tryz.prog 34 ty34.kind := KindOk.struct_of (by kernel_rfl)
theorem ty34_ok : TIOk Tryz.prog 34 ty34 := TIOk.of ty34_i rfl rfl ty34_k (fun ks h => by cases h)
def ty35 : TI := { kind := .slice 4, size := 1, bytes := 24, zero := [.slice none 0 0], leaf := none }
@[simp] theorem ty35_by : ty35.bytes = 24 := rfl
theorem ty35_i : (Tryz.prog.info? 35).map (fun i => (i.size, i.bytes, i.zero)) = some (1, 24, some (.slice none 0 0)) := by kernel_rfl
theorem ty35_k : KindOk Tryz.prog 35 ty35.kind := show Tryz.prog.underlying 35 = some (.slice 4) from by kernel_rfl
theorem ty35_ok : TIOk Tryz.prog 35 ty35 := TIOk.of ty35_i rfl rfl ty35_k (fun ks h => by cases h)
def ty36 : TI := { kind := .slice 47, size := 1, bytes := 24, zero := [.slice none 0 0], leaf := none }
@[simp] theorem ty36_by : ty36.bytes = 24 := rfl
theorem ty36_i : (Tryz.prog.info? 36).map (fun i => (i.size, i.bytes, i.zero)) = some (1, 24, some (.slice none 0 0)) := by kernel_rfl
theorem ty36_k : KindOk Tryz.prog 36 ty36.kind := show Tryz.prog.underlying 36 = some (.slice 47) from by kernel_rfl
theorem ty36_ok : TIOk Tryz.prog 36 ty36 := TIOk.of ty36_i rfl rfl ty36_k (fun ks h => by cases h)
def ty38 : TI := { kind := .struct [(0, 1), (1, 1), (2, 1), (3, 1)] [3, 22, 35, 36], size := 4, bytes := 80, zero := [.int .i64 0, .slice none 0 0, .slice none 0 0, .slice none 0 0], leaf := none }
@[simp] theorem ty38_by : ty38.bytes = 80 := rfl
theorem ty38_i : (Tryz.prog.info? 38).map (fun i => (i.size, i.bytes, i.zero)) = some (4, 80, some (.agg #[.int .i64 0, .slice none 0 0, .slice none 0 0, .slice none 0 0])) := by kernel_rfl
theorem ty38_k : KindOk Tryz.prog 38 ty38.kind := KindOk.struct_of (by kernel_rfl)
theorem ty38_ok : TIOk Tryz.prog 38 ty38 := TIOk.of ty38_i rfl rfl ty38_k (fun ks h => by cases h)
def ty43 : TI := { kind := .int .i64, size := 1, bytes := 8, zero := [.int .i64 0], leaf := none }
@[simp] theorem ty43_by : ty43.bytes = 8 := rfl
theorem ty43_i : (Tryz.prog.info? 43).map (fun i => (i.size, i.bytes, i.zero)) = some (1, 8, some (.int .i64 0)) := by kernel_rfl
theorem ty43_k : KindOk Tryz.prog 43 ty43.kind := show Tryz.prog.underlying 43 = some (.int .i64) from by kernel_rfl
theorem ty43_ok : TIOk Tryz.prog 43 ty43 := TIOk.of ty43_i rfl rfl ty43_k (fun ks h => by cases h)
def ty47 : TI := { kind := .struct [(0, 1), (1, 1), (2, 1), (3, 1), (4, 1)] [3, 3, 3, 3, 4], size := 5, bytes := 40, zero := [.int .i64 0, .int .i64 0, .int .i64 0, .int .i64 0, .bool false], leaf := none }
@[simp] theorem ty47_by : ty47.bytes = 40 := rfl
theorem ty47_i : (Tryz.prog.info? 47).map (fun i => (i.size, i.bytes, i.zero)) = some (5, 40, some (.agg #[.int .i64 0, .int .i64 0, .int .i64 0, .int .i64 0, .bool false])) := by kernel_rfl
theorem ty47_k : KindOk Tryz.prog 47 ty47.kind := KindOk.struct_of (by kernel_rfl)
theorem ty47_ok : TIOk Tryz.prog 47 ty47 := TIOk.of ty47_i rfl rfl ty47_k (fun ks h => by cases h)
def ty51 : TI := { kind := .int .u16, size := 1, bytes := 2, zero := [.int .u16 0], leaf := none }
@[simp] theorem ty51_by : ty51.bytes = 2 := rfl
theorem ty51_i : (Tryz.prog.info? 51).map (fun i => (i.size, i.bytes, i.zero)) = some (1, 2, some (.int .u16 0)) := by kernel_rfl
theorem ty51_k : KindOk Tryz.prog 51 ty51.kind := show Tryz.prog.underlying 51 = some (.int .u16) from by kernel_rfl
theorem ty51_ok : TIOk Tryz.prog 51 ty51 := TIOk.of ty51_i rfl rfl ty51_k (fun ks h => by cases h)
def ty57 : TI := { kind := .slice 27, size := 1, bytes := 24, zero := [.slice none 0 0], leaf := none }
@[simp] theorem ty57_by : ty57.bytes = 24 := rfl
theorem ty57_i : (Tryz.prog.info? 57).map (fun i => (i.size, i.bytes, i.zero)) = some (1, 24, some (.slice none 0 0)) := by kernel_rfl
theorem ty57_k : KindOk Tryz.prog 57 ty57.kind := show Tryz.prog.underlying 57 = some (.slice 27) from by kernel_rfl
theorem ty57_ok : TIOk Tryz.prog 57 ty57 := TIOk.of ty57_i rfl rfl ty57_k (fun ks h => by cases h)
def ty58 : TI := { kind := .slice 38, size := 1, bytes := 24, zero := [.slice none 0 0], leaf := none }
@[simp] theorem ty58_by : ty58.bytes = 24 := rfl
theorem ty58_i : (Tryz.prog.info? 58).map (fun i => (i.size, i.bytes, i.zero)) = some (1, 24, some (.slice none 0 0)) := by kernel_rfl
theorem ty58_k : KindOk Tryz.prog 58 ty58.kind := show Tryz.prog.underlying 58 = some (.slice 38) from by kernel_rfl
theorem ty58_ok : TIOk Tryz.prog 58 ty58 := TIOk.of ty58_i rfl rfl ty58_k (fun ks h => by cases h)
def ty69 : TI := { kind := .struct [(0, 1), (1, 1), (2, 1), (3, 19)] [3, 3, 3, 34], size := 22, bytes := 200, zero := [.int .i64 0, .int .i64 0, .int .i64 0, .int .i64 0, .slice none 0 0, .int .i64 0, .int .i64 0, .int .i64 0, .int .i64 0, .slice none 0 0, .int .i64 0, .int .i64 0, .bool false, .bool false, .int .i64 0, .int .i64 0, .int .i64 0, .int .i64 0, .int .i64 0, .int .i64 0, .bool false, .int .i64 0], leaf := none }
@[simp] theorem ty69_by : ty69.bytes = 200 := rfl
theorem ty69_i : (Tryz.prog.info? 69).map (fun i => (i.size, i.bytes, i.zero)) = some (22, 200, some (.agg #[.int .i64 0, .int .i64 0, .int .i64 0, .int .i64 0, .slice none 0 0, .int .i64 0, .int .i64 0, .int .i64 0, .int .i64 0, .slice none 0 0, .int .i64 0, .int .i64 0, .bool false, .bool false, .int .i64 0, .int .i64 0, .int .i64 0, .int .i64 0, .int .i64 0, .int .i64 0, .bool false, .int .i64 0])) := by kernel_rfl
theorem ty69_k : KindOk Tryz.prog 69 ty69.kind := KindOk.struct_of (by kernel_rfl)
theorem ty69_ok : TIOk Tryz.prog 69 ty69 := TIOk.of ty69_i rfl rfl ty69_k (fun ks h => by cases h)
def ty70 : TI := { kind := .slice 69, size := 1, bytes := 24, zero := [.slice none 0 0], leaf := none }
@[simp] theorem ty70_by : ty70.bytes = 24 := rfl
theorem ty70_i : (Tryz.prog.info? 70).map (fun i => (i.size, i.bytes, i.zero)) = some (1, 24, some (.slice none 0 0)) := by kernel_rfl
theorem ty70_k : KindOk Tryz.prog 70 ty70.kind := show Tryz.prog.underlying 70 = some (.slice 69) from by kernel_rfl
theorem ty70_ok : TIOk Tryz.prog 70 ty70 := TIOk.of ty70_i rfl rfl ty70_k (fun ks h => by cases h)
def ty76 : TI := { kind := .struct [(0, 1), (1, 1), (2, 1), (3, 1), (4, 1), (5, 2)] [3, 3, 3, 3, 3, 30], size := 7, bytes := 56, zero := [.int .i64 0, .int .i64 0, .int .i64 0, .int .i64 0, .int .i64 0, .int .i64 0, .int .i64 0], leaf := none }
@[simp] theorem ty76_by : ty76.bytes = 56 := rfl
theorem ty76_i : (Tryz.prog.info? 76).map (fun i => (i.size, i.bytes, i.zero)) = some (7, 56, some (.agg #[.int .i64 0, .int .i64 0, .int .i64 0, .int .i64 0, .int .i64 0, .int .i64 0, .int .i64 0])) := by kernel_rfl
theorem ty76_k : KindOk Tryz.prog 76 ty76.kind := KindOk.struct_of (by kernel_rfl)
theorem ty76_ok : TIOk Tryz.prog 76 ty76 := TIOk.of ty76_i rfl rfl ty76_k (fun ks h => by cases h)
def ty79 : TI := { kind := .other, size := 1, bytes := 8, zero := [.nilFunc], leaf := none }
@[simp] theorem ty79_by : ty79.bytes = 8 := rfl
theorem ty79_i : (Tryz.prog.info? 79).map (fun i => (i.size, i.bytes, i.zero)) = some (1, 8, some (.nilFunc)) := by kernel_rfl
theorem ty79_k : KindOk Tryz.prog 79 ty79.kind := KindOk.other_of (by kernel_rfl)
theorem ty79_ok : TIOk Tryz.prog 79 ty79 := TIOk.of ty79_i rfl rfl ty79_k (fun ks h => by cases h)
def ty81 : TI := { kind := .struct [(0, 1), (1, 1), (2, 1), (3, 1), (4, 1)] [3, 3, 4, 4, 79], size := 5, bytes := 32, zero := [.int .i64 0, .int .i64 0, .bool false, .bool false, .nilFunc], leaf := none }
@[simp] theorem ty81_by : ty81.bytes = 32 := rfl
theorem ty81_i : (Tryz.prog.info? 81).map (fun i => (i.size, i.bytes, i.zero)) = some (5, 32, some (.agg #[.int .i64 0, .int .i64 0, .bool false, .bool false, .nilFunc])) := by kernel_rfl
theorem ty81_k : KindOk Tryz.prog 81 ty81.kind := KindOk.struct_of (by kernel_rfl)
theorem ty81_ok : TIOk Tryz.prog 81 ty81 := TIOk.of ty81_i rfl rfl ty81_k (fun ks h => by cases h)
def ty83 : TI := { kind := .map 3 81, size := 1, bytes := 8, zero := [.map none], leaf := none }
@[simp] theorem ty83_by : ty83.bytes = 8 := rfl
theorem ty83_i : (Tryz.prog.info? 83).map (fun i => (i.size, i.bytes, i.zero)) = some (1, 8, some (.map none)) := by kernel_rfl
theorem ty83_k : KindOk Tryz.prog 83 ty83.kind := show Tryz.prog.underlying 83 = some (.map 3 81) from by kernel_rfl
theorem ty83_ok : TIOk Tryz.prog 83 ty83 := TIOk.of ty83_i rfl rfl ty83_k (fun ks h => by cases h)
def ty90 : TI := { kind := .struct [(0, 1), (1, 1), (2, 1), (3, 2)] [9, 3, 3, 30], size := 5, bytes := 48, zero := [.string { data := #[] }, .int .i64 0, .int .i64 0, .int .i64 0, .int .i64 0], leaf := none }
@[simp] theorem ty90_by : ty90.bytes = 48 := rfl
theorem ty90_i : (Tryz.prog.info? 90).map (fun i => (i.size, i.bytes, i.zero)) = some (5, 48, some (.agg #[.string { data := #[] }, .int .i64 0, .int .i64 0, .int .i64 0, .int .i64 0])) := by kernel_rfl
theorem ty90_k : KindOk Tryz.prog 90 ty90.kind := KindOk.struct_of (by kernel_rfl)
theorem ty90_ok : TIOk Tryz.prog 90 ty90 := TIOk.of ty90_i rfl rfl ty90_k (fun ks h => by cases h)
def ty97 : TI := { kind := .other, size := 1, bytes := 8, zero := [.nilFunc], leaf := none }
@[simp] theorem ty97_by : ty97.bytes = 8 := rfl
theorem ty97_i : (Tryz.prog.info? 97).map (fun i => (i.size, i.bytes, i.zero)) = some (1, 8, some (.nilFunc)) := by kernel_rfl
theorem ty97_k : KindOk Tryz.prog 97 ty97.kind := KindOk.other_of (by kernel_rfl)
theorem ty97_ok : TIOk Tryz.prog 97 ty97 := TIOk.of ty97_i rfl rfl ty97_k (fun ks h => by cases h)
def ty98 : TI := { kind := .other, size := 1, bytes := 8, zero := [.nilFunc], leaf := none }
@[simp] theorem ty98_by : ty98.bytes = 8 := rfl
theorem ty98_i : (Tryz.prog.info? 98).map (fun i => (i.size, i.bytes, i.zero)) = some (1, 8, some (.nilFunc)) := by kernel_rfl
theorem ty98_k : KindOk Tryz.prog 98 ty98.kind := KindOk.other_of (by kernel_rfl)
theorem ty98_ok : TIOk Tryz.prog 98 ty98 := TIOk.of ty98_i rfl rfl ty98_k (fun ks h => by cases h)
def ty101 : TI := { kind := .struct [(0, 7), (7, 4)] [27, 38], size := 11, bytes := 216, zero := [.int .i64 0, .slice none 0 0, .slice none 0 0, .slice none 0 0, .slice none 0 0, .int .i64 0, .slice none 0 0, .int .i64 0, .slice none 0 0, .slice none 0 0, .slice none 0 0], leaf := none }
@[simp] theorem ty101_by : ty101.bytes = 216 := rfl
theorem ty101_i : (Tryz.prog.info? 101).map (fun i => (i.size, i.bytes, i.zero)) = some (11, 216, some (.agg #[.int .i64 0, .slice none 0 0, .slice none 0 0, .slice none 0 0, .slice none 0 0, .int .i64 0, .slice none 0 0, .int .i64 0, .slice none 0 0, .slice none 0 0, .slice none 0 0])) := by kernel_rfl
theorem ty101_k : KindOk Tryz.prog 101 ty101.kind := KindOk.struct_of (by kernel_rfl)
theorem ty101_ok : TIOk Tryz.prog 101 ty101 := TIOk.of ty101_i rfl rfl ty101_k (fun ks h => by cases h)
def ty106 : TI := { kind := .other, size := 1, bytes := 8, zero := [.nilFunc], leaf := none }
@[simp] theorem ty106_by : ty106.bytes = 8 := rfl
theorem ty106_i : (Tryz.prog.info? 106).map (fun i => (i.size, i.bytes, i.zero)) = some (1, 8, some (.nilFunc)) := by kernel_rfl
theorem ty106_k : KindOk Tryz.prog 106 ty106.kind := KindOk.other_of (by kernel_rfl)
theorem ty106_ok : TIOk Tryz.prog 106 ty106 := TIOk.of ty106_i rfl rfl ty106_k (fun ks h => by cases h)
def ty112 : TI := { kind := .struct [(0, 1), (1, 1)] [3, 3], size := 2, bytes := 16, zero := [.int .i64 0, .int .i64 0], leaf := none }
@[simp] theorem ty112_by : ty112.bytes = 16 := rfl
theorem ty112_i : (Tryz.prog.info? 112).map (fun i => (i.size, i.bytes, i.zero)) = some (2, 16, some (.agg #[.int .i64 0, .int .i64 0])) := by kernel_rfl
theorem ty112_k : KindOk Tryz.prog 112 ty112.kind := KindOk.struct_of (by kernel_rfl)
theorem ty112_ok : TIOk Tryz.prog 112 ty112 := TIOk.of ty112_i rfl rfl ty112_k (fun ks h => by cases h)
def ty115 : TI := { kind := .other, size := 1, bytes := 8, zero := [.pointer none], leaf := none }
@[simp] theorem ty115_by : ty115.bytes = 8 := rfl
theorem ty115_i : (Tryz.prog.info? 115).map (fun i => (i.size, i.bytes, i.zero)) = some (1, 8, some (.pointer none)) := by kernel_rfl
theorem ty115_k : KindOk Tryz.prog 115 ty115.kind := KindOk.other_of (by kernel_rfl)
theorem ty115_ok : TIOk Tryz.prog 115 ty115 := TIOk.of ty115_i rfl rfl ty115_k (fun ks h => by cases h)
def ty117 : TI := { kind := .struct [(0, 7), (7, 4)] [27, 38], size := 11, bytes := 216, zero := [.int .i64 0, .slice none 0 0, .slice none 0 0, .slice none 0 0, .slice none 0 0, .int .i64 0, .slice none 0 0, .int .i64 0, .slice none 0 0, .slice none 0 0, .slice none 0 0], leaf := none }
@[simp] theorem ty117_by : ty117.bytes = 216 := rfl
theorem ty117_i : (Tryz.prog.info? 117).map (fun i => (i.size, i.bytes, i.zero)) = some (11, 216, some (.agg #[.int .i64 0, .slice none 0 0, .slice none 0 0, .slice none 0 0, .slice none 0 0, .int .i64 0, .slice none 0 0, .int .i64 0, .slice none 0 0, .slice none 0 0, .slice none 0 0])) := by kernel_rfl
theorem ty117_k : KindOk Tryz.prog 117 ty117.kind := KindOk.struct_of (by kernel_rfl)
theorem ty117_ok : TIOk Tryz.prog 117 ty117 := TIOk.of ty117_i rfl rfl ty117_k (fun ks h => by cases h)
def ty118 : TI := { kind := .slice 120, size := 1, bytes := 24, zero := [.slice none 0 0], leaf := none }
@[simp] theorem ty118_by : ty118.bytes = 24 := rfl
theorem ty118_i : (Tryz.prog.info? 118).map (fun i => (i.size, i.bytes, i.zero)) = some (1, 24, some (.slice none 0 0)) := by kernel_rfl
theorem ty118_k : KindOk Tryz.prog 118 ty118.kind := show Tryz.prog.underlying 118 = some (.slice 120) from by kernel_rfl
theorem ty118_ok : TIOk Tryz.prog 118 ty118 := TIOk.of ty118_i rfl rfl ty118_k (fun ks h => by cases h)
def ty120 : TI := { kind := .struct [(0, 22), (22, 1)] [69, 3], size := 23, bytes := 208, zero := [.int .i64 0, .int .i64 0, .int .i64 0, .int .i64 0, .slice none 0 0, .int .i64 0, .int .i64 0, .int .i64 0, .int .i64 0, .slice none 0 0, .int .i64 0, .int .i64 0, .bool false, .bool false, .int .i64 0, .int .i64 0, .int .i64 0, .int .i64 0, .int .i64 0, .int .i64 0, .bool false, .int .i64 0, .int .i64 0], leaf := none }
@[simp] theorem ty120_by : ty120.bytes = 208 := rfl
theorem ty120_i : (Tryz.prog.info? 120).map (fun i => (i.size, i.bytes, i.zero)) = some (23, 208, some (.agg #[.int .i64 0, .int .i64 0, .int .i64 0, .int .i64 0, .slice none 0 0, .int .i64 0, .int .i64 0, .int .i64 0, .int .i64 0, .slice none 0 0, .int .i64 0, .int .i64 0, .bool false, .bool false, .int .i64 0, .int .i64 0, .int .i64 0, .int .i64 0, .int .i64 0, .int .i64 0, .bool false, .int .i64 0, .int .i64 0])) := by kernel_rfl
theorem ty120_k : KindOk Tryz.prog 120 ty120.kind := KindOk.struct_of (by kernel_rfl)
theorem ty120_ok : TIOk Tryz.prog 120 ty120 := TIOk.of ty120_i rfl rfl ty120_k (fun ks h => by cases h)
def ty122 : TI := { kind := .other, size := 1, bytes := 8, zero := [.nilFunc], leaf := none }
@[simp] theorem ty122_by : ty122.bytes = 8 := rfl
theorem ty122_i : (Tryz.prog.info? 122).map (fun i => (i.size, i.bytes, i.zero)) = some (1, 8, some (.nilFunc)) := by kernel_rfl
theorem ty122_k : KindOk Tryz.prog 122 ty122.kind := KindOk.other_of (by kernel_rfl)
theorem ty122_ok : TIOk Tryz.prog 122 ty122 := TIOk.of ty122_i rfl rfl ty122_k (fun ks h => by cases h)
def ty124 : TI := { kind := .other, size := 1, bytes := 8, zero := [.nilFunc], leaf := none }
@[simp] theorem ty124_by : ty124.bytes = 8 := rfl
theorem ty124_i : (Tryz.prog.info? 124).map (fun i => (i.size, i.bytes, i.zero)) = some (1, 8, some (.nilFunc)) := by kernel_rfl
theorem ty124_k : KindOk Tryz.prog 124 ty124.kind := KindOk.other_of (by kernel_rfl)
theorem ty124_ok : TIOk Tryz.prog 124 ty124 := TIOk.of ty124_i rfl rfl ty124_k (fun ks h => by cases h)
def ty126 : TI := { kind := .other, size := 1, bytes := 8, zero := [.nilFunc], leaf := none }
@[simp] theorem ty126_by : ty126.bytes = 8 := rfl
theorem ty126_i : (Tryz.prog.info? 126).map (fun i => (i.size, i.bytes, i.zero)) = some (1, 8, some (.nilFunc)) := by kernel_rfl
theorem ty126_k : KindOk Tryz.prog 126 ty126.kind := KindOk.other_of (by kernel_rfl)
theorem ty126_ok : TIOk Tryz.prog 126 ty126 := TIOk.of ty126_i rfl rfl ty126_k (fun ks h => by cases h)
def ty133 : TI := { kind := .other, size := 1, bytes := 8, zero := [.nilFunc], leaf := none }
@[simp] theorem ty133_by : ty133.bytes = 8 := rfl
theorem ty133_i : (Tryz.prog.info? 133).map (fun i => (i.size, i.bytes, i.zero)) = some (1, 8, some (.nilFunc)) := by kernel_rfl
theorem ty133_k : KindOk Tryz.prog 133 ty133.kind := KindOk.other_of (by kernel_rfl)
theorem ty133_ok : TIOk Tryz.prog 133 ty133 := TIOk.of ty133_i rfl rfl ty133_k (fun ks h => by cases h)
def ty143 : TI := { kind := .int .u64, size := 1, bytes := 8, zero := [.int .u64 0], leaf := none }
@[simp] theorem ty143_by : ty143.bytes = 8 := rfl
theorem ty143_i : (Tryz.prog.info? 143).map (fun i => (i.size, i.bytes, i.zero)) = some (1, 8, some (.int .u64 0)) := by kernel_rfl
theorem ty143_k : KindOk Tryz.prog 143 ty143.kind := show Tryz.prog.underlying 143 = some (.int .u64) from by kernel_rfl
theorem ty143_ok : TIOk Tryz.prog 143 ty143 := TIOk.of ty143_i rfl rfl ty143_k (fun ks h => by cases h)
def ty146 : TI := { kind := .other, size := 1, bytes := 8, zero := [.nilFunc], leaf := none }
@[simp] theorem ty146_by : ty146.bytes = 8 := rfl
theorem ty146_i : (Tryz.prog.info? 146).map (fun i => (i.size, i.bytes, i.zero)) = some (1, 8, some (.nilFunc)) := by kernel_rfl
theorem ty146_k : KindOk Tryz.prog 146 ty146.kind := KindOk.other_of (by kernel_rfl)
theorem ty146_ok : TIOk Tryz.prog 146 ty146 := TIOk.of ty146_i rfl rfl ty146_k (fun ks h => by cases h)
def ty147 : TI := { kind := .array 5 146, size := 5, bytes := 40, zero := [.nilFunc, .nilFunc, .nilFunc, .nilFunc, .nilFunc], leaf := none }
@[simp] theorem ty147_by : ty147.bytes = 40 := rfl
theorem ty147_i : (Tryz.prog.info? 147).map (fun i => (i.size, i.bytes, i.zero)) = some (5, 40, some (.agg #[.nilFunc, .nilFunc, .nilFunc, .nilFunc, .nilFunc])) := by kernel_rfl
theorem ty147_k : KindOk Tryz.prog 147 ty147.kind := show Tryz.prog.underlying 147 = some (.array 5 146) from by kernel_rfl
theorem ty147_ok : TIOk Tryz.prog 147 ty147 := TIOk.of ty147_i rfl rfl ty147_k (fun ks h => by cases h)
def ty149 : TI := { kind := .other, size := 1, bytes := 8, zero := [.nilFunc], leaf := none }
@[simp] theorem ty149_by : ty149.bytes = 8 := rfl
theorem ty149_i : (Tryz.prog.info? 149).map (fun i => (i.size, i.bytes, i.zero)) = some (1, 8, some (.nilFunc)) := by kernel_rfl
theorem ty149_k : KindOk Tryz.prog 149 ty149.kind := KindOk.other_of (by kernel_rfl)
theorem ty149_ok : TIOk Tryz.prog 149 ty149 := TIOk.of ty149_i rfl rfl ty149_k (fun ks h => by cases h)
def ty150 : TI := { kind := .other, size := 1, bytes := 8, zero := [.nilFunc], leaf := none }
@[simp] theorem ty150_by : ty150.bytes = 8 := rfl
theorem ty150_i : (Tryz.prog.info? 150).map (fun i => (i.size, i.bytes, i.zero)) = some (1, 8, some (.nilFunc)) := by kernel_rfl
theorem ty150_k : KindOk Tryz.prog 150 ty150.kind := KindOk.other_of (by kernel_rfl)
theorem ty150_ok : TIOk Tryz.prog 150 ty150 := TIOk.of ty150_i rfl rfl ty150_k (fun ks h => by cases h)
def ty155 : TI := { kind := .slice 90, size := 1, bytes := 24, zero := [.slice none 0 0], leaf := none }
@[simp] theorem ty155_by : ty155.bytes = 24 := rfl
theorem ty155_i : (Tryz.prog.info? 155).map (fun i => (i.size, i.bytes, i.zero)) = some (1, 24, some (.slice none 0 0)) := by kernel_rfl
theorem ty155_k : KindOk Tryz.prog 155 ty155.kind := show Tryz.prog.underlying 155 = some (.slice 90) from by kernel_rfl
theorem ty155_ok : TIOk Tryz.prog 155 ty155 := TIOk.of ty155_i rfl rfl ty155_k (fun ks h => by cases h)
def ty165 : TI := { kind := .int .u32, size := 1, bytes := 4, zero := [.int .u32 0], leaf := none }
@[simp] theorem ty165_by : ty165.bytes = 4 := rfl
theorem ty165_i : (Tryz.prog.info? 165).map (fun i => (i.size, i.bytes, i.zero)) = some (1, 4, some (.int .u32 0)) := by kernel_rfl
theorem ty165_k : KindOk Tryz.prog 165 ty165.kind := show Tryz.prog.underlying 165 = some (.int .u32) from by kernel_rfl
theorem ty165_ok : TIOk Tryz.prog 165 ty165 := TIOk.of ty165_i rfl rfl ty165_k (fun ks h => by cases h)
def ty167 : TI := { kind := .int .u64, size := 1, bytes := 8, zero := [.int .u64 0], leaf := none }
@[simp] theorem ty167_by : ty167.bytes = 8 := rfl
theorem ty167_i : (Tryz.prog.info? 167).map (fun i => (i.size, i.bytes, i.zero)) = some (1, 8, some (.int .u64 0)) := by kernel_rfl
theorem ty167_k : KindOk Tryz.prog 167 ty167.kind := show Tryz.prog.underlying 167 = some (.int .u64) from by kernel_rfl
theorem ty167_ok : TIOk Tryz.prog 167 ty167 := TIOk.of ty167_i rfl rfl ty167_k (fun ks h => by cases h)
def ty178 : TI := { kind := .slice 167, size := 1, bytes := 24, zero := [.slice none 0 0], leaf := none }
@[simp] theorem ty178_by : ty178.bytes = 24 := rfl
theorem ty178_i : (Tryz.prog.info? 178).map (fun i => (i.size, i.bytes, i.zero)) = some (1, 24, some (.slice none 0 0)) := by kernel_rfl
theorem ty178_k : KindOk Tryz.prog 178 ty178.kind := show Tryz.prog.underlying 178 = some (.slice 167) from by kernel_rfl
theorem ty178_ok : TIOk Tryz.prog 178 ty178 := TIOk.of ty178_i rfl rfl ty178_k (fun ks h => by cases h)
def TB : TE := [(1, ty1), (2, ty2), (3, ty3), (4, ty4), (5, ty5), (9, ty9), (22, ty22), (23, ty23), (24, ty24), (25, ty25), (27, ty27), (28, ty28), (30, ty30), (32, ty32), (34, ty34), (35, ty35), (36, ty36), (38, ty38), (43, ty43), (47, ty47), (51, ty51), (57, ty57), (58, ty58), (69, ty69), (70, ty70), (76, ty76), (79, ty79), (81, ty81), (83, ty83), (90, ty90), (97, ty97), (98, ty98), (101, ty101), (106, ty106), (112, ty112), (115, ty115), (117, ty117), (118, ty118), (120, ty120), (122, ty122), (124, ty124), (126, ty126), (133, ty133), (143, ty143), (146, ty146), (147, ty147), (149, ty149), (150, ty150), (155, ty155), (165, ty165), (167, ty167), (178, ty178)]
theorem TB_ok : TOk Tryz.prog TB := TOk.cons ty1_ok (TOk.cons ty2_ok (TOk.cons ty3_ok (TOk.cons ty4_ok (TOk.cons ty5_ok (TOk.cons ty9_ok (TOk.cons ty22_ok (TOk.cons ty23_ok (TOk.cons ty24_ok (TOk.cons ty25_ok (TOk.cons ty27_ok (TOk.cons ty28_ok (TOk.cons ty30_ok (TOk.cons ty32_ok (TOk.cons ty34_ok (TOk.cons ty35_ok (TOk.cons ty36_ok (TOk.cons ty38_ok (TOk.cons ty43_ok (TOk.cons ty47_ok (TOk.cons ty51_ok (TOk.cons ty57_ok (TOk.cons ty58_ok (TOk.cons ty69_ok (TOk.cons ty70_ok (TOk.cons ty76_ok (TOk.cons ty79_ok (TOk.cons ty81_ok (TOk.cons ty83_ok (TOk.cons ty90_ok (TOk.cons ty97_ok (TOk.cons ty98_ok (TOk.cons ty101_ok (TOk.cons ty106_ok (TOk.cons ty112_ok (TOk.cons ty115_ok (TOk.cons ty117_ok (TOk.cons ty118_ok (TOk.cons ty120_ok (TOk.cons ty122_ok (TOk.cons ty124_ok (TOk.cons ty126_ok (TOk.cons ty133_ok (TOk.cons ty143_ok (TOk.cons ty146_ok (TOk.cons ty147_ok (TOk.cons ty149_ok (TOk.cons ty150_ok (TOk.cons ty155_ok (TOk.cons ty165_ok (TOk.cons ty167_ok (TOk.cons ty178_ok (TOk.nil _))))))))))))))))))))))))))))))))))))))))))))))))))))
theorem leaf30 : LeafOk Tryz.prog 30 [.int .i64, .int .i64] := LeafOk.of (n := 9) TB_ok rfl (by decide) (by kernel_rfl) (by kernel_rfl)
def ty30e : TI := { kind := ty30.kind, size := 2, bytes := 16, zero := [.int .i64 0, .int .i64 0], leaf := some [.int .i64, .int .i64] }
@[simp] theorem ty30e_by : ty30e.bytes = 16 := rfl
theorem ty30e_ok : TIOk Tryz.prog 30 ty30e := TIOk.of ty30_i rfl rfl ty30_k (fun ks h => by injection h with h; exact h ▸ leaf30)
theorem leaf47 : LeafOk Tryz.prog 47 [.int .i64, .int .i64, .int .i64, .int .i64, .bool] := LeafOk.of (n := 9) TB_ok rfl (by decide) (by kernel_rfl) (by kernel_rfl)
def ty47e : TI := { kind := ty47.kind, size := 5, bytes := 40, zero := [.int .i64 0, .int .i64 0, .int .i64 0, .int .i64 0, .bool false], leaf := some [.int .i64, .int .i64, .int .i64, .int .i64, .bool] }
@[simp] theorem ty47e_by : ty47e.bytes = 40 := rfl
theorem ty47e_ok : TIOk Tryz.prog 47 ty47e := TIOk.of ty47_i rfl rfl ty47_k (fun ks h => by injection h with h; exact h ▸ leaf47)
theorem leaf76 : LeafOk Tryz.prog 76 [.int .i64, .int .i64, .int .i64, .int .i64, .int .i64, .int .i64, .int .i64] := LeafOk.of (n := 9) TB_ok rfl (by decide) (by kernel_rfl) (by kernel_rfl)
def ty76e : TI := { kind := ty76.kind, size := 7, bytes := 56, zero := [.int .i64 0, .int .i64 0, .int .i64 0, .int .i64 0, .int .i64 0, .int .i64 0, .int .i64 0], leaf := some [.int .i64, .int .i64, .int .i64, .int .i64, .int .i64, .int .i64, .int .i64] }
@[simp] theorem ty76e_by : ty76e.bytes = 56 := rfl
theorem ty76e_ok : TIOk Tryz.prog 76 ty76e := TIOk.of ty76_i rfl rfl ty76_k (fun ks h => by injection h with h; exact h ▸ leaf76)
theorem leaf90 : LeafOk Tryz.prog 90 [.string, .int .i64, .int .i64, .int .i64, .int .i64] := LeafOk.of (n := 9) TB_ok rfl (by decide) (by kernel_rfl) (by kernel_rfl)
def ty90e : TI := { kind := ty90.kind, size := 5, bytes := 48, zero := [.string { data := #[] }, .int .i64 0, .int .i64 0, .int .i64 0, .int .i64 0], leaf := some [.string, .int .i64, .int .i64, .int .i64, .int .i64] }
@[simp] theorem ty90e_by : ty90e.bytes = 48 := rfl
theorem ty90e_ok : TIOk Tryz.prog 90 ty90e := TIOk.of ty90_i rfl rfl ty90_k (fun ks h => by injection h with h; exact h ▸ leaf90)
theorem leaf112 : LeafOk Tryz.prog 112 [.int .i64, .int .i64] := LeafOk.of (n := 9) TB_ok rfl (by decide) (by kernel_rfl) (by kernel_rfl)
def ty112e : TI := { kind := ty112.kind, size := 2, bytes := 16, zero := [.int .i64 0, .int .i64 0], leaf := some [.int .i64, .int .i64] }
@[simp] theorem ty112e_by : ty112e.bytes = 16 := rfl
theorem ty112e_ok : TIOk Tryz.prog 112 ty112e := TIOk.of ty112_i rfl rfl ty112_k (fun ks h => by injection h with h; exact h ▸ leaf112)
def TT : TE := [(1, ty1), (2, ty2), (3, ty3), (4, ty4), (5, ty5), (9, ty9), (22, ty22), (23, ty23), (24, ty24), (25, ty25), (27, ty27), (28, ty28), (30, ty30e), (32, ty32), (34, ty34), (35, ty35), (36, ty36), (38, ty38), (43, ty43), (47, ty47e), (51, ty51), (57, ty57), (58, ty58), (69, ty69), (70, ty70), (76, ty76e), (79, ty79), (81, ty81), (83, ty83), (90, ty90e), (97, ty97), (98, ty98), (101, ty101), (106, ty106), (112, ty112e), (115, ty115), (117, ty117), (118, ty118), (120, ty120), (122, ty122), (124, ty124), (126, ty126), (133, ty133), (143, ty143), (146, ty146), (147, ty147), (149, ty149), (150, ty150), (155, ty155), (165, ty165), (167, ty167), (178, ty178)]
theorem TT_ok : TOk Tryz.prog TT := TOk.cons ty1_ok (TOk.cons ty2_ok (TOk.cons ty3_ok (TOk.cons ty4_ok (TOk.cons ty5_ok (TOk.cons ty9_ok (TOk.cons ty22_ok (TOk.cons ty23_ok (TOk.cons ty24_ok (TOk.cons ty25_ok (TOk.cons ty27_ok (TOk.cons ty28_ok (TOk.cons ty30e_ok (TOk.cons ty32_ok (TOk.cons ty34_ok (TOk.cons ty35_ok (TOk.cons ty36_ok (TOk.cons ty38_ok (TOk.cons ty43_ok (TOk.cons ty47e_ok (TOk.cons ty51_ok (TOk.cons ty57_ok (TOk.cons ty58_ok (TOk.cons ty69_ok (TOk.cons ty70_ok (TOk.cons ty76e_ok (TOk.cons ty79_ok (TOk.cons ty81_ok (TOk.cons ty83_ok (TOk.cons ty90e_ok (TOk.cons ty97_ok (TOk.cons ty98_ok (TOk.cons ty101_ok (TOk.cons ty106_ok (TOk.cons ty112e_ok (TOk.cons ty115_ok (TOk.cons ty117_ok (TOk.cons ty118_ok (TOk.cons ty120_ok (TOk.cons ty122_ok (TOk.cons ty124_ok (TOk.cons ty126_ok (TOk.cons ty133_ok (TOk.cons ty143_ok (TOk.cons ty146_ok (TOk.cons ty147_ok (TOk.cons ty149_ok (TOk.cons ty150_ok (TOk.cons ty155_ok (TOk.cons ty165_ok (TOk.cons ty167_ok (TOk.cons ty178_ok (TOk.nil _))))))))))))))))))))))))))))))))))))))))))))))))))))
end Go.Proofs.YtofdehlikigonaaGreat
