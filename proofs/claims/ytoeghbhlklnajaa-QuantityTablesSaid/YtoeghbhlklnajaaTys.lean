/- The engine's table of this seat's types, and that the program's own agrees: written by gentys.py. -/
import Derived.Test.YtoeghbhlklnajaaEngS
import Derived.Test.YtoeghbhlklnajaaChecked
namespace Go.Proofs.Ytoeghbhlklnajaa
open Go.Eng
def ty2 : TI := { kind := .int .i64, size := 1, bytes := 8, zero := [.int .i64 0], leaf := none }
@[simp] theorem ty2_by : ty2.bytes = 8 := rfl
theorem ty2_i : (Try.prog.info? 2).map (fun i => (i.size, i.bytes, i.zero)) = some (1, 8, some (.int .i64 0)) := by kernel_rfl
theorem ty2_k : KindOk Try.prog 2 ty2.kind := show Try.prog.underlying 2 = some (.int .i64) from by kernel_rfl
theorem ty2_ok : TIOk Try.prog 2 ty2 := TIOk.of ty2_i rfl ty2_k (fun ks h => by cases h)
def ty3 : TI := { kind := .int .i64, size := 1, bytes := 8, zero := [.int .i64 0], leaf := none }
@[simp] theorem ty3_by : ty3.bytes = 8 := rfl
theorem ty3_i : (Try.prog.info? 3).map (fun i => (i.size, i.bytes, i.zero)) = some (1, 8, some (.int .i64 0)) := by kernel_rfl
theorem ty3_k : KindOk Try.prog 3 ty3.kind := show Try.prog.underlying 3 = some (.int .i64) from by kernel_rfl
theorem ty3_ok : TIOk Try.prog 3 ty3 := TIOk.of ty3_i rfl ty3_k (fun ks h => by cases h)
def ty4 : TI := { kind := .bool, size := 1, bytes := 1, zero := [.bool false], leaf := none }
@[simp] theorem ty4_by : ty4.bytes = 1 := rfl
theorem ty4_i : (Try.prog.info? 4).map (fun i => (i.size, i.bytes, i.zero)) = some (1, 1, some (.bool false)) := by kernel_rfl
theorem ty4_k : KindOk Try.prog 4 ty4.kind := show Try.prog.underlying 4 = some .bool from by kernel_rfl
theorem ty4_ok : TIOk Try.prog 4 ty4 := TIOk.of ty4_i rfl ty4_k (fun ks h => by cases h)
def ty5 : TI := { kind := .int .u8, size := 1, bytes := 1, zero := [.int .u8 0], leaf := none }
@[simp] theorem ty5_by : ty5.bytes = 1 := rfl
theorem ty5_i : (Try.prog.info? 5).map (fun i => (i.size, i.bytes, i.zero)) = some (1, 1, some (.int .u8 0)) := by kernel_rfl
theorem ty5_k : KindOk Try.prog 5 ty5.kind := show Try.prog.underlying 5 = some (.int .u8) from by kernel_rfl
theorem ty5_ok : TIOk Try.prog 5 ty5 := TIOk.of ty5_i rfl ty5_k (fun ks h => by cases h)
def ty9 : TI := { kind := .string, size := 1, bytes := 16, zero := [.string { data := #[] }], leaf := none }
@[simp] theorem ty9_by : ty9.bytes = 16 := rfl
theorem ty9_i : (Try.prog.info? 9).map (fun i => (i.size, i.bytes, i.zero)) = some (1, 16, some (.string { data := #[] })) := by kernel_rfl
theorem ty9_k : KindOk Try.prog 9 ty9.kind := show Try.prog.underlying 9 = some .string from by kernel_rfl
theorem ty9_ok : TIOk Try.prog 9 ty9 := TIOk.of ty9_i rfl ty9_k (fun ks h => by cases h)
def ty22 : TI := { kind := .slice 42, size := 1, bytes := 24, zero := [.slice none 0 0], leaf := none }
@[simp] theorem ty22_by : ty22.bytes = 24 := rfl
theorem ty22_i : (Try.prog.info? 22).map (fun i => (i.size, i.bytes, i.zero)) = some (1, 24, some (.slice none 0 0)) := by kernel_rfl
theorem ty22_k : KindOk Try.prog 22 ty22.kind := show Try.prog.underlying 22 = some (.slice 42) from by kernel_rfl
theorem ty22_ok : TIOk Try.prog 22 ty22 := TIOk.of ty22_i rfl ty22_k (fun ks h => by cases h)
def ty23 : TI := { kind := .slice 33, size := 1, bytes := 24, zero := [.slice none 0 0], leaf := none }
@[simp] theorem ty23_by : ty23.bytes = 24 := rfl
theorem ty23_i : (Try.prog.info? 23).map (fun i => (i.size, i.bytes, i.zero)) = some (1, 24, some (.slice none 0 0)) := by kernel_rfl
theorem ty23_k : KindOk Try.prog 23 ty23.kind := show Try.prog.underlying 23 = some (.slice 33) from by kernel_rfl
theorem ty23_ok : TIOk Try.prog 23 ty23 := TIOk.of ty23_i rfl ty23_k (fun ks h => by cases h)
def ty24 : TI := { kind := .slice 31, size := 1, bytes := 24, zero := [.slice none 0 0], leaf := none }
@[simp] theorem ty24_by : ty24.bytes = 24 := rfl
theorem ty24_i : (Try.prog.info? 24).map (fun i => (i.size, i.bytes, i.zero)) = some (1, 24, some (.slice none 0 0)) := by kernel_rfl
theorem ty24_k : KindOk Try.prog 24 ty24.kind := show Try.prog.underlying 24 = some (.slice 31) from by kernel_rfl
theorem ty24_ok : TIOk Try.prog 24 ty24 := TIOk.of ty24_i rfl ty24_k (fun ks h => by cases h)
def ty31 : TI := { kind := .struct [(0, 1), (1, 1)] [3, 3], size := 2, bytes := 16, zero := [.int .i64 0, .int .i64 0], leaf := none }
@[simp] theorem ty31_by : ty31.bytes = 16 := rfl
theorem ty31_i : (Try.prog.info? 31).map (fun i => (i.size, i.bytes, i.zero)) = some (2, 16, some (.agg #[.int .i64 0, .int .i64 0])) := by kernel_rfl
theorem ty31_k : KindOk Try.prog 31 ty31.kind := KindOk.struct_of (by kernel_rfl)
theorem ty31_ok : TIOk Try.prog 31 ty31 := TIOk.of ty31_i rfl ty31_k (fun ks h => by cases h)
def ty33 : TI := { kind := .struct [(0, 1), (1, 2)] [3, 31], size := 3, bytes := 24, zero := [.int .i64 0, .int .i64 0, .int .i64 0], leaf := none }
@[simp] theorem ty33_by : ty33.bytes = 24 := rfl
theorem ty33_i : (Try.prog.info? 33).map (fun i => (i.size, i.bytes, i.zero)) = some (3, 24, some (.agg #[.int .i64 0, .int .i64 0, .int .i64 0])) := by kernel_rfl
theorem ty33_k : KindOk Try.prog 33 ty33.kind := KindOk.struct_of (by kernel_rfl)
theorem ty33_ok : TIOk Try.prog 33 ty33 := TIOk.of ty33_i rfl ty33_k (fun ks h => by cases h)
def ty34 : TI := { kind := .int .i64, size := 1, bytes := 8, zero := [.int .i64 0], leaf := none }
@[simp] theorem ty34_by : ty34.bytes = 8 := rfl
theorem ty34_i : (Try.prog.info? 34).map (fun i => (i.size, i.bytes, i.zero)) = some (1, 8, some (.int .i64 0)) := by kernel_rfl
theorem ty34_k : KindOk Try.prog 34 ty34.kind := show Try.prog.underlying 34 = some (.int .i64) from by kernel_rfl
theorem ty34_ok : TIOk Try.prog 34 ty34 := TIOk.of ty34_i rfl ty34_k (fun ks h => by cases h)
def ty42 : TI := { kind := .struct [(0, 1), (1, 1), (2, 1), (3, 2)] [9, 3, 3, 31], size := 5, bytes := 48, zero := [.string { data := #[] }, .int .i64 0, .int .i64 0, .int .i64 0, .int .i64 0], leaf := none }
@[simp] theorem ty42_by : ty42.bytes = 48 := rfl
theorem ty42_i : (Try.prog.info? 42).map (fun i => (i.size, i.bytes, i.zero)) = some (5, 48, some (.agg #[.string { data := #[] }, .int .i64 0, .int .i64 0, .int .i64 0, .int .i64 0])) := by kernel_rfl
theorem ty42_k : KindOk Try.prog 42 ty42.kind := KindOk.struct_of (by kernel_rfl)
theorem ty42_ok : TIOk Try.prog 42 ty42 := TIOk.of ty42_i rfl ty42_k (fun ks h => by cases h)
def ty54 : TI := { kind := .slice 42, size := 1, bytes := 24, zero := [.slice none 0 0], leaf := none }
@[simp] theorem ty54_by : ty54.bytes = 24 := rfl
theorem ty54_i : (Try.prog.info? 54).map (fun i => (i.size, i.bytes, i.zero)) = some (1, 24, some (.slice none 0 0)) := by kernel_rfl
theorem ty54_k : KindOk Try.prog 54 ty54.kind := show Try.prog.underlying 54 = some (.slice 42) from by kernel_rfl
theorem ty54_ok : TIOk Try.prog 54 ty54 := TIOk.of ty54_i rfl ty54_k (fun ks h => by cases h)
def ty64 : TI := { kind := .int .u64, size := 1, bytes := 8, zero := [.int .u64 0], leaf := none }
@[simp] theorem ty64_by : ty64.bytes = 8 := rfl
theorem ty64_i : (Try.prog.info? 64).map (fun i => (i.size, i.bytes, i.zero)) = some (1, 8, some (.int .u64 0)) := by kernel_rfl
theorem ty64_k : KindOk Try.prog 64 ty64.kind := show Try.prog.underlying 64 = some (.int .u64) from by kernel_rfl
theorem ty64_ok : TIOk Try.prog 64 ty64 := TIOk.of ty64_i rfl ty64_k (fun ks h => by cases h)
def ty71 : TI := { kind := .array 3 3, size := 3, bytes := 24, zero := [.int .i64 0, .int .i64 0, .int .i64 0], leaf := none }
@[simp] theorem ty71_by : ty71.bytes = 24 := rfl
theorem ty71_i : (Try.prog.info? 71).map (fun i => (i.size, i.bytes, i.zero)) = some (3, 24, some (.agg #[.int .i64 0, .int .i64 0, .int .i64 0])) := by kernel_rfl
theorem ty71_k : KindOk Try.prog 71 ty71.kind := show Try.prog.underlying 71 = some (.array 3 3) from by kernel_rfl
theorem ty71_ok : TIOk Try.prog 71 ty71 := TIOk.of ty71_i rfl ty71_k (fun ks h => by cases h)
def ty73 : TI := { kind := .other, size := 1, bytes := 8, zero := [.pointer none], leaf := none }
@[simp] theorem ty73_by : ty73.bytes = 8 := rfl
theorem ty73_i : (Try.prog.info? 73).map (fun i => (i.size, i.bytes, i.zero)) = some (1, 8, some (.pointer none)) := by kernel_rfl
theorem ty73_k : KindOk Try.prog 73 ty73.kind := KindOk.other_of (by kernel_rfl)
theorem ty73_ok : TIOk Try.prog 73 ty73 := TIOk.of ty73_i rfl ty73_k (fun ks h => by cases h)
def ty77 : TI := { kind := .slice 64, size := 1, bytes := 24, zero := [.slice none 0 0], leaf := none }
@[simp] theorem ty77_by : ty77.bytes = 24 := rfl
theorem ty77_i : (Try.prog.info? 77).map (fun i => (i.size, i.bytes, i.zero)) = some (1, 24, some (.slice none 0 0)) := by kernel_rfl
theorem ty77_k : KindOk Try.prog 77 ty77.kind := show Try.prog.underlying 77 = some (.slice 64) from by kernel_rfl
theorem ty77_ok : TIOk Try.prog 77 ty77 := TIOk.of ty77_i rfl ty77_k (fun ks h => by cases h)
def TB : TE := [(2, ty2), (3, ty3), (4, ty4), (5, ty5), (9, ty9), (22, ty22), (23, ty23), (24, ty24), (31, ty31), (33, ty33), (34, ty34), (42, ty42), (54, ty54), (64, ty64), (71, ty71), (73, ty73), (77, ty77)]
theorem TB_ok : TOk Try.prog TB := TOk.cons ty2_ok (TOk.cons ty3_ok (TOk.cons ty4_ok (TOk.cons ty5_ok (TOk.cons ty9_ok (TOk.cons ty22_ok (TOk.cons ty23_ok (TOk.cons ty24_ok (TOk.cons ty31_ok (TOk.cons ty33_ok (TOk.cons ty34_ok (TOk.cons ty42_ok (TOk.cons ty54_ok (TOk.cons ty64_ok (TOk.cons ty71_ok (TOk.cons ty73_ok (TOk.cons ty77_ok (TOk.nil _)))))))))))))))))
theorem leaf31 : LeafOk Try.prog 31 [.int .i64, .int .i64] := LeafOk.of (n := 9) TB_ok rfl (by decide) (by kernel_rfl) (by kernel_rfl)
def ty31e : TI := { kind := ty31.kind, size := 2, bytes := 16, zero := [.int .i64 0, .int .i64 0], leaf := some [.int .i64, .int .i64] }
@[simp] theorem ty31e_by : ty31e.bytes = 16 := rfl
theorem ty31e_ok : TIOk Try.prog 31 ty31e := TIOk.of ty31_i rfl ty31_k (fun ks h => by injection h with h; exact h ▸ leaf31)
theorem leaf33 : LeafOk Try.prog 33 [.int .i64, .int .i64, .int .i64] := LeafOk.of (n := 9) TB_ok rfl (by decide) (by kernel_rfl) (by kernel_rfl)
def ty33e : TI := { kind := ty33.kind, size := 3, bytes := 24, zero := [.int .i64 0, .int .i64 0, .int .i64 0], leaf := some [.int .i64, .int .i64, .int .i64] }
@[simp] theorem ty33e_by : ty33e.bytes = 24 := rfl
theorem ty33e_ok : TIOk Try.prog 33 ty33e := TIOk.of ty33_i rfl ty33_k (fun ks h => by injection h with h; exact h ▸ leaf33)
theorem leaf42 : LeafOk Try.prog 42 [.string, .int .i64, .int .i64, .int .i64, .int .i64] := LeafOk.of (n := 9) TB_ok rfl (by decide) (by kernel_rfl) (by kernel_rfl)
def ty42e : TI := { kind := ty42.kind, size := 5, bytes := 48, zero := [.string { data := #[] }, .int .i64 0, .int .i64 0, .int .i64 0, .int .i64 0], leaf := some [.string, .int .i64, .int .i64, .int .i64, .int .i64] }
@[simp] theorem ty42e_by : ty42e.bytes = 48 := rfl
theorem ty42e_ok : TIOk Try.prog 42 ty42e := TIOk.of ty42_i rfl ty42_k (fun ks h => by injection h with h; exact h ▸ leaf42)
def TT : TE := [(2, ty2), (3, ty3), (4, ty4), (5, ty5), (9, ty9), (22, ty22), (23, ty23), (24, ty24), (31, ty31e), (33, ty33e), (34, ty34), (42, ty42e), (54, ty54), (64, ty64), (71, ty71), (73, ty73), (77, ty77)]
theorem TT_ok : TOk Try.prog TT := TOk.cons ty2_ok (TOk.cons ty3_ok (TOk.cons ty4_ok (TOk.cons ty5_ok (TOk.cons ty9_ok (TOk.cons ty22_ok (TOk.cons ty23_ok (TOk.cons ty24_ok (TOk.cons ty31e_ok (TOk.cons ty33e_ok (TOk.cons ty34_ok (TOk.cons ty42e_ok (TOk.cons ty54_ok (TOk.cons ty64_ok (TOk.cons ty71_ok (TOk.cons ty73_ok (TOk.cons ty77_ok (TOk.nil _)))))))))))))))))
end Go.Proofs.Ytoeghbhlklnajaa
