/- The engine's table of this seat's types, and that the program's own agrees: written by gentys.py. -/
import Derived.Test.YtbheoblmfjjaaaaP4
import Derived.Test.YtbheoblmfjjaaaaChecked
import Derived.ChangeKeysEq
namespace Go.Proofs.Ytbheoblmfjjaaaa
open Go.Eng
/-- '==' on arrays of bools, cell by cell. -/
theorem LeafOk.bools {P : Program} {T : TE} {t n e : Nat} (hT : TOk P T) (ht : P.underlying t = some (.array n e)) {te : TI} (he : T.find e = some te) (hb : te.kind = .bool) (hc : P.cellsOf e = 1) (hg : P.eqGuardType P.depth t = false) : LeafOk P t (List.replicate n .bool) := by
  have hu : P.underlying e = some .bool := by
    have := (hT e te he).kind
    rw [hb] at this
    exact this
  obtain ⟨i, z, hi, _⟩ := (hT e te he).info
  refine ⟨hg, fun xs ys b w hq => ?_⟩
  show (Op.equalIn (9998 + 1 + 1) t (.agg xs.toArray) (.agg ys.toArray)).run P w = .ok b w
  rw [run_equalIn_array _ (9998 + 1) _ _ ht hi, hc, List.range_eq_range']
  have key : ∀ (m : Nat) (xp xs yp ys : List Value) (b : Bool), xp.length = yp.length → cellsEq (List.replicate m .bool) xs ys = some b → (Op.eqItems (9998 + 1) e 1 (xp ++ xs).toArray (yp ++ ys).toArray (List.range' xp.length m)).run P w = .ok b w := by
    intro m
    induction m with
    | zero =>
      intro xp xs yp ys b hl h
      cases xs <;> cases ys <;> simp [cellsEq] at h
      subst h
      simp [Op.eqItems]
    | succ m ih =>
      intro xp xs yp ys b hl h
      obtain ⟨x, xs', y, ys', a, b', rfl, rfl, h1, h2, rfl⟩ := cellsEq_cons h
      cases x <;> cases y <;> simp only [cellEq] at h1 <;> try (cases h1; done)
      rename_i p q
      injection h1 with h1
      subst h1
      have hx : (part e (xp ++ Value.bool p :: xs').toArray (xp.length * 1)).run P w = .ok (.bool p) w := by
        simp [part, (hT e te he).run_isAgg w, hb, TK.agg]
      have hy : (part e (yp ++ Value.bool q :: ys').toArray (xp.length * 1)).run P w = .ok (.bool q) w := by
        simp [part, (hT e te he).run_isAgg w, hb, TK.agg, hl]
      have ih := ih (xp ++ [.bool p]) xs' (yp ++ [.bool q]) ys' b' (by simp [hl]) h2
      rw [List.range'_succ]
      simp only [Op.eqItems, Sem.run_bind, hx, hy, Result.andThen_ok, run_equalIn_bool' w 9998 e p q hu]
      cases hpq : p == q with
      | false => simp
      | true => simpa using ih
  simpa using key n [] xs [] ys b rfl hq
def ty2 : TI := { kind := .int .i64, size := 1, bytes := 8, zero := [.int .i64 0], leaf := none }
@[simp] theorem ty2_by : ty2.bytes = 8 := rfl
theorem ty2_i : (Try.prog.info? 2).map (fun i => (i.size, i.bytes, i.zero)) = some (1, 8, some (.int .i64 0)) := by kernel_rfl
theorem ty2_k : KindOk Try.prog 2 ty2.kind := show Try.prog.underlying 2 = some (.int .i64) from by kernel_rfl
theorem ty2_ok : TIOk Try.prog 2 ty2 := TIOk.of ty2_i rfl rfl ty2_k (fun ks h => by cases h)
def ty3 : TI := { kind := .int .i64, size := 1, bytes := 8, zero := [.int .i64 0], leaf := none }
@[simp] theorem ty3_by : ty3.bytes = 8 := rfl
theorem ty3_i : (Try.prog.info? 3).map (fun i => (i.size, i.bytes, i.zero)) = some (1, 8, some (.int .i64 0)) := by kernel_rfl
theorem ty3_k : KindOk Try.prog 3 ty3.kind := show Try.prog.underlying 3 = some (.int .i64) from by kernel_rfl
theorem ty3_ok : TIOk Try.prog 3 ty3 := TIOk.of ty3_i rfl rfl ty3_k (fun ks h => by cases h)
def ty4 : TI := { kind := .bool, size := 1, bytes := 1, zero := [.bool false], leaf := none }
@[simp] theorem ty4_by : ty4.bytes = 1 := rfl
theorem ty4_i : (Try.prog.info? 4).map (fun i => (i.size, i.bytes, i.zero)) = some (1, 1, some (.bool false)) := by kernel_rfl
theorem ty4_k : KindOk Try.prog 4 ty4.kind := show Try.prog.underlying 4 = some .bool from by kernel_rfl
theorem ty4_ok : TIOk Try.prog 4 ty4 := TIOk.of ty4_i rfl rfl ty4_k (fun ks h => by cases h)
def ty5 : TI := { kind := .int .u8, size := 1, bytes := 1, zero := [.int .u8 0], leaf := none }
@[simp] theorem ty5_by : ty5.bytes = 1 := rfl
theorem ty5_i : (Try.prog.info? 5).map (fun i => (i.size, i.bytes, i.zero)) = some (1, 1, some (.int .u8 0)) := by kernel_rfl
theorem ty5_k : KindOk Try.prog 5 ty5.kind := show Try.prog.underlying 5 = some (.int .u8) from by kernel_rfl
theorem ty5_ok : TIOk Try.prog 5 ty5 := TIOk.of ty5_i rfl rfl ty5_k (fun ks h => by cases h)
def ty9 : TI := { kind := .string, size := 1, bytes := 16, zero := [.string { data := #[] }], leaf := none }
@[simp] theorem ty9_by : ty9.bytes = 16 := rfl
theorem ty9_i : (Try.prog.info? 9).map (fun i => (i.size, i.bytes, i.zero)) = some (1, 16, some (.string { data := #[] })) := by kernel_rfl
theorem ty9_k : KindOk Try.prog 9 ty9.kind := show Try.prog.underlying 9 = some .string from by kernel_rfl
theorem ty9_ok : TIOk Try.prog 9 ty9 := TIOk.of ty9_i rfl rfl ty9_k (fun ks h => by cases h)
def ty22 : TI := { kind := .slice 37, size := 1, bytes := 24, zero := [.slice none 0 0], leaf := none }
@[simp] theorem ty22_by : ty22.bytes = 24 := rfl
theorem ty22_i : (Try.prog.info? 22).map (fun i => (i.size, i.bytes, i.zero)) = some (1, 24, some (.slice none 0 0)) := by kernel_rfl
theorem ty22_k : KindOk Try.prog 22 ty22.kind := show Try.prog.underlying 22 = some (.slice 37) from by kernel_rfl
theorem ty22_ok : TIOk Try.prog 22 ty22 := TIOk.of ty22_i rfl rfl ty22_k (fun ks h => by cases h)
def ty23 : TI := { kind := .slice 42, size := 1, bytes := 24, zero := [.slice none 0 0], leaf := none }
@[simp] theorem ty23_by : ty23.bytes = 24 := rfl
theorem ty23_i : (Try.prog.info? 23).map (fun i => (i.size, i.bytes, i.zero)) = some (1, 24, some (.slice none 0 0)) := by kernel_rfl
theorem ty23_k : KindOk Try.prog 23 ty23.kind := show Try.prog.underlying 23 = some (.slice 42) from by kernel_rfl
theorem ty23_ok : TIOk Try.prog 23 ty23 := TIOk.of ty23_i rfl rfl ty23_k (fun ks h => by cases h)
def ty24 : TI := { kind := .slice 33, size := 1, bytes := 24, zero := [.slice none 0 0], leaf := none }
@[simp] theorem ty24_by : ty24.bytes = 24 := rfl
theorem ty24_i : (Try.prog.info? 24).map (fun i => (i.size, i.bytes, i.zero)) = some (1, 24, some (.slice none 0 0)) := by kernel_rfl
theorem ty24_k : KindOk Try.prog 24 ty24.kind := show Try.prog.underlying 24 = some (.slice 33) from by kernel_rfl
theorem ty24_ok : TIOk Try.prog 24 ty24 := TIOk.of ty24_i rfl rfl ty24_k (fun ks h => by cases h)
def ty25 : TI := { kind := .slice 35, size := 1, bytes := 24, zero := [.slice none 0 0], leaf := none }
@[simp] theorem ty25_by : ty25.bytes = 24 := rfl
theorem ty25_i : (Try.prog.info? 25).map (fun i => (i.size, i.bytes, i.zero)) = some (1, 24, some (.slice none 0 0)) := by kernel_rfl
theorem ty25_k : KindOk Try.prog 25 ty25.kind := show Try.prog.underlying 25 = some (.slice 35) from by kernel_rfl
theorem ty25_ok : TIOk Try.prog 25 ty25 := TIOk.of ty25_i rfl rfl ty25_k (fun ks h => by cases h)
def ty26 : TI := { kind := .struct [(0, 1), (1, 1), (2, 1), (3, 1), (4, 1), (5, 1)] [3, 22, 23, 23, 24, 25], size := 6, bytes := 128, zero := [.int .i64 0, .slice none 0 0, .slice none 0 0, .slice none 0 0, .slice none 0 0, .slice none 0 0], leaf := none }
@[simp] theorem ty26_by : ty26.bytes = 128 := rfl
theorem ty26_i : (Try.prog.info? 26).map (fun i => (i.size, i.bytes, i.zero)) = some (6, 128, some (.agg #[.int .i64 0, .slice none 0 0, .slice none 0 0, .slice none 0 0, .slice none 0 0, .slice none 0 0])) := by kernel_rfl
theorem ty26_k : KindOk Try.prog 26 ty26.kind := KindOk.struct_of (by kernel_rfl)
theorem ty26_ok : TIOk Try.prog 26 ty26 := TIOk.of ty26_i rfl rfl ty26_k (fun ks h => by cases h)
def ty27 : TI := { kind := .struct [(0, 1), (1, 1), (2, 1), (3, 1), (4, 1), (5, 1)] [3, 22, 23, 23, 24, 25], size := 6, bytes := 128, zero := [.int .i64 0, .slice none 0 0, .slice none 0 0, .slice none 0 0, .slice none 0 0, .slice none 0 0], leaf := none }
@[simp] theorem ty27_by : ty27.bytes = 128 := rfl
theorem ty27_i : (Try.prog.info? 27).map (fun i => (i.size, i.bytes, i.zero)) = some (6, 128, some (.agg #[.int .i64 0, .slice none 0 0, .slice none 0 0, .slice none 0 0, .slice none 0 0, .slice none 0 0])) := by kernel_rfl
theorem ty27_k : KindOk Try.prog 27 ty27.kind := KindOk.struct_of (by kernel_rfl)
theorem ty27_ok : TIOk Try.prog 27 ty27 := TIOk.of ty27_i rfl rfl ty27_k (fun ks h => by cases h)
def ty32 : TI := { kind := .struct [(0, 1), (1, 1), (2, 1)] [3, 3, 3], size := 3, bytes := 24, zero := [.int .i64 0, .int .i64 0, .int .i64 0], leaf := none }
@[simp] theorem ty32_by : ty32.bytes = 24 := rfl
theorem ty32_i : (Try.prog.info? 32).map (fun i => (i.size, i.bytes, i.zero)) = some (3, 24, some (.agg #[.int .i64 0, .int .i64 0, .int .i64 0])) := by kernel_rfl
theorem ty32_k : KindOk Try.prog 32 ty32.kind := KindOk.struct_of (by kernel_rfl)
theorem ty32_ok : TIOk Try.prog 32 ty32 := TIOk.of ty32_i rfl rfl ty32_k (fun ks h => by cases h)
def ty33 : TI := { kind := .struct [(0, 1), (1, 1), (2, 1)] [3, 3, 3], size := 3, bytes := 24, zero := [.int .i64 0, .int .i64 0, .int .i64 0], leaf := none }
@[simp] theorem ty33_by : ty33.bytes = 24 := rfl
theorem ty33_i : (Try.prog.info? 33).map (fun i => (i.size, i.bytes, i.zero)) = some (3, 24, some (.agg #[.int .i64 0, .int .i64 0, .int .i64 0])) := by kernel_rfl
theorem ty33_k : KindOk Try.prog 33 ty33.kind := KindOk.struct_of (by kernel_rfl)
theorem ty33_ok : TIOk Try.prog 33 ty33 := TIOk.of ty33_i rfl rfl ty33_k (fun ks h => by cases h)
def ty34 : TI := { kind := .struct [(0, 1), (1, 1)] [3, 3], size := 2, bytes := 16, zero := [.int .i64 0, .int .i64 0], leaf := none }
@[simp] theorem ty34_by : ty34.bytes = 16 := rfl
theorem ty34_i : (Try.prog.info? 34).map (fun i => (i.size, i.bytes, i.zero)) = some (2, 16, some (.agg #[.int .i64 0, .int .i64 0])) := by kernel_rfl
theorem ty34_k : KindOk Try.prog 34 ty34.kind := KindOk.struct_of (by kernel_rfl)
theorem ty34_ok : TIOk Try.prog 34 ty34 := TIOk.of ty34_i rfl rfl ty34_k (fun ks h => by cases h)
def ty35 : TI := { kind := .struct [(0, 1), (1, 1)] [3, 3], size := 2, bytes := 16, zero := [.int .i64 0, .int .i64 0], leaf := none }
@[simp] theorem ty35_by : ty35.bytes = 16 := rfl
theorem ty35_i : (Try.prog.info? 35).map (fun i => (i.size, i.bytes, i.zero)) = some (2, 16, some (.agg #[.int .i64 0, .int .i64 0])) := by kernel_rfl
theorem ty35_k : KindOk Try.prog 35 ty35.kind := KindOk.struct_of (by kernel_rfl)
theorem ty35_ok : TIOk Try.prog 35 ty35 := TIOk.of ty35_i rfl rfl ty35_k (fun ks h => by cases h)
def ty36 : TI := { kind := .struct [(0, 1), (1, 1)] [3, 3], size := 2, bytes := 16, zero := [.int .i64 0, .int .i64 0], leaf := none }
@[simp] theorem ty36_by : ty36.bytes = 16 := rfl
theorem ty36_i : (Try.prog.info? 36).map (fun i => (i.size, i.bytes, i.zero)) = some (2, 16, some (.agg #[.int .i64 0, .int .i64 0])) := by kernel_rfl
theorem ty36_k : KindOk Try.prog 36 ty36.kind := KindOk.struct_of (by kernel_rfl)
theorem ty36_ok : TIOk Try.prog 36 ty36 := TIOk.of ty36_i rfl rfl ty36_k (fun ks h => by cases h)
def ty37 : TI := { kind := .struct [(0, 1), (1, 1)] [3, 3], size := 2, bytes := 16, zero := [.int .i64 0, .int .i64 0], leaf := none }
@[simp] theorem ty37_by : ty37.bytes = 16 := rfl
theorem ty37_i : (Try.prog.info? 37).map (fun i => (i.size, i.bytes, i.zero)) = some (2, 16, some (.agg #[.int .i64 0, .int .i64 0])) := by kernel_rfl
theorem ty37_k : KindOk Try.prog 37 ty37.kind := KindOk.struct_of (by kernel_rfl)
theorem ty37_ok : TIOk Try.prog 37 ty37 := TIOk.of ty37_i rfl rfl ty37_k (fun ks h => by cases h)
def ty38 : TI := { kind := .int .i64, size := 1, bytes := 8, zero := [.int .i64 0], leaf := none }
@[simp] theorem ty38_by : ty38.bytes = 8 := rfl
theorem ty38_i : (Try.prog.info? 38).map (fun i => (i.size, i.bytes, i.zero)) = some (1, 8, some (.int .i64 0)) := by kernel_rfl
theorem ty38_k : KindOk Try.prog 38 ty38.kind := show Try.prog.underlying 38 = some (.int .i64) from by kernel_rfl
theorem ty38_ok : TIOk Try.prog 38 ty38 := TIOk.of ty38_i rfl rfl ty38_k (fun ks h => by cases h)
def ty41 : TI := { kind := .struct [(0, 1), (1, 1), (2, 2)] [3, 3, 37], size := 4, bytes := 32, zero := [.int .i64 0, .int .i64 0, .int .i64 0, .int .i64 0], leaf := none }
@[simp] theorem ty41_by : ty41.bytes = 32 := rfl
theorem ty41_i : (Try.prog.info? 41).map (fun i => (i.size, i.bytes, i.zero)) = some (4, 32, some (.agg #[.int .i64 0, .int .i64 0, .int .i64 0, .int .i64 0])) := by kernel_rfl
theorem ty41_k : KindOk Try.prog 41 ty41.kind := KindOk.struct_of (by kernel_rfl)
theorem ty41_ok : TIOk Try.prog 41 ty41 := TIOk.of ty41_i rfl rfl ty41_k (fun ks h => by cases h)
def ty42 : TI := { kind := .struct [(0, 1), (1, 1), (2, 2)] [3, 3, 37], size := 4, bytes := 32, zero := [.int .i64 0, .int .i64 0, .int .i64 0, .int .i64 0], leaf := none }
@[simp] theorem ty42_by : ty42.bytes = 32 := rfl
theorem ty42_i : (Try.prog.info? 42).map (fun i => (i.size, i.bytes, i.zero)) = some (4, 32, some (.agg #[.int .i64 0, .int .i64 0, .int .i64 0, .int .i64 0])) := by kernel_rfl
theorem ty42_k : KindOk Try.prog 42 ty42.kind := KindOk.struct_of (by kernel_rfl)
theorem ty42_ok : TIOk Try.prog 42 ty42 := TIOk.of ty42_i rfl rfl ty42_k (fun ks h => by cases h)
def ty44 : TI := { kind := .slice 4, size := 1, bytes := 24, zero := [.slice none 0 0], leaf := none }
@[simp] theorem ty44_by : ty44.bytes = 24 := rfl
theorem ty44_i : (Try.prog.info? 44).map (fun i => (i.size, i.bytes, i.zero)) = some (1, 24, some (.slice none 0 0)) := by kernel_rfl
theorem ty44_k : KindOk Try.prog 44 ty44.kind := show Try.prog.underlying 44 = some (.slice 4) from by kernel_rfl
theorem ty44_ok : TIOk Try.prog 44 ty44 := TIOk.of ty44_i rfl rfl ty44_k (fun ks h => by cases h)
def ty49 : TI := { kind := .slice 3, size := 1, bytes := 24, zero := [.slice none 0 0], leaf := none }
@[simp] theorem ty49_by : ty49.bytes = 24 := rfl
theorem ty49_i : (Try.prog.info? 49).map (fun i => (i.size, i.bytes, i.zero)) = some (1, 24, some (.slice none 0 0)) := by kernel_rfl
theorem ty49_k : KindOk Try.prog 49 ty49.kind := show Try.prog.underlying 49 = some (.slice 3) from by kernel_rfl
theorem ty49_ok : TIOk Try.prog 49 ty49 := TIOk.of ty49_i rfl rfl ty49_k (fun ks h => by cases h)
def ty50 : TI := { kind := .slice 156, size := 1, bytes := 24, zero := [.slice none 0 0], leaf := none }
@[simp] theorem ty50_by : ty50.bytes = 24 := rfl
theorem ty50_i : (Try.prog.info? 50).map (fun i => (i.size, i.bytes, i.zero)) = some (1, 24, some (.slice none 0 0)) := by kernel_rfl
theorem ty50_k : KindOk Try.prog 50 ty50.kind := show Try.prog.underlying 50 = some (.slice 156) from by kernel_rfl
theorem ty50_ok : TIOk Try.prog 50 ty50 := TIOk.of ty50_i rfl rfl ty50_k (fun ks h => by cases h)
def ty51 : TI := { kind := .slice 78, size := 1, bytes := 24, zero := [.slice none 0 0], leaf := none }
@[simp] theorem ty51_by : ty51.bytes = 24 := rfl
theorem ty51_i : (Try.prog.info? 51).map (fun i => (i.size, i.bytes, i.zero)) = some (1, 24, some (.slice none 0 0)) := by kernel_rfl
theorem ty51_k : KindOk Try.prog 51 ty51.kind := show Try.prog.underlying 51 = some (.slice 78) from by kernel_rfl
theorem ty51_ok : TIOk Try.prog 51 ty51 := TIOk.of ty51_i rfl rfl ty51_k (fun ks h => by cases h)
def ty52 : TI := { kind := .slice 71, size := 1, bytes := 24, zero := [.slice none 0 0], leaf := none }
@[simp] theorem ty52_by : ty52.bytes = 24 := rfl
theorem ty52_i : (Try.prog.info? 52).map (fun i => (i.size, i.bytes, i.zero)) = some (1, 24, some (.slice none 0 0)) := by kernel_rfl
theorem ty52_k : KindOk Try.prog 52 ty52.kind := show Try.prog.underlying 52 = some (.slice 71) from by kernel_rfl
theorem ty52_ok : TIOk Try.prog 52 ty52 := TIOk.of ty52_i rfl rfl ty52_k (fun ks h => by cases h)
def ty53 : TI := { kind := .struct [(0, 1), (1, 1), (2, 1), (3, 1), (4, 1), (5, 1), (6, 1)] [3, 49, 50, 51, 52, 3, 49], size := 7, bytes := 136, zero := [.int .i64 0, .slice none 0 0, .slice none 0 0, .slice none 0 0, .slice none 0 0, .int .i64 0, .slice none 0 0], leaf := none }
@[simp] theorem ty53_by : ty53.bytes = 136 := rfl
theorem ty53_i : (Try.prog.info? 53).map (fun i => (i.size, i.bytes, i.zero)) = some (7, 136, some (.agg #[.int .i64 0, .slice none 0 0, .slice none 0 0, .slice none 0 0, .slice none 0 0, .int .i64 0, .slice none 0 0])) := by kernel_rfl
theorem ty53_k : KindOk Try.prog 53 ty53.kind := KindOk.struct_of (by kernel_rfl)
theorem ty53_ok : TIOk Try.prog 53 ty53 := TIOk.of ty53_i rfl rfl ty53_k (fun ks h => by cases h)
def ty54 : TI := { kind := .struct [(0, 1), (1, 1), (2, 1), (3, 1), (4, 1), (5, 1), (6, 1)] [3, 49, 50, 51, 52, 3, 49], size := 7, bytes := 136, zero := [.int .i64 0, .slice none 0 0, .slice none 0 0, .slice none 0 0, .slice none 0 0, .int .i64 0, .slice none 0 0], leaf := none }
@[simp] theorem ty54_by : ty54.bytes = 136 := rfl
theorem ty54_i : (Try.prog.info? 54).map (fun i => (i.size, i.bytes, i.zero)) = some (7, 136, some (.agg #[.int .i64 0, .slice none 0 0, .slice none 0 0, .slice none 0 0, .slice none 0 0, .int .i64 0, .slice none 0 0])) := by kernel_rfl
theorem ty54_k : KindOk Try.prog 54 ty54.kind := KindOk.struct_of (by kernel_rfl)
theorem ty54_ok : TIOk Try.prog 54 ty54 := TIOk.of ty54_i rfl rfl ty54_k (fun ks h => by cases h)
def ty55 : TI := { kind := .slice 66, size := 1, bytes := 24, zero := [.slice none 0 0], leaf := none }
@[simp] theorem ty55_by : ty55.bytes = 24 := rfl
theorem ty55_i : (Try.prog.info? 55).map (fun i => (i.size, i.bytes, i.zero)) = some (1, 24, some (.slice none 0 0)) := by kernel_rfl
theorem ty55_k : KindOk Try.prog 55 ty55.kind := show Try.prog.underlying 55 = some (.slice 66) from by kernel_rfl
theorem ty55_ok : TIOk Try.prog 55 ty55 := TIOk.of ty55_i rfl rfl ty55_k (fun ks h => by cases h)
def ty56 : TI := { kind := .struct [(0, 1), (1, 1), (2, 1), (3, 1)] [3, 49, 44, 55], size := 4, bytes := 80, zero := [.int .i64 0, .slice none 0 0, .slice none 0 0, .slice none 0 0], leaf := none }
@[simp] theorem ty56_by : ty56.bytes = 80 := rfl
theorem ty56_i : (Try.prog.info? 56).map (fun i => (i.size, i.bytes, i.zero)) = some (4, 80, some (.agg #[.int .i64 0, .slice none 0 0, .slice none 0 0, .slice none 0 0])) := by kernel_rfl
theorem ty56_k : KindOk Try.prog 56 ty56.kind := KindOk.struct_of (by kernel_rfl)
theorem ty56_ok : TIOk Try.prog 56 ty56 := TIOk.of ty56_i rfl rfl ty56_k (fun ks h => by cases h)
def ty57 : TI := { kind := .struct [(0, 1), (1, 1), (2, 1), (3, 1)] [3, 49, 44, 55], size := 4, bytes := 80, zero := [.int .i64 0, .slice none 0 0, .slice none 0 0, .slice none 0 0], leaf := none }
@[simp] theorem ty57_by : ty57.bytes = 80 := rfl
theorem ty57_i : (Try.prog.info? 57).map (fun i => (i.size, i.bytes, i.zero)) = some (4, 80, some (.agg #[.int .i64 0, .slice none 0 0, .slice none 0 0, .slice none 0 0])) := by kernel_rfl
theorem ty57_k : KindOk Try.prog 57 ty57.kind := KindOk.struct_of (by kernel_rfl)
theorem ty57_ok : TIOk Try.prog 57 ty57 := TIOk.of ty57_i rfl rfl ty57_k (fun ks h => by cases h)
def ty65 : TI := { kind := .struct [(0, 1), (1, 1), (2, 1), (3, 1), (4, 1)] [3, 3, 3, 3, 4], size := 5, bytes := 40, zero := [.int .i64 0, .int .i64 0, .int .i64 0, .int .i64 0, .bool false], leaf := none }
@[simp] theorem ty65_by : ty65.bytes = 40 := rfl
theorem ty65_i : (Try.prog.info? 65).map (fun i => (i.size, i.bytes, i.zero)) = some (5, 40, some (.agg #[.int .i64 0, .int .i64 0, .int .i64 0, .int .i64 0, .bool false])) := by kernel_rfl
theorem ty65_k : KindOk Try.prog 65 ty65.kind := KindOk.struct_of (by kernel_rfl)
theorem ty65_ok : TIOk Try.prog 65 ty65 := TIOk.of ty65_i rfl rfl ty65_k (fun ks h => by cases h)
def ty66 : TI := { kind := .struct [(0, 1), (1, 1), (2, 1), (3, 1), (4, 1)] [3, 3, 3, 3, 4], size := 5, bytes := 40, zero := [.int .i64 0, .int .i64 0, .int .i64 0, .int .i64 0, .bool false], leaf := none }
@[simp] theorem ty66_by : ty66.bytes = 40 := rfl
theorem ty66_i : (Try.prog.info? 66).map (fun i => (i.size, i.bytes, i.zero)) = some (5, 40, some (.agg #[.int .i64 0, .int .i64 0, .int .i64 0, .int .i64 0, .bool false])) := by kernel_rfl
theorem ty66_k : KindOk Try.prog 66 ty66.kind := KindOk.struct_of (by kernel_rfl)
theorem ty66_ok : TIOk Try.prog 66 ty66 := TIOk.of ty66_i rfl rfl ty66_k (fun ks h => by cases h)
def ty69 : TI := { kind := .slice 74, size := 1, bytes := 24, zero := [.slice none 0 0], leaf := none }
@[simp] theorem ty69_by : ty69.bytes = 24 := rfl
theorem ty69_i : (Try.prog.info? 69).map (fun i => (i.size, i.bytes, i.zero)) = some (1, 24, some (.slice none 0 0)) := by kernel_rfl
theorem ty69_k : KindOk Try.prog 69 ty69.kind := show Try.prog.underlying 69 = some (.slice 74) from by kernel_rfl
theorem ty69_ok : TIOk Try.prog 69 ty69 := TIOk.of ty69_i rfl rfl ty69_k (fun ks h => by cases h)
def ty70 : TI := { kind := .struct [(0, 1), (1, 1), (2, 1), (3, 1), (4, 1), (5, 1), (6, 1), (7, 1), (8, 1), (9, 1), (10, 1), (11, 2), (13, 1), (14, 1), (15, 1)] [3, 3, 3, 3, 69, 3, 3, 4, 4, 3, 3, 37, 3, 3, 4], size := 16, bytes := 136, zero := [.int .i64 0, .int .i64 0, .int .i64 0, .int .i64 0, .slice none 0 0, .int .i64 0, .int .i64 0, .bool false, .bool false, .int .i64 0, .int .i64 0, .int .i64 0, .int .i64 0, .int .i64 0, .int .i64 0, .bool false], leaf := none }
@[simp] theorem ty70_by : ty70.bytes = 136 := rfl
theorem ty70_i : (Try.prog.info? 70).map (fun i => (i.size, i.bytes, i.zero)) = some (16, 136, some (.agg #[.int .i64 0, .int .i64 0, .int .i64 0, .int .i64 0, .slice none 0 0, .int .i64 0, .int .i64 0, .bool false, .bool false, .int .i64 0, .int .i64 0, .int .i64 0, .int .i64 0, .int .i64 0, .int .i64 0, .bool false])) := by kernel_rfl
theorem ty70_k : KindOk Try.prog 70 ty70.kind := KindOk.struct_of (by kernel_rfl)
theorem ty70_ok : TIOk Try.prog 70 ty70 := TIOk.of ty70_i rfl rfl ty70_k (fun ks h => by cases h)
def ty71 : TI := { kind := .struct [(0, 1), (1, 1), (2, 1), (3, 1), (4, 1), (5, 1), (6, 1), (7, 1), (8, 1), (9, 1), (10, 1), (11, 2), (13, 1), (14, 1), (15, 1)] [3, 3, 3, 3, 69, 3, 3, 4, 4, 3, 3, 37, 3, 3, 4], size := 16, bytes := 136, zero := [.int .i64 0, .int .i64 0, .int .i64 0, .int .i64 0, .slice none 0 0, .int .i64 0, .int .i64 0, .bool false, .bool false, .int .i64 0, .int .i64 0, .int .i64 0, .int .i64 0, .int .i64 0, .int .i64 0, .bool false], leaf := none }
@[simp] theorem ty71_by : ty71.bytes = 136 := rfl
theorem ty71_i : (Try.prog.info? 71).map (fun i => (i.size, i.bytes, i.zero)) = some (16, 136, some (.agg #[.int .i64 0, .int .i64 0, .int .i64 0, .int .i64 0, .slice none 0 0, .int .i64 0, .int .i64 0, .bool false, .bool false, .int .i64 0, .int .i64 0, .int .i64 0, .int .i64 0, .int .i64 0, .int .i64 0, .bool false])) := by kernel_rfl
theorem ty71_k : KindOk Try.prog 71 ty71.kind := KindOk.struct_of (by kernel_rfl)
theorem ty71_ok : TIOk Try.prog 71 ty71 := TIOk.of ty71_i rfl rfl ty71_k (fun ks h => by cases h)
def ty73 : TI := { kind := .struct [(0, 1), (1, 1)] [3, 3], size := 2, bytes := 16, zero := [.int .i64 0, .int .i64 0], leaf := none }
@[simp] theorem ty73_by : ty73.bytes = 16 := rfl
theorem ty73_i : (Try.prog.info? 73).map (fun i => (i.size, i.bytes, i.zero)) = some (2, 16, some (.agg #[.int .i64 0, .int .i64 0])) := by kernel_rfl
theorem ty73_k : KindOk Try.prog 73 ty73.kind := KindOk.struct_of (by kernel_rfl)
theorem ty73_ok : TIOk Try.prog 73 ty73 := TIOk.of ty73_i rfl rfl ty73_k (fun ks h => by cases h)
def ty74 : TI := { kind := .struct [(0, 1), (1, 1)] [3, 3], size := 2, bytes := 16, zero := [.int .i64 0, .int .i64 0], leaf := none }
@[simp] theorem ty74_by : ty74.bytes = 16 := rfl
theorem ty74_i : (Try.prog.info? 74).map (fun i => (i.size, i.bytes, i.zero)) = some (2, 16, some (.agg #[.int .i64 0, .int .i64 0])) := by kernel_rfl
theorem ty74_k : KindOk Try.prog 74 ty74.kind := KindOk.struct_of (by kernel_rfl)
theorem ty74_ok : TIOk Try.prog 74 ty74 := TIOk.of ty74_i rfl rfl ty74_k (fun ks h => by cases h)
def ty77 : TI := { kind := .struct [(0, 1), (1, 1), (2, 1), (3, 1), (4, 1), (5, 2)] [3, 3, 3, 3, 3, 37], size := 7, bytes := 56, zero := [.int .i64 0, .int .i64 0, .int .i64 0, .int .i64 0, .int .i64 0, .int .i64 0, .int .i64 0], leaf := none }
@[simp] theorem ty77_by : ty77.bytes = 56 := rfl
theorem ty77_i : (Try.prog.info? 77).map (fun i => (i.size, i.bytes, i.zero)) = some (7, 56, some (.agg #[.int .i64 0, .int .i64 0, .int .i64 0, .int .i64 0, .int .i64 0, .int .i64 0, .int .i64 0])) := by kernel_rfl
theorem ty77_k : KindOk Try.prog 77 ty77.kind := KindOk.struct_of (by kernel_rfl)
theorem ty77_ok : TIOk Try.prog 77 ty77 := TIOk.of ty77_i rfl rfl ty77_k (fun ks h => by cases h)
def ty78 : TI := { kind := .struct [(0, 1), (1, 1), (2, 1), (3, 1), (4, 1), (5, 2)] [3, 3, 3, 3, 3, 37], size := 7, bytes := 56, zero := [.int .i64 0, .int .i64 0, .int .i64 0, .int .i64 0, .int .i64 0, .int .i64 0, .int .i64 0], leaf := none }
@[simp] theorem ty78_by : ty78.bytes = 56 := rfl
theorem ty78_i : (Try.prog.info? 78).map (fun i => (i.size, i.bytes, i.zero)) = some (7, 56, some (.agg #[.int .i64 0, .int .i64 0, .int .i64 0, .int .i64 0, .int .i64 0, .int .i64 0, .int .i64 0])) := by kernel_rfl
theorem ty78_k : KindOk Try.prog 78 ty78.kind := KindOk.struct_of (by kernel_rfl)
theorem ty78_ok : TIOk Try.prog 78 ty78 := TIOk.of ty78_i rfl rfl ty78_k (fun ks h => by cases h)
def ty97 : TI := { kind := .array 12 4, size := 12, bytes := 12, zero := [.bool false, .bool false, .bool false, .bool false, .bool false, .bool false, .bool false, .bool false, .bool false, .bool false, .bool false, .bool false], leaf := none }
@[simp] theorem ty97_by : ty97.bytes = 12 := rfl
theorem ty97_i : (Try.prog.info? 97).map (fun i => (i.size, i.bytes, i.zero)) = some (12, 12, some (.agg #[.bool false, .bool false, .bool false, .bool false, .bool false, .bool false, .bool false, .bool false, .bool false, .bool false, .bool false, .bool false])) := by kernel_rfl
theorem ty97_k : KindOk Try.prog 97 ty97.kind := show Try.prog.underlying 97 = some (.array 12 4) from by kernel_rfl
theorem ty97_ok : TIOk Try.prog 97 ty97 := TIOk.of ty97_i rfl rfl ty97_k (fun ks h => by cases h)
def ty98 : TI := { kind := .array 12 4, size := 12, bytes := 12, zero := [.bool false, .bool false, .bool false, .bool false, .bool false, .bool false, .bool false, .bool false, .bool false, .bool false, .bool false, .bool false], leaf := none }
@[simp] theorem ty98_by : ty98.bytes = 12 := rfl
theorem ty98_i : (Try.prog.info? 98).map (fun i => (i.size, i.bytes, i.zero)) = some (12, 12, some (.agg #[.bool false, .bool false, .bool false, .bool false, .bool false, .bool false, .bool false, .bool false, .bool false, .bool false, .bool false, .bool false])) := by kernel_rfl
theorem ty98_k : KindOk Try.prog 98 ty98.kind := show Try.prog.underlying 98 = some (.array 12 4) from by kernel_rfl
theorem ty98_ok : TIOk Try.prog 98 ty98 := TIOk.of ty98_i rfl rfl ty98_k (fun ks h => by cases h)
def ty99 : TI := { kind := .map 3 3, size := 1, bytes := 8, zero := [.map none], leaf := none }
@[simp] theorem ty99_by : ty99.bytes = 8 := rfl
theorem ty99_i : (Try.prog.info? 99).map (fun i => (i.size, i.bytes, i.zero)) = some (1, 8, some (.map none)) := by kernel_rfl
theorem ty99_k : KindOk Try.prog 99 ty99.kind := show Try.prog.underlying 99 = some (.map 3 3) from by kernel_rfl
theorem ty99_ok : TIOk Try.prog 99 ty99 := TIOk.of ty99_i rfl rfl ty99_k (fun ks h => by cases h)
def ty108 : TI := { kind := .other, size := 1, bytes := 8, zero := [.pointer none], leaf := none }
@[simp] theorem ty108_by : ty108.bytes = 8 := rfl
theorem ty108_i : (Try.prog.info? 108).map (fun i => (i.size, i.bytes, i.zero)) = some (1, 8, some (.pointer none)) := by kernel_rfl
theorem ty108_k : KindOk Try.prog 108 ty108.kind := KindOk.other_of (by kernel_rfl)
theorem ty108_ok : TIOk Try.prog 108 ty108 := TIOk.of ty108_i rfl rfl ty108_k (fun ks h => by cases h)
def ty110 : TI := { kind := .struct [(0, 7), (7, 4)] [54, 57], size := 11, bytes := 216, zero := [.int .i64 0, .slice none 0 0, .slice none 0 0, .slice none 0 0, .slice none 0 0, .int .i64 0, .slice none 0 0, .int .i64 0, .slice none 0 0, .slice none 0 0, .slice none 0 0], leaf := none }
@[simp] theorem ty110_by : ty110.bytes = 216 := rfl
theorem ty110_i : (Try.prog.info? 110).map (fun i => (i.size, i.bytes, i.zero)) = some (11, 216, some (.agg #[.int .i64 0, .slice none 0 0, .slice none 0 0, .slice none 0 0, .slice none 0 0, .int .i64 0, .slice none 0 0, .int .i64 0, .slice none 0 0, .slice none 0 0, .slice none 0 0])) := by kernel_rfl
theorem ty110_k : KindOk Try.prog 110 ty110.kind := KindOk.struct_of (by kernel_rfl)
theorem ty110_ok : TIOk Try.prog 110 ty110 := TIOk.of ty110_i rfl rfl ty110_k (fun ks h => by cases h)
def ty111 : TI := { kind := .struct [(0, 7), (7, 4)] [54, 57], size := 11, bytes := 216, zero := [.int .i64 0, .slice none 0 0, .slice none 0 0, .slice none 0 0, .slice none 0 0, .int .i64 0, .slice none 0 0, .int .i64 0, .slice none 0 0, .slice none 0 0, .slice none 0 0], leaf := none }
@[simp] theorem ty111_by : ty111.bytes = 216 := rfl
theorem ty111_i : (Try.prog.info? 111).map (fun i => (i.size, i.bytes, i.zero)) = some (11, 216, some (.agg #[.int .i64 0, .slice none 0 0, .slice none 0 0, .slice none 0 0, .slice none 0 0, .int .i64 0, .slice none 0 0, .int .i64 0, .slice none 0 0, .slice none 0 0, .slice none 0 0])) := by kernel_rfl
theorem ty111_k : KindOk Try.prog 111 ty111.kind := KindOk.struct_of (by kernel_rfl)
theorem ty111_ok : TIOk Try.prog 111 ty111 := TIOk.of ty111_i rfl rfl ty111_k (fun ks h => by cases h)
def ty115 : TI := { kind := .other, size := 1, bytes := 8, zero := [.nilFunc], leaf := none }
@[simp] theorem ty115_by : ty115.bytes = 8 := rfl
theorem ty115_i : (Try.prog.info? 115).map (fun i => (i.size, i.bytes, i.zero)) = some (1, 8, some (.nilFunc)) := by kernel_rfl
theorem ty115_k : KindOk Try.prog 115 ty115.kind := KindOk.other_of (by kernel_rfl)
theorem ty115_ok : TIOk Try.prog 115 ty115 := TIOk.of ty115_i rfl rfl ty115_k (fun ks h => by cases h)
def ty118 : TI := { kind := .other, size := 1, bytes := 8, zero := [.nilFunc], leaf := none }
@[simp] theorem ty118_by : ty118.bytes = 8 := rfl
theorem ty118_i : (Try.prog.info? 118).map (fun i => (i.size, i.bytes, i.zero)) = some (1, 8, some (.nilFunc)) := by kernel_rfl
theorem ty118_k : KindOk Try.prog 118 ty118.kind := KindOk.other_of (by kernel_rfl)
theorem ty118_ok : TIOk Try.prog 118 ty118 := TIOk.of ty118_i rfl rfl ty118_k (fun ks h => by cases h)
def ty120 : TI := { kind := .array 12 37, size := 24, bytes := 192, zero := [.int .i64 0, .int .i64 0, .int .i64 0, .int .i64 0, .int .i64 0, .int .i64 0, .int .i64 0, .int .i64 0, .int .i64 0, .int .i64 0, .int .i64 0, .int .i64 0, .int .i64 0, .int .i64 0, .int .i64 0, .int .i64 0, .int .i64 0, .int .i64 0, .int .i64 0, .int .i64 0, .int .i64 0, .int .i64 0, .int .i64 0, .int .i64 0], leaf := none }
@[simp] theorem ty120_by : ty120.bytes = 192 := rfl
theorem ty120_i : (Try.prog.info? 120).map (fun i => (i.size, i.bytes, i.zero)) = some (24, 192, some (.agg #[.int .i64 0, .int .i64 0, .int .i64 0, .int .i64 0, .int .i64 0, .int .i64 0, .int .i64 0, .int .i64 0, .int .i64 0, .int .i64 0, .int .i64 0, .int .i64 0, .int .i64 0, .int .i64 0, .int .i64 0, .int .i64 0, .int .i64 0, .int .i64 0, .int .i64 0, .int .i64 0, .int .i64 0, .int .i64 0, .int .i64 0, .int .i64 0])) := by kernel_rfl
theorem ty120_k : KindOk Try.prog 120 ty120.kind := show Try.prog.underlying 120 = some (.array 12 37) from by kernel_rfl
theorem ty120_ok : TIOk Try.prog 120 ty120 := TIOk.of ty120_i rfl rfl ty120_k (fun ks h => by cases h)
def ty121 : TI := { kind := .array 12 120, size := 288, bytes := 2304, zero := [.int .i64 0, .int .i64 0, .int .i64 0, .int .i64 0, .int .i64 0, .int .i64 0, .int .i64 0, .int .i64 0, .int .i64 0, .int .i64 0, .int .i64 0, .int .i64 0, .int .i64 0, .int .i64 0, .int .i64 0, .int .i64 0, .int .i64 0, .int .i64 0, .int .i64 0, .int .i64 0, .int .i64 0, .int .i64 0, .int .i64 0, .int .i64 0, .int .i64 0, .int .i64 0, .int .i64 0, .int .i64 0, .int .i64 0, .int .i64 0, .int .i64 0, .int .i64 0, .int .i64 0, .int .i64 0, .int .i64 0, .int .i64 0, .int .i64 0, .int .i64 0, .int .i64 0, .int .i64 0, .int .i64 0, .int .i64 0, .int .i64 0, .int .i64 0, .int .i64 0, .int .i64 0, .int .i64 0, .int .i64 0, .int .i64 0, .int .i64 0, .int .i64 0, .int .i64 0, .int .i64 0, .int .i64 0, .int .i64 0, .int .i64 0, .int .i64 0, .int .i64 0, .int .i64 0, .int .i64 0, .int .i64 0, .int .i64 0, .int .i64 0, .int .i64 0, .int .i64 0, .int .i64 0, .int .i64 0, .int .i64 0, .int .i64 0, .int .i64 0, .int .i64 0, .int .i64 0, .int .i64 0, .int .i64 0, .int .i64 0, .int .i64 0, .int .i64 0, .int .i64 0, .int .i64 0, .int .i64 0, .int .i64 0, .int .i64 0, .int .i64 0, .int .i64 0, .int .i64 0, .int .i64 0, .int .i64 0, .int .i64 0, .int .i64 0, .int .i64 0, .int .i64 0, .int .i64 0, .int .i64 0, .int .i64 0, .int .i64 0, .int .i64 0, .int .i64 0, .int .i64 0, .int .i64 0, .int .i64 0, .int .i64 0, .int .i64 0, .int .i64 0, .int .i64 0, .int .i64 0, .int .i64 0, .int .i64 0, .int .i64 0, .int .i64 0, .int .i64 0, .int .i64 0, .int .i64 0, .int .i64 0, .int .i64 0, .int .i64 0, .int .i64 0, .int .i64 0, .int .i64 0, .int .i64 0, .int .i64 0, .int .i64 0, .int .i64 0, .int .i64 0, .int .i64 0, .int .i64 0, .int .i64 0, .int .i64 0, .int .i64 0, .int .i64 0, .int .i64 0, .int .i64 0, .int .i64 0, .int .i64 0, .int .i64 0, .int .i64 0, .int .i64 0, .int .i64 0, .int .i64 0, .int .i64 0, .int .i64 0, .int .i64 0, .int .i64 0, .int .i64 0, .int .i64 0, .int .i64 0, .int .i64 0, .int .i64 0, .int .i64 0, .int .i64 0, .int .i64 0, .int .i64 0, .int .i64 0, .int .i64 0, .int .i64 0, .int .i64 0, .int .i64 0, .int .i64 0, .int .i64 0, .int .i64 0, .int .i64 0, .int .i64 0, .int .i64 0, .int .i64 0, .int .i64 0, .int .i64 0, .int .i64 0, .int .i64 0, .int .i64 0, .int .i64 0, .int .i64 0, .int .i64 0, .int .i64 0, .int .i64 0, .int .i64 0, .int .i64 0, .int .i64 0, .int .i64 0, .int .i64 0, .int .i64 0, .int .i64 0, .int .i64 0, .int .i64 0, .int .i64 0, .int .i64 0, .int .i64 0, .int .i64 0, .int .i64 0, .int .i64 0, .int .i64 0, .int .i64 0, .int .i64 0, .int .i64 0, .int .i64 0, .int .i64 0, .int .i64 0, .int .i64 0, .int .i64 0, .int .i64 0, .int .i64 0, .int .i64 0, .int .i64 0, .int .i64 0, .int .i64 0, .int .i64 0, .int .i64 0, .int .i64 0, .int .i64 0, .int .i64 0, .int .i64 0, .int .i64 0, .int .i64 0, .int .i64 0, .int .i64 0, .int .i64 0, .int .i64 0, .int .i64 0, .int .i64 0, .int .i64 0, .int .i64 0, .int .i64 0, .int .i64 0, .int .i64 0, .int .i64 0, .int .i64 0, .int .i64 0, .int .i64 0, .int .i64 0, .int .i64 0, .int .i64 0, .int .i64 0, .int .i64 0, .int .i64 0, .int .i64 0, .int .i64 0, .int .i64 0, .int .i64 0, .int .i64 0, .int .i64 0, .int .i64 0, .int .i64 0, .int .i64 0, .int .i64 0, .int .i64 0, .int .i64 0, .int .i64 0, .int .i64 0, .int .i64 0, .int .i64 0, .int .i64 0, .int .i64 0, .int .i64 0, .int .i64 0, .int .i64 0, .int .i64 0, .int .i64 0, .int .i64 0, .int .i64 0, .int .i64 0, .int .i64 0, .int .i64 0, .int .i64 0, .int .i64 0, .int .i64 0, .int .i64 0, .int .i64 0, .int .i64 0, .int .i64 0, .int .i64 0, .int .i64 0, .int .i64 0, .int .i64 0, .int .i64 0, .int .i64 0, .int .i64 0, .int .i64 0, .int .i64 0, .int .i64 0, .int .i64 0, .int .i64 0, .int .i64 0, .int .i64 0, .int .i64 0, .int .i64 0, .int .i64 0, .int .i64 0, .int .i64 0, .int .i64 0, .int .i64 0], leaf := none }
@[simp] theorem ty121_by : ty121.bytes = 2304 := rfl
theorem ty121_i : (Try.prog.info? 121).map (fun i => (i.size, i.bytes, i.zero)) = some (288, 2304, some (.agg #[.int .i64 0, .int .i64 0, .int .i64 0, .int .i64 0, .int .i64 0, .int .i64 0, .int .i64 0, .int .i64 0, .int .i64 0, .int .i64 0, .int .i64 0, .int .i64 0, .int .i64 0, .int .i64 0, .int .i64 0, .int .i64 0, .int .i64 0, .int .i64 0, .int .i64 0, .int .i64 0, .int .i64 0, .int .i64 0, .int .i64 0, .int .i64 0, .int .i64 0, .int .i64 0, .int .i64 0, .int .i64 0, .int .i64 0, .int .i64 0, .int .i64 0, .int .i64 0, .int .i64 0, .int .i64 0, .int .i64 0, .int .i64 0, .int .i64 0, .int .i64 0, .int .i64 0, .int .i64 0, .int .i64 0, .int .i64 0, .int .i64 0, .int .i64 0, .int .i64 0, .int .i64 0, .int .i64 0, .int .i64 0, .int .i64 0, .int .i64 0, .int .i64 0, .int .i64 0, .int .i64 0, .int .i64 0, .int .i64 0, .int .i64 0, .int .i64 0, .int .i64 0, .int .i64 0, .int .i64 0, .int .i64 0, .int .i64 0, .int .i64 0, .int .i64 0, .int .i64 0, .int .i64 0, .int .i64 0, .int .i64 0, .int .i64 0, .int .i64 0, .int .i64 0, .int .i64 0, .int .i64 0, .int .i64 0, .int .i64 0, .int .i64 0, .int .i64 0, .int .i64 0, .int .i64 0, .int .i64 0, .int .i64 0, .int .i64 0, .int .i64 0, .int .i64 0, .int .i64 0, .int .i64 0, .int .i64 0, .int .i64 0, .int .i64 0, .int .i64 0, .int .i64 0, .int .i64 0, .int .i64 0, .int .i64 0, .int .i64 0, .int .i64 0, .int .i64 0, .int .i64 0, .int .i64 0, .int .i64 0, .int .i64 0, .int .i64 0, .int .i64 0, .int .i64 0, .int .i64 0, .int .i64 0, .int .i64 0, .int .i64 0, .int .i64 0, .int .i64 0, .int .i64 0, .int .i64 0, .int .i64 0, .int .i64 0, .int .i64 0, .int .i64 0, .int .i64 0, .int .i64 0, .int .i64 0, .int .i64 0, .int .i64 0, .int .i64 0, .int .i64 0, .int .i64 0, .int .i64 0, .int .i64 0, .int .i64 0, .int .i64 0, .int .i64 0, .int .i64 0, .int .i64 0, .int .i64 0, .int .i64 0, .int .i64 0, .int .i64 0, .int .i64 0, .int .i64 0, .int .i64 0, .int .i64 0, .int .i64 0, .int .i64 0, .int .i64 0, .int .i64 0, .int .i64 0, .int .i64 0, .int .i64 0, .int .i64 0, .int .i64 0, .int .i64 0, .int .i64 0, .int .i64 0, .int .i64 0, .int .i64 0, .int .i64 0, .int .i64 0, .int .i64 0, .int .i64 0, .int .i64 0, .int .i64 0, .int .i64 0, .int .i64 0, .int .i64 0, .int .i64 0, .int .i64 0, .int .i64 0, .int .i64 0, .int .i64 0, .int .i64 0, .int .i64 0, .int .i64 0, .int .i64 0, .int .i64 0, .int .i64 0, .int .i64 0, .int .i64 0, .int .i64 0, .int .i64 0, .int .i64 0, .int .i64 0, .int .i64 0, .int .i64 0, .int .i64 0, .int .i64 0, .int .i64 0, .int .i64 0, .int .i64 0, .int .i64 0, .int .i64 0, .int .i64 0, .int .i64 0, .int .i64 0, .int .i64 0, .int .i64 0, .int .i64 0, .int .i64 0, .int .i64 0, .int .i64 0, .int .i64 0, .int .i64 0, .int .i64 0, .int .i64 0, .int .i64 0, .int .i64 0, .int .i64 0, .int .i64 0, .int .i64 0, .int .i64 0, .int .i64 0, .int .i64 0, .int .i64 0, .int .i64 0, .int .i64 0, .int .i64 0, .int .i64 0, .int .i64 0, .int .i64 0, .int .i64 0, .int .i64 0, .int .i64 0, .int .i64 0, .int .i64 0, .int .i64 0, .int .i64 0, .int .i64 0, .int .i64 0, .int .i64 0, .int .i64 0, .int .i64 0, .int .i64 0, .int .i64 0, .int .i64 0, .int .i64 0, .int .i64 0, .int .i64 0, .int .i64 0, .int .i64 0, .int .i64 0, .int .i64 0, .int .i64 0, .int .i64 0, .int .i64 0, .int .i64 0, .int .i64 0, .int .i64 0, .int .i64 0, .int .i64 0, .int .i64 0, .int .i64 0, .int .i64 0, .int .i64 0, .int .i64 0, .int .i64 0, .int .i64 0, .int .i64 0, .int .i64 0, .int .i64 0, .int .i64 0, .int .i64 0, .int .i64 0, .int .i64 0, .int .i64 0, .int .i64 0, .int .i64 0, .int .i64 0, .int .i64 0, .int .i64 0, .int .i64 0, .int .i64 0, .int .i64 0, .int .i64 0, .int .i64 0, .int .i64 0, .int .i64 0, .int .i64 0, .int .i64 0, .int .i64 0, .int .i64 0, .int .i64 0, .int .i64 0, .int .i64 0, .int .i64 0, .int .i64 0, .int .i64 0, .int .i64 0, .int .i64 0, .int .i64 0, .int .i64 0, .int .i64 0])) := by kernel_rfl
theorem ty121_k : KindOk Try.prog 121 ty121.kind := show Try.prog.underlying 121 = some (.array 12 120) from by kernel_rfl
theorem ty121_ok : TIOk Try.prog 121 ty121 := TIOk.of ty121_i rfl rfl ty121_k (fun ks h => by cases h)
def ty123 : TI := { kind := .other, size := 1, bytes := 8, zero := [.nilFunc], leaf := none }
@[simp] theorem ty123_by : ty123.bytes = 8 := rfl
theorem ty123_i : (Try.prog.info? 123).map (fun i => (i.size, i.bytes, i.zero)) = some (1, 8, some (.nilFunc)) := by kernel_rfl
theorem ty123_k : KindOk Try.prog 123 ty123.kind := KindOk.other_of (by kernel_rfl)
theorem ty123_ok : TIOk Try.prog 123 ty123 := TIOk.of ty123_i rfl rfl ty123_k (fun ks h => by cases h)
def ty125 : TI := { kind := .int .u64, size := 1, bytes := 8, zero := [.int .u64 0], leaf := none }
@[simp] theorem ty125_by : ty125.bytes = 8 := rfl
theorem ty125_i : (Try.prog.info? 125).map (fun i => (i.size, i.bytes, i.zero)) = some (1, 8, some (.int .u64 0)) := by kernel_rfl
theorem ty125_k : KindOk Try.prog 125 ty125.kind := show Try.prog.underlying 125 = some (.int .u64) from by kernel_rfl
theorem ty125_ok : TIOk Try.prog 125 ty125 := TIOk.of ty125_i rfl rfl ty125_k (fun ks h => by cases h)
def ty134 : TI := { kind := .other, size := 1, bytes := 8, zero := [.nilFunc], leaf := none }
@[simp] theorem ty134_by : ty134.bytes = 8 := rfl
theorem ty134_i : (Try.prog.info? 134).map (fun i => (i.size, i.bytes, i.zero)) = some (1, 8, some (.nilFunc)) := by kernel_rfl
theorem ty134_k : KindOk Try.prog 134 ty134.kind := KindOk.other_of (by kernel_rfl)
theorem ty134_ok : TIOk Try.prog 134 ty134 := TIOk.of ty134_i rfl rfl ty134_k (fun ks h => by cases h)
def ty135 : TI := { kind := .array 5 134, size := 5, bytes := 40, zero := [.nilFunc, .nilFunc, .nilFunc, .nilFunc, .nilFunc], leaf := none }
@[simp] theorem ty135_by : ty135.bytes = 40 := rfl
theorem ty135_i : (Try.prog.info? 135).map (fun i => (i.size, i.bytes, i.zero)) = some (5, 40, some (.agg #[.nilFunc, .nilFunc, .nilFunc, .nilFunc, .nilFunc])) := by kernel_rfl
theorem ty135_k : KindOk Try.prog 135 ty135.kind := show Try.prog.underlying 135 = some (.array 5 134) from by kernel_rfl
theorem ty135_ok : TIOk Try.prog 135 ty135 := TIOk.of ty135_i rfl rfl ty135_k (fun ks h => by cases h)
def ty137 : TI := { kind := .other, size := 1, bytes := 8, zero := [.nilFunc], leaf := none }
@[simp] theorem ty137_by : ty137.bytes = 8 := rfl
theorem ty137_i : (Try.prog.info? 137).map (fun i => (i.size, i.bytes, i.zero)) = some (1, 8, some (.nilFunc)) := by kernel_rfl
theorem ty137_k : KindOk Try.prog 137 ty137.kind := KindOk.other_of (by kernel_rfl)
theorem ty137_ok : TIOk Try.prog 137 ty137 := TIOk.of ty137_i rfl rfl ty137_k (fun ks h => by cases h)
def ty138 : TI := { kind := .other, size := 1, bytes := 8, zero := [.nilFunc], leaf := none }
@[simp] theorem ty138_by : ty138.bytes = 8 := rfl
theorem ty138_i : (Try.prog.info? 138).map (fun i => (i.size, i.bytes, i.zero)) = some (1, 8, some (.nilFunc)) := by kernel_rfl
theorem ty138_k : KindOk Try.prog 138 ty138.kind := KindOk.other_of (by kernel_rfl)
theorem ty138_ok : TIOk Try.prog 138 ty138 := TIOk.of ty138_i rfl rfl ty138_k (fun ks h => by cases h)
def ty144 : TI := { kind := .struct [(0, 1), (1, 4)] [3, 57], size := 5, bytes := 88, zero := [.int .i64 0, .int .i64 0, .slice none 0 0, .slice none 0 0, .slice none 0 0], leaf := none }
@[simp] theorem ty144_by : ty144.bytes = 88 := rfl
theorem ty144_i : (Try.prog.info? 144).map (fun i => (i.size, i.bytes, i.zero)) = some (5, 88, some (.agg #[.int .i64 0, .int .i64 0, .slice none 0 0, .slice none 0 0, .slice none 0 0])) := by kernel_rfl
theorem ty144_k : KindOk Try.prog 144 ty144.kind := KindOk.struct_of (by kernel_rfl)
theorem ty144_ok : TIOk Try.prog 144 ty144 := TIOk.of ty144_i rfl rfl ty144_k (fun ks h => by cases h)
def ty145 : TI := { kind := .struct [(0, 1), (1, 4)] [3, 57], size := 5, bytes := 88, zero := [.int .i64 0, .int .i64 0, .slice none 0 0, .slice none 0 0, .slice none 0 0], leaf := none }
@[simp] theorem ty145_by : ty145.bytes = 88 := rfl
theorem ty145_i : (Try.prog.info? 145).map (fun i => (i.size, i.bytes, i.zero)) = some (5, 88, some (.agg #[.int .i64 0, .int .i64 0, .slice none 0 0, .slice none 0 0, .slice none 0 0])) := by kernel_rfl
theorem ty145_k : KindOk Try.prog 145 ty145.kind := KindOk.struct_of (by kernel_rfl)
theorem ty145_ok : TIOk Try.prog 145 ty145 := TIOk.of ty145_i rfl rfl ty145_k (fun ks h => by cases h)
def ty146 : TI := { kind := .slice 125, size := 1, bytes := 24, zero := [.slice none 0 0], leaf := none }
@[simp] theorem ty146_by : ty146.bytes = 24 := rfl
theorem ty146_i : (Try.prog.info? 146).map (fun i => (i.size, i.bytes, i.zero)) = some (1, 24, some (.slice none 0 0)) := by kernel_rfl
theorem ty146_k : KindOk Try.prog 146 ty146.kind := show Try.prog.underlying 146 = some (.slice 125) from by kernel_rfl
theorem ty146_ok : TIOk Try.prog 146 ty146 := TIOk.of ty146_i rfl rfl ty146_k (fun ks h => by cases h)
def ty147 : TI := { kind := .other, size := 1, bytes := 8, zero := [.nilFunc], leaf := none }
@[simp] theorem ty147_by : ty147.bytes = 8 := rfl
theorem ty147_i : (Try.prog.info? 147).map (fun i => (i.size, i.bytes, i.zero)) = some (1, 8, some (.nilFunc)) := by kernel_rfl
theorem ty147_k : KindOk Try.prog 147 ty147.kind := KindOk.other_of (by kernel_rfl)
theorem ty147_ok : TIOk Try.prog 147 ty147 := TIOk.of ty147_i rfl rfl ty147_k (fun ks h => by cases h)
def ty148 : TI := { kind := .slice 23, size := 1, bytes := 24, zero := [.slice none 0 0], leaf := none }
@[simp] theorem ty148_by : ty148.bytes = 24 := rfl
theorem ty148_i : (Try.prog.info? 148).map (fun i => (i.size, i.bytes, i.zero)) = some (1, 24, some (.slice none 0 0)) := by kernel_rfl
theorem ty148_k : KindOk Try.prog 148 ty148.kind := show Try.prog.underlying 148 = some (.slice 23) from by kernel_rfl
theorem ty148_ok : TIOk Try.prog 148 ty148 := TIOk.of ty148_i rfl rfl ty148_k (fun ks h => by cases h)
def ty150 : TI := { kind := .other, size := 1, bytes := 8, zero := [.nilFunc], leaf := none }
@[simp] theorem ty150_by : ty150.bytes = 8 := rfl
theorem ty150_i : (Try.prog.info? 150).map (fun i => (i.size, i.bytes, i.zero)) = some (1, 8, some (.nilFunc)) := by kernel_rfl
theorem ty150_k : KindOk Try.prog 150 ty150.kind := KindOk.other_of (by kernel_rfl)
theorem ty150_ok : TIOk Try.prog 150 ty150 := TIOk.of ty150_i rfl rfl ty150_k (fun ks h => by cases h)
def ty155 : TI := { kind := .struct [(0, 1), (1, 1), (2, 1), (3, 2)] [9, 3, 3, 37], size := 5, bytes := 48, zero := [.string { data := #[] }, .int .i64 0, .int .i64 0, .int .i64 0, .int .i64 0], leaf := none }
@[simp] theorem ty155_by : ty155.bytes = 48 := rfl
theorem ty155_i : (Try.prog.info? 155).map (fun i => (i.size, i.bytes, i.zero)) = some (5, 48, some (.agg #[.string { data := #[] }, .int .i64 0, .int .i64 0, .int .i64 0, .int .i64 0])) := by kernel_rfl
theorem ty155_k : KindOk Try.prog 155 ty155.kind := KindOk.struct_of (by kernel_rfl)
theorem ty155_ok : TIOk Try.prog 155 ty155 := TIOk.of ty155_i rfl rfl ty155_k (fun ks h => by cases h)
def ty156 : TI := { kind := .struct [(0, 1), (1, 1), (2, 1), (3, 2)] [9, 3, 3, 37], size := 5, bytes := 48, zero := [.string { data := #[] }, .int .i64 0, .int .i64 0, .int .i64 0, .int .i64 0], leaf := none }
@[simp] theorem ty156_by : ty156.bytes = 48 := rfl
theorem ty156_i : (Try.prog.info? 156).map (fun i => (i.size, i.bytes, i.zero)) = some (5, 48, some (.agg #[.string { data := #[] }, .int .i64 0, .int .i64 0, .int .i64 0, .int .i64 0])) := by kernel_rfl
theorem ty156_k : KindOk Try.prog 156 ty156.kind := KindOk.struct_of (by kernel_rfl)
theorem ty156_ok : TIOk Try.prog 156 ty156 := TIOk.of ty156_i rfl rfl ty156_k (fun ks h => by cases h)
def ty157 : TI := { kind := .int .u64, size := 1, bytes := 8, zero := [.int .u64 0], leaf := none }
@[simp] theorem ty157_by : ty157.bytes = 8 := rfl
theorem ty157_i : (Try.prog.info? 157).map (fun i => (i.size, i.bytes, i.zero)) = some (1, 8, some (.int .u64 0)) := by kernel_rfl
theorem ty157_k : KindOk Try.prog 157 ty157.kind := show Try.prog.underlying 157 = some (.int .u64) from by kernel_rfl
theorem ty157_ok : TIOk Try.prog 157 ty157 := TIOk.of ty157_i rfl rfl ty157_k (fun ks h => by cases h)
def ty159 : TI := { kind := .other, size := 1, bytes := 8, zero := [.nilFunc], leaf := none }
@[simp] theorem ty159_by : ty159.bytes = 8 := rfl
theorem ty159_i : (Try.prog.info? 159).map (fun i => (i.size, i.bytes, i.zero)) = some (1, 8, some (.nilFunc)) := by kernel_rfl
theorem ty159_k : KindOk Try.prog 159 ty159.kind := KindOk.other_of (by kernel_rfl)
theorem ty159_ok : TIOk Try.prog 159 ty159 := TIOk.of ty159_i rfl rfl ty159_k (fun ks h => by cases h)
def ty160 : TI := { kind := .slice 156, size := 1, bytes := 24, zero := [.slice none 0 0], leaf := none }
@[simp] theorem ty160_by : ty160.bytes = 24 := rfl
theorem ty160_i : (Try.prog.info? 160).map (fun i => (i.size, i.bytes, i.zero)) = some (1, 24, some (.slice none 0 0)) := by kernel_rfl
theorem ty160_k : KindOk Try.prog 160 ty160.kind := show Try.prog.underlying 160 = some (.slice 156) from by kernel_rfl
theorem ty160_ok : TIOk Try.prog 160 ty160 := TIOk.of ty160_i rfl rfl ty160_k (fun ks h => by cases h)
def TB : TE := [(2, ty2), (3, ty3), (4, ty4), (5, ty5), (9, ty9), (22, ty22), (23, ty23), (24, ty24), (25, ty25), (26, ty26), (27, ty27), (32, ty32), (33, ty33), (34, ty34), (35, ty35), (36, ty36), (37, ty37), (38, ty38), (41, ty41), (42, ty42), (44, ty44), (49, ty49), (50, ty50), (51, ty51), (52, ty52), (53, ty53), (54, ty54), (55, ty55), (56, ty56), (57, ty57), (65, ty65), (66, ty66), (69, ty69), (70, ty70), (71, ty71), (73, ty73), (74, ty74), (77, ty77), (78, ty78), (97, ty97), (98, ty98), (99, ty99), (108, ty108), (110, ty110), (111, ty111), (115, ty115), (118, ty118), (120, ty120), (121, ty121), (123, ty123), (125, ty125), (134, ty134), (135, ty135), (137, ty137), (138, ty138), (144, ty144), (145, ty145), (146, ty146), (147, ty147), (148, ty148), (150, ty150), (155, ty155), (156, ty156), (157, ty157), (159, ty159), (160, ty160)]
theorem TB_ok : TOk Try.prog TB := TOk.cons ty2_ok (TOk.cons ty3_ok (TOk.cons ty4_ok (TOk.cons ty5_ok (TOk.cons ty9_ok (TOk.cons ty22_ok (TOk.cons ty23_ok (TOk.cons ty24_ok (TOk.cons ty25_ok (TOk.cons ty26_ok (TOk.cons ty27_ok (TOk.cons ty32_ok (TOk.cons ty33_ok (TOk.cons ty34_ok (TOk.cons ty35_ok (TOk.cons ty36_ok (TOk.cons ty37_ok (TOk.cons ty38_ok (TOk.cons ty41_ok (TOk.cons ty42_ok (TOk.cons ty44_ok (TOk.cons ty49_ok (TOk.cons ty50_ok (TOk.cons ty51_ok (TOk.cons ty52_ok (TOk.cons ty53_ok (TOk.cons ty54_ok (TOk.cons ty55_ok (TOk.cons ty56_ok (TOk.cons ty57_ok (TOk.cons ty65_ok (TOk.cons ty66_ok (TOk.cons ty69_ok (TOk.cons ty70_ok (TOk.cons ty71_ok (TOk.cons ty73_ok (TOk.cons ty74_ok (TOk.cons ty77_ok (TOk.cons ty78_ok (TOk.cons ty97_ok (TOk.cons ty98_ok (TOk.cons ty99_ok (TOk.cons ty108_ok (TOk.cons ty110_ok (TOk.cons ty111_ok (TOk.cons ty115_ok (TOk.cons ty118_ok (TOk.cons ty120_ok (TOk.cons ty121_ok (TOk.cons ty123_ok (TOk.cons ty125_ok (TOk.cons ty134_ok (TOk.cons ty135_ok (TOk.cons ty137_ok (TOk.cons ty138_ok (TOk.cons ty144_ok (TOk.cons ty145_ok (TOk.cons ty146_ok (TOk.cons ty147_ok (TOk.cons ty148_ok (TOk.cons ty150_ok (TOk.cons ty155_ok (TOk.cons ty156_ok (TOk.cons ty157_ok (TOk.cons ty159_ok (TOk.cons ty160_ok (TOk.nil _))))))))))))))))))))))))))))))))))))))))))))))))))))))))))))))))))
theorem leaf32 : LeafOk Try.prog 32 [.int .i64, .int .i64, .int .i64] := LeafOk.of (n := 9) TB_ok rfl (by decide) (by kernel_rfl) (by kernel_rfl)
def ty32e : TI := { kind := ty32.kind, size := 3, bytes := 24, zero := [.int .i64 0, .int .i64 0, .int .i64 0], leaf := some [.int .i64, .int .i64, .int .i64] }
@[simp] theorem ty32e_by : ty32e.bytes = 24 := rfl
theorem ty32e_ok : TIOk Try.prog 32 ty32e := TIOk.of ty32_i rfl rfl ty32_k (fun ks h => by injection h with h; exact h ▸ leaf32)
theorem leaf33 : LeafOk Try.prog 33 [.int .i64, .int .i64, .int .i64] := LeafOk.of (n := 9) TB_ok rfl (by decide) (by kernel_rfl) (by kernel_rfl)
def ty33e : TI := { kind := ty33.kind, size := 3, bytes := 24, zero := [.int .i64 0, .int .i64 0, .int .i64 0], leaf := some [.int .i64, .int .i64, .int .i64] }
@[simp] theorem ty33e_by : ty33e.bytes = 24 := rfl
theorem ty33e_ok : TIOk Try.prog 33 ty33e := TIOk.of ty33_i rfl rfl ty33_k (fun ks h => by injection h with h; exact h ▸ leaf33)
theorem leaf34 : LeafOk Try.prog 34 [.int .i64, .int .i64] := LeafOk.of (n := 9) TB_ok rfl (by decide) (by kernel_rfl) (by kernel_rfl)
def ty34e : TI := { kind := ty34.kind, size := 2, bytes := 16, zero := [.int .i64 0, .int .i64 0], leaf := some [.int .i64, .int .i64] }
@[simp] theorem ty34e_by : ty34e.bytes = 16 := rfl
theorem ty34e_ok : TIOk Try.prog 34 ty34e := TIOk.of ty34_i rfl rfl ty34_k (fun ks h => by injection h with h; exact h ▸ leaf34)
theorem leaf35 : LeafOk Try.prog 35 [.int .i64, .int .i64] := LeafOk.of (n := 9) TB_ok rfl (by decide) (by kernel_rfl) (by kernel_rfl)
def ty35e : TI := { kind := ty35.kind, size := 2, bytes := 16, zero := [.int .i64 0, .int .i64 0], leaf := some [.int .i64, .int .i64] }
@[simp] theorem ty35e_by : ty35e.bytes = 16 := rfl
theorem ty35e_ok : TIOk Try.prog 35 ty35e := TIOk.of ty35_i rfl rfl ty35_k (fun ks h => by injection h with h; exact h ▸ leaf35)
theorem leaf36 : LeafOk Try.prog 36 [.int .i64, .int .i64] := LeafOk.of (n := 9) TB_ok rfl (by decide) (by kernel_rfl) (by kernel_rfl)
def ty36e : TI := { kind := ty36.kind, size := 2, bytes := 16, zero := [.int .i64 0, .int .i64 0], leaf := some [.int .i64, .int .i64] }
@[simp] theorem ty36e_by : ty36e.bytes = 16 := rfl
theorem ty36e_ok : TIOk Try.prog 36 ty36e := TIOk.of ty36_i rfl rfl ty36_k (fun ks h => by injection h with h; exact h ▸ leaf36)
theorem leaf37 : LeafOk Try.prog 37 [.int .i64, .int .i64] := LeafOk.of (n := 9) TB_ok rfl (by decide) (by kernel_rfl) (by kernel_rfl)
def ty37e : TI := { kind := ty37.kind, size := 2, bytes := 16, zero := [.int .i64 0, .int .i64 0], leaf := some [.int .i64, .int .i64] }
@[simp] theorem ty37e_by : ty37e.bytes = 16 := rfl
theorem ty37e_ok : TIOk Try.prog 37 ty37e := TIOk.of ty37_i rfl rfl ty37_k (fun ks h => by injection h with h; exact h ▸ leaf37)
theorem leaf41 : LeafOk Try.prog 41 [.int .i64, .int .i64, .int .i64, .int .i64] := LeafOk.of (n := 9) TB_ok rfl (by decide) (by kernel_rfl) (by kernel_rfl)
def ty41e : TI := { kind := ty41.kind, size := 4, bytes := 32, zero := [.int .i64 0, .int .i64 0, .int .i64 0, .int .i64 0], leaf := some [.int .i64, .int .i64, .int .i64, .int .i64] }
@[simp] theorem ty41e_by : ty41e.bytes = 32 := rfl
theorem ty41e_ok : TIOk Try.prog 41 ty41e := TIOk.of ty41_i rfl rfl ty41_k (fun ks h => by injection h with h; exact h ▸ leaf41)
theorem leaf42 : LeafOk Try.prog 42 [.int .i64, .int .i64, .int .i64, .int .i64] := LeafOk.of (n := 9) TB_ok rfl (by decide) (by kernel_rfl) (by kernel_rfl)
def ty42e : TI := { kind := ty42.kind, size := 4, bytes := 32, zero := [.int .i64 0, .int .i64 0, .int .i64 0, .int .i64 0], leaf := some [.int .i64, .int .i64, .int .i64, .int .i64] }
@[simp] theorem ty42e_by : ty42e.bytes = 32 := rfl
theorem ty42e_ok : TIOk Try.prog 42 ty42e := TIOk.of ty42_i rfl rfl ty42_k (fun ks h => by injection h with h; exact h ▸ leaf42)
theorem leaf65 : LeafOk Try.prog 65 [.int .i64, .int .i64, .int .i64, .int .i64, .bool] := LeafOk.of (n := 9) TB_ok rfl (by decide) (by kernel_rfl) (by kernel_rfl)
def ty65e : TI := { kind := ty65.kind, size := 5, bytes := 40, zero := [.int .i64 0, .int .i64 0, .int .i64 0, .int .i64 0, .bool false], leaf := some [.int .i64, .int .i64, .int .i64, .int .i64, .bool] }
@[simp] theorem ty65e_by : ty65e.bytes = 40 := rfl
theorem ty65e_ok : TIOk Try.prog 65 ty65e := TIOk.of ty65_i rfl rfl ty65_k (fun ks h => by injection h with h; exact h ▸ leaf65)
theorem leaf66 : LeafOk Try.prog 66 [.int .i64, .int .i64, .int .i64, .int .i64, .bool] := LeafOk.of (n := 9) TB_ok rfl (by decide) (by kernel_rfl) (by kernel_rfl)
def ty66e : TI := { kind := ty66.kind, size := 5, bytes := 40, zero := [.int .i64 0, .int .i64 0, .int .i64 0, .int .i64 0, .bool false], leaf := some [.int .i64, .int .i64, .int .i64, .int .i64, .bool] }
@[simp] theorem ty66e_by : ty66e.bytes = 40 := rfl
theorem ty66e_ok : TIOk Try.prog 66 ty66e := TIOk.of ty66_i rfl rfl ty66_k (fun ks h => by injection h with h; exact h ▸ leaf66)
theorem leaf73 : LeafOk Try.prog 73 [.int .i64, .int .i64] := LeafOk.of (n := 9) TB_ok rfl (by decide) (by kernel_rfl) (by kernel_rfl)
def ty73e : TI := { kind := ty73.kind, size := 2, bytes := 16, zero := [.int .i64 0, .int .i64 0], leaf := some [.int .i64, .int .i64] }
@[simp] theorem ty73e_by : ty73e.bytes = 16 := rfl
theorem ty73e_ok : TIOk Try.prog 73 ty73e := TIOk.of ty73_i rfl rfl ty73_k (fun ks h => by injection h with h; exact h ▸ leaf73)
theorem leaf74 : LeafOk Try.prog 74 [.int .i64, .int .i64] := LeafOk.of (n := 9) TB_ok rfl (by decide) (by kernel_rfl) (by kernel_rfl)
def ty74e : TI := { kind := ty74.kind, size := 2, bytes := 16, zero := [.int .i64 0, .int .i64 0], leaf := some [.int .i64, .int .i64] }
@[simp] theorem ty74e_by : ty74e.bytes = 16 := rfl
theorem ty74e_ok : TIOk Try.prog 74 ty74e := TIOk.of ty74_i rfl rfl ty74_k (fun ks h => by injection h with h; exact h ▸ leaf74)
theorem leaf77 : LeafOk Try.prog 77 [.int .i64, .int .i64, .int .i64, .int .i64, .int .i64, .int .i64, .int .i64] := LeafOk.of (n := 9) TB_ok rfl (by decide) (by kernel_rfl) (by kernel_rfl)
def ty77e : TI := { kind := ty77.kind, size := 7, bytes := 56, zero := [.int .i64 0, .int .i64 0, .int .i64 0, .int .i64 0, .int .i64 0, .int .i64 0, .int .i64 0], leaf := some [.int .i64, .int .i64, .int .i64, .int .i64, .int .i64, .int .i64, .int .i64] }
@[simp] theorem ty77e_by : ty77e.bytes = 56 := rfl
theorem ty77e_ok : TIOk Try.prog 77 ty77e := TIOk.of ty77_i rfl rfl ty77_k (fun ks h => by injection h with h; exact h ▸ leaf77)
theorem leaf78 : LeafOk Try.prog 78 [.int .i64, .int .i64, .int .i64, .int .i64, .int .i64, .int .i64, .int .i64] := LeafOk.of (n := 9) TB_ok rfl (by decide) (by kernel_rfl) (by kernel_rfl)
def ty78e : TI := { kind := ty78.kind, size := 7, bytes := 56, zero := [.int .i64 0, .int .i64 0, .int .i64 0, .int .i64 0, .int .i64 0, .int .i64 0, .int .i64 0], leaf := some [.int .i64, .int .i64, .int .i64, .int .i64, .int .i64, .int .i64, .int .i64] }
@[simp] theorem ty78e_by : ty78e.bytes = 56 := rfl
theorem ty78e_ok : TIOk Try.prog 78 ty78e := TIOk.of ty78_i rfl rfl ty78_k (fun ks h => by injection h with h; exact h ▸ leaf78)
theorem leaf97 : LeafOk Try.prog 97 [.bool, .bool, .bool, .bool, .bool, .bool, .bool, .bool, .bool, .bool, .bool, .bool] := LeafOk.bools TB_ok ty97_k rfl rfl (by kernel_rfl) (by kernel_rfl)
def ty97e : TI := { kind := ty97.kind, size := 12, bytes := 12, zero := [.bool false, .bool false, .bool false, .bool false, .bool false, .bool false, .bool false, .bool false, .bool false, .bool false, .bool false, .bool false], leaf := some [.bool, .bool, .bool, .bool, .bool, .bool, .bool, .bool, .bool, .bool, .bool, .bool] }
@[simp] theorem ty97e_by : ty97e.bytes = 12 := rfl
theorem ty97e_ok : TIOk Try.prog 97 ty97e := TIOk.of ty97_i rfl rfl ty97_k (fun ks h => by injection h with h; exact h ▸ leaf97)
theorem leaf98 : LeafOk Try.prog 98 [.bool, .bool, .bool, .bool, .bool, .bool, .bool, .bool, .bool, .bool, .bool, .bool] := LeafOk.bools TB_ok ty98_k rfl rfl (by kernel_rfl) (by kernel_rfl)
def ty98e : TI := { kind := ty98.kind, size := 12, bytes := 12, zero := [.bool false, .bool false, .bool false, .bool false, .bool false, .bool false, .bool false, .bool false, .bool false, .bool false, .bool false, .bool false], leaf := some [.bool, .bool, .bool, .bool, .bool, .bool, .bool, .bool, .bool, .bool, .bool, .bool] }
@[simp] theorem ty98e_by : ty98e.bytes = 12 := rfl
theorem ty98e_ok : TIOk Try.prog 98 ty98e := TIOk.of ty98_i rfl rfl ty98_k (fun ks h => by injection h with h; exact h ▸ leaf98)
theorem leaf155 : LeafOk Try.prog 155 [.string, .int .i64, .int .i64, .int .i64, .int .i64] := LeafOk.of (n := 9) TB_ok rfl (by decide) (by kernel_rfl) (by kernel_rfl)
def ty155e : TI := { kind := ty155.kind, size := 5, bytes := 48, zero := [.string { data := #[] }, .int .i64 0, .int .i64 0, .int .i64 0, .int .i64 0], leaf := some [.string, .int .i64, .int .i64, .int .i64, .int .i64] }
@[simp] theorem ty155e_by : ty155e.bytes = 48 := rfl
theorem ty155e_ok : TIOk Try.prog 155 ty155e := TIOk.of ty155_i rfl rfl ty155_k (fun ks h => by injection h with h; exact h ▸ leaf155)
theorem leaf156 : LeafOk Try.prog 156 [.string, .int .i64, .int .i64, .int .i64, .int .i64] := LeafOk.of (n := 9) TB_ok rfl (by decide) (by kernel_rfl) (by kernel_rfl)
def ty156e : TI := { kind := ty156.kind, size := 5, bytes := 48, zero := [.string { data := #[] }, .int .i64 0, .int .i64 0, .int .i64 0, .int .i64 0], leaf := some [.string, .int .i64, .int .i64, .int .i64, .int .i64] }
@[simp] theorem ty156e_by : ty156e.bytes = 48 := rfl
theorem ty156e_ok : TIOk Try.prog 156 ty156e := TIOk.of ty156_i rfl rfl ty156_k (fun ks h => by injection h with h; exact h ▸ leaf156)
def TT : TE := [(2, ty2), (3, ty3), (4, ty4), (5, ty5), (9, ty9), (22, ty22), (23, ty23), (24, ty24), (25, ty25), (26, ty26), (27, ty27), (32, ty32e), (33, ty33e), (34, ty34e), (35, ty35e), (36, ty36e), (37, ty37e), (38, ty38), (41, ty41e), (42, ty42e), (44, ty44), (49, ty49), (50, ty50), (51, ty51), (52, ty52), (53, ty53), (54, ty54), (55, ty55), (56, ty56), (57, ty57), (65, ty65e), (66, ty66e), (69, ty69), (70, ty70), (71, ty71), (73, ty73e), (74, ty74e), (77, ty77e), (78, ty78e), (97, ty97e), (98, ty98e), (99, ty99), (108, ty108), (110, ty110), (111, ty111), (115, ty115), (118, ty118), (120, ty120), (121, ty121), (123, ty123), (125, ty125), (134, ty134), (135, ty135), (137, ty137), (138, ty138), (144, ty144), (145, ty145), (146, ty146), (147, ty147), (148, ty148), (150, ty150), (155, ty155e), (156, ty156e), (157, ty157), (159, ty159), (160, ty160)]
theorem TT_ok : TOk Try.prog TT := TOk.cons ty2_ok (TOk.cons ty3_ok (TOk.cons ty4_ok (TOk.cons ty5_ok (TOk.cons ty9_ok (TOk.cons ty22_ok (TOk.cons ty23_ok (TOk.cons ty24_ok (TOk.cons ty25_ok (TOk.cons ty26_ok (TOk.cons ty27_ok (TOk.cons ty32e_ok (TOk.cons ty33e_ok (TOk.cons ty34e_ok (TOk.cons ty35e_ok (TOk.cons ty36e_ok (TOk.cons ty37e_ok (TOk.cons ty38_ok (TOk.cons ty41e_ok (TOk.cons ty42e_ok (TOk.cons ty44_ok (TOk.cons ty49_ok (TOk.cons ty50_ok (TOk.cons ty51_ok (TOk.cons ty52_ok (TOk.cons ty53_ok (TOk.cons ty54_ok (TOk.cons ty55_ok (TOk.cons ty56_ok (TOk.cons ty57_ok (TOk.cons ty65e_ok (TOk.cons ty66e_ok (TOk.cons ty69_ok (TOk.cons ty70_ok (TOk.cons ty71_ok (TOk.cons ty73e_ok (TOk.cons ty74e_ok (TOk.cons ty77e_ok (TOk.cons ty78e_ok (TOk.cons ty97e_ok (TOk.cons ty98e_ok (TOk.cons ty99_ok (TOk.cons ty108_ok (TOk.cons ty110_ok (TOk.cons ty111_ok (TOk.cons ty115_ok (TOk.cons ty118_ok (TOk.cons ty120_ok (TOk.cons ty121_ok (TOk.cons ty123_ok (TOk.cons ty125_ok (TOk.cons ty134_ok (TOk.cons ty135_ok (TOk.cons ty137_ok (TOk.cons ty138_ok (TOk.cons ty144_ok (TOk.cons ty145_ok (TOk.cons ty146_ok (TOk.cons ty147_ok (TOk.cons ty148_ok (TOk.cons ty150_ok (TOk.cons ty155e_ok (TOk.cons ty156e_ok (TOk.cons ty157_ok (TOk.cons ty159_ok (TOk.cons ty160_ok (TOk.nil _))))))))))))))))))))))))))))))))))))))))))))))))))))))))))))))))))
end Go.Proofs.Ytbheoblmfjjaaaa
