/- Tables of units and amounts, and what package quantity computes: no program in sight. -/
import Derived.Test.YtoeghbhlklnajaaM1
namespace Go.Proofs.Ytoeghbhlklnajaa
open Go.Eng

structure U where
  name : ByteArray
  kind : Int
  base : Int
  fac : Q
/-- An amount: its unit, its value. -/
structure A where
  unit : Int
  val : Q
def uc (u : U) : List AV := [.c (.string u.name), .c (.int .i64 u.kind), .c (.int .i64 u.base), .c (.int .i64 u.fac.1), .c (.int .i64 u.fac.2)]
def ac (a : A) : List AV := [.c (.int .i64 a.unit), .c (.int .i64 a.val.1), .c (.int .i64 a.val.2)]
def qc (q : Q) : List AV := [.c (.int .i64 q.1), .c (.int .i64 q.2)]
def av (a : A) : AV := .agg [.c (.int .i64 a.unit), .c (.int .i64 a.val.1), .c (.int .i64 a.val.2)]
def tabV (n : Nat) (t : Nat → U) : AV := .rs 5 n (fun i => uc (t i))
def amtV (n : Nat) (l : Nat → A) : AV := .rs 3 n (fun i => ac (l i))
def ratV (n : Nat) (l : Nat → Q) : AV := .rs 2 n (fun i => qc (l i))
def uW (u : U) : Prop := inK .i64 u.kind ∧ inK .i64 u.base ∧ qW u.fac
def aW (a : A) : Prop := inK .i64 a.unit ∧ qW a.val

theorem bytes_beq {a b : ByteArray} : (a == b) = true ↔ a = b := by
  obtain ⟨x⟩ := a
  obtain ⟨y⟩ := b
  show ((x == y) = true) ↔ _
  simp
theorem bytes_bne {a b : ByteArray} : (a == b) = false ↔ a ≠ b := by rw [← Bool.not_eq_true, bytes_beq]
def emptyName : ByteArray := { data := #[] }
/-- The unit with index i is valid. -/
def uOk (t : Nat → U) (n i : Nat) : Prop :=
  (i < 20 ∧ (t i).name ≠ emptyName ∧ ∀ j, j < i → (t j).name ≠ (t i).name) ∧ (((t i).kind = 1 ∨ (t i).kind = 2) ∧ qOk (t i).fac = true ∧ 0 < (t i).fac.1) ∧
  ((0 ≤ (t i).base ∧ (t i).base < n) ∧ (t (t i).base.toNat).kind = (t i).kind ∧ (t (t i).base.toNat).base = (t i).base) ∧ ((t i).base ≠ i ∨ (t i).fac = (1, 1))
instance (t : Nat → U) (n i : Nat) : Decidable (uOk t n i) := by unfold uOk; infer_instance
def uOkB (t : Nat → U) (n i : Nat) : Bool := decide (uOk t n i)
theorem uOkB_iff {t : Nat → U} {n i : Nat} : uOkB t n i = true ↔ uOk t n i := by unfold uOkB; exact decide_eq_true_iff
theorem uOkB_false {t : Nat → U} {n i : Nat} : uOkB t n i = false ↔ ¬ uOk t n i := by rw [← uOkB_iff]; simp
end Go.Proofs.Ytoeghbhlklnajaa
