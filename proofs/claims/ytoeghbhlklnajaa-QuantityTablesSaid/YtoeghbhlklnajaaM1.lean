/- What the arithmetic of package ratio computes: no program in sight. -/
import Derived.Test.YtoeghbhlklnajaaEngR
namespace Go.Proofs.Ytoeghbhlklnajaa
open Go.Eng

abbrev Q := Int × Int
def qv (q : Q) : AV := .agg [.c (.int .i64 q.1), .c (.int .i64 q.2)]
def qr (r : Q × Int) : AV := .tup [qv r.1, .c (.int .i64 r.2)]
def qOk (q : Q) : Bool := decide (1 ≤ q.2 ∧ q.2 ≤ 1000000 ∧ -1000000000000 ≤ q.1 ∧ q.1 ≤ 1000000000000 ∧ Nat.gcd q.1.natAbs q.2.natAbs = 1)
theorem qOk_iff {q : Q} : qOk q = true ↔ 1 ≤ q.2 ∧ q.2 ≤ 1000000 ∧ -1000000000000 ≤ q.1 ∧ q.1 ≤ 1000000000000 ∧ Nat.gcd q.1.natAbs q.2.natAbs = 1 := by simp [qOk]
def fracR (neg : Bool) (num den : Nat) : Q × Int :=
  if 1000000000000 < num / Nat.gcd num den ∨ 1000000 < den / Nat.gcd num den then ((0, 0), 2)
  else ((if neg then -((num / Nat.gcd num den : Nat) : Int) else ((num / Nat.gcd num den : Nat) : Int), ((den / Nat.gcd num den : Nat) : Int)), 0)
def makeR (num den : Int) : Q × Int := if den = 0 then ((0, 0), 1) else fracR (decide (num < 0) != decide (den < 0)) num.natAbs den.natAbs
def addR (a b : Q) : Q × Int := if qOk a && qOk b then makeR (a.1 * b.2 + b.1 * a.2) (a.2 * b.2) else ((0, 0), 1)
def cmpR (a b : Q) : Int := if qOk a && qOk b then (if a.1 * b.2 < b.1 * a.2 then -1 else if b.1 * a.2 < a.1 * b.2 then 1 else 0) else 0
/-- A pair of two words. -/
def qW (q : Q) : Prop := inK .i64 q.1 ∧ inK .i64 q.2

theorem qOk_W {q : Q} (h : qOk q = true) : qW q := by
  obtain ⟨h1, h2, h3, h4, _⟩ := qOk_iff.1 h
  simp only [qW, inK]; omega
theorem prod_bound {a b : Int} {A B : Int} (h1 : -A ≤ a) (h2 : a ≤ A) (h3 : 0 ≤ b) (h4 : b ≤ B) (hA : 0 ≤ A) : -(A * B) ≤ a * b ∧ a * b ≤ A * B := by
  constructor
  · have e1 : -A * b ≤ a * b := Int.mul_le_mul_of_nonneg_right h1 h3
    have e2 : A * b ≤ A * B := Int.mul_le_mul_of_nonneg_left h4 hA
    have e3 : -A * b = -(A * b) := Int.neg_mul _ _
    omega
  · exact Int.le_trans (Int.mul_le_mul_of_nonneg_right h2 h3) (Int.mul_le_mul_of_nonneg_left h4 hA)
theorem q_prod {a b : Q} (ha : qOk a = true) (hb : qOk b = true) : (-1000000000000000000 ≤ a.1 * b.2 ∧ a.1 * b.2 ≤ 1000000000000000000) ∧ (1 ≤ a.2 * b.2 ∧ a.2 * b.2 ≤ 1000000000000) := by
  obtain ⟨h1, h2, h3, h4, _⟩ := qOk_iff.1 ha
  obtain ⟨g1, g2, g3, g4, _⟩ := qOk_iff.1 hb
  have e1 := prod_bound (A := 1000000000000) (B := 1000000) h3 h4 (by omega) g2 (by omega)
  have e2 := prod_bound (A := 1000000) (B := 1000000) (a := a.2) (b := b.2) (by omega) h2 (by omega) g2 (by omega)
  have e3 : 0 < a.2 * b.2 := Int.mul_pos (by omega) (by omega)
  omega
end Go.Proofs.Ytoeghbhlklnajaa
