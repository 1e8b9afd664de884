/- Ratios as rational numbers. -/
import Derived.Test.YtoeghbhlklnajaaM3
namespace Go.Proofs.Ytoeghbhlklnajaa
open Go.Eng

/-- The number that a pair stands for. -/
def rt (q : Q) : Rat := (q.1 : Rat) / (q.2 : Rat)
/-- A number as a reduced pair, if it is in range. -/
def toQ (x : Rat) : Q × Int := if 1000000000000 < x.num.natAbs ∨ 1000000 < x.den then ((0, 0), 2) else ((x.num, (x.den : Int)), 0)

theorem fracR_toQ (neg : Bool) (n d : Nat) (hd : 0 < d) : fracR neg n d = toQ (((if neg then -(n : Int) else (n : Int) : Int) : Rat) / (d : Rat)) := by
  rw [← Rat.mkRat_eq_div]
  have hd' : d ≠ 0 := by omega
  have hab : (if neg then -(n : Int) else (n : Int)).natAbs = n := by cases neg <;> simp
  unfold toQ fracR
  rw [Rat.num_mkRat, Rat.den_mkRat, if_neg hd', if_neg hd', hab, Nat.gcd_comm d n]
  have hg : 0 < Nat.gcd n d := Nat.gcd_pos_of_pos_right n hd
  obtain ⟨k, hk⟩ := Nat.gcd_dvd_left n d
  have h1 : n / Nat.gcd n d = k := by
    have := Nat.mul_div_cancel_left k hg
    rw [← hk] at this; exact this
  have h2 : (if neg then -(n : Int) else (n : Int)) / (Nat.gcd n d : Int) = if neg then -(k : Int) else (k : Int) := by
    generalize Nat.gcd n d = g at *
    subst hk
    have hg' : (g : Int) ≠ 0 := by omega
    cases neg
    · simp only [Bool.false_eq_true, if_false, Int.natCast_mul]
      exact Int.mul_ediv_cancel_left _ hg'
    · simp only [if_true, Int.natCast_mul, ← Int.mul_neg]
      exact Int.mul_ediv_cancel_left _ hg'
  rw [h2, h1]
  have h3 : (if neg then -(k : Int) else (k : Int)).natAbs = k := by cases neg <;> simp
  rw [h3]
theorem rt_num {q : Q} (h : qOk q = true) : (rt q).num = q.1 ∧ ((rt q).den : Int) = q.2 := by
  obtain ⟨a, b⟩ := q
  obtain ⟨h1, h2, h3, h4, h5⟩ := qOk_iff.1 h
  simp only at h1 h2 h3 h4 h5
  obtain ⟨d, rfl⟩ : ∃ d : Nat, b = d := ⟨b.toNat, by omega⟩
  have hd : d ≠ 0 := by omega
  have : rt (a, (d : Int)) = mkRat a d := by
    unfold rt
    rw [Rat.mkRat_eq_div, Rat.intCast_natCast]
  rw [this, Rat.num_mkRat, Rat.den_mkRat, if_neg hd, if_neg hd]
  simp only [Int.natAbs_natCast] at h5
  rw [Nat.gcd_comm d, h5]
  simp
theorem toQ_rt {q : Q} (h : qOk q = true) : toQ (rt q) = (q, 0) := by
  obtain ⟨e1, e2⟩ := rt_num h
  obtain ⟨h1, h2, h3, h4, h5⟩ := qOk_iff.1 h
  unfold toQ
  rw [e1, e2, if_neg (by omega)]
theorem toQ_ok {x : Rat} (h : (toQ x).2 = 0) : qOk (toQ x).1 = true ∧ rt (toQ x).1 = x := by
  unfold toQ at h ⊢
  split at h
  · simp at h
  · rename_i hc
    rw [if_neg hc]
    have hp := x.den_pos
    refine ⟨qOk_iff.2 ⟨by simp only; omega, by simp only; omega, by simp only; omega, by simp only; omega, ?_⟩, ?_⟩
    · have := x.reduced
      simpa [Nat.Coprime] using this
    · unfold rt
      simp only [Rat.intCast_natCast]
      rw [← Rat.mkRat_eq_div, Rat.mkRat_self]
theorem toQ_err {x : Rat} (h : (toQ x).2 ≠ 0) : toQ x = ((0, 0), 2) := by
  unfold toQ at h ⊢
  split at h
  · rename_i hc; rw [if_pos hc]
  · simp at h
theorem rt_inj {a b : Q} (ha : qOk a = true) (hb : qOk b = true) (h : rt a = rt b) : a = b := by
  have h1 := toQ_rt ha
  rw [h, toQ_rt hb] at h1
  exact (congrArg Prod.fst h1).symm
theorem q2_ne {q : Q} (h : qOk q = true) : ((q.2 : Int) : Rat) ≠ 0 := by
  have := (qOk_iff.1 h).1
  simp
  omega
theorem makeR_toQ {a b : Int} (hb : 0 < b) : makeR a b = toQ ((a : Rat) / (b : Rat)) := by
  unfold makeR
  rw [if_neg (by omega), fracR_toQ _ _ _ (by omega)]
  have e1 : decide (b < 0) = false := by simp; omega
  rw [e1, Bool.bne_false]
  have e2 : (if decide (a < 0) = true then -(a.natAbs : Int) else (a.natAbs : Int)) = a := by
    by_cases h : a < 0
    · simp [h]; omega
    · simp [h]; omega
  have e3 : ((b.natAbs : Nat) : Rat) = (b : Rat) := by
    rw [← Rat.intCast_natCast]
    congr 1
    omega
  rw [e2, e3]
theorem addR_toQ {a b : Q} (ha : qOk a = true) (hb : qOk b = true) : addR a b = toQ (rt a + rt b) := by
  unfold addR
  rw [ha, hb]
  have h1 := (qOk_iff.1 ha).1
  have h2 := (qOk_iff.1 hb).1
  rw [Bool.and_self, if_pos rfl, makeR_toQ (by have := q_prod ha hb; omega)]
  congr 1
  unfold rt
  have g1 := q2_ne ha
  have g2 := q2_ne hb
  simp only [Rat.intCast_add, Rat.intCast_mul]
  grind
theorem valR_toQ {v f d : Q} (hv : qOk v = true) (hf : fOk f) (hd : fOk d) : valR v f d = toQ (rt v * rt f / rt d) := by
  unfold valR
  rw [fracR_toQ _ _ _ (valD_pos hv hf hd)]
  congr 1
  have g1 := q2_ne hv
  have g2 := q2_ne hf.1
  have g3 := q2_ne hd.1
  have b1 := (qOk_iff.1 hv).1
  have b2 := (qOk_iff.1 hf.1).1
  have b3 := (qOk_iff.1 hd.1).1
  have f1 := hf.2
  have d1 := hd.2
  have g4 : ((d.1 : Int) : Rat) ≠ 0 := by simp; omega
  have e1 : (if decide (v.1 < 0) = true then -(valN v f d : Int) else (valN v f d : Int)) = v.1 * f.1 * d.2 := by
    unfold valN
    have h1 : ((f.1.toNat : Nat) : Int) = f.1 := by omega
    have h2 : ((d.2.toNat : Nat) : Int) = d.2 := by omega
    by_cases h : v.1 < 0
    · have h3 : ((v.1.natAbs : Nat) : Int) = -v.1 := by omega
      simp only [h, decide_true, if_true, Int.natCast_mul, h1, h2, h3, Int.neg_mul, Int.neg_neg]
    · have h3 : ((v.1.natAbs : Nat) : Int) = v.1 := by omega
      simp only [h, decide_false, Bool.false_eq_true, if_false, Int.natCast_mul, h1, h2, h3]
  have e2 : ((valD v f d : Nat) : Rat) = ((v.2 * f.2 * d.1 : Int) : Rat) := by
    rw [← Rat.intCast_natCast]
    congr 1
    unfold valD
    have h1 : ((v.2.toNat : Nat) : Int) = v.2 := by omega
    have h2 : ((f.2.toNat : Nat) : Int) = f.2 := by omega
    have h3 : ((d.1.toNat : Nat) : Int) = d.1 := by omega
    simp only [Int.natCast_mul, h1, h2, h3]
  rw [e1, e2]
  unfold rt
  simp only [Rat.intCast_mul]
  grind
theorem rt_ne {f : Q} (hf : fOk f) : rt f ≠ 0 := by
  intro h
  have := (rt_num hf.1).1
  rw [h] at this
  have h2 := hf.2
  simp at this
  omega
end Go.Proofs.Ytoeghbhlklnajaa
