import Derived.Test.YtiiegpjpckkohaaP6
section
/- Ratios as rational numbers. -/
namespace Go.Proofs.Ytiiegpjpckkohaa
open Go.Eng
/-- The number that a pair stands for. -/
def rt (q : Q) : Rat := (q.1 : Rat) / (q.2 : Rat)
/-- A number as a reduced pair, if it is in range. -/
def toQ (x : Rat) : Q × Int := if 1000000000000 < x.num.natAbs ∨ 1000000 < x.den then ((0, 0), 2) else ((x.num, (x.den : Int)), 0)
theorem fracR_toQ (neg : Bool) (n d : Nat) (hd : 0 < d) : fracR neg n d = toQ (((if neg then -(n : Int) else (n : Int) : Int) : Rat) / (d : Rat)) := by
  rw [← Rat.mkRat_eq_div]
  have hd' : d ≠ 0 := by omega
  have hab : (if neg then -(n : Int) else (n : Int)).natAbs = n := by cases neg <;> simp
  unfold toQ fracR
  rw [Rat.num_mkRat, Rat.den_mkRat, if_neg hd', if_neg hd', hab, Nat.gcd_comm d n]
  have hg : 0 < Nat.gcd n d := Nat.gcd_pos_of_pos_right n hd
  obtain ⟨k, hk⟩ := Nat.gcd_dvd_left n d
  have h1 : n / Nat.gcd n d = k := by
    have := Nat.mul_div_cancel_left k hg
    rw [← hk] at this; exact this
  have h2 : (if neg then -(n : Int) else (n : Int)) / (Nat.gcd n d : Int) = if neg then -(k : Int) else (k : Int) := by
    generalize Nat.gcd n d = g at *
    subst hk
    have hg' : (g : Int) ≠ 0 := by omega
    cases neg
    · simp only [Bool.false_eq_true, if_false, Int.natCast_mul]
      exact Int.mul_ediv_cancel_left _ hg'
    · simp only [if_true, Int.natCast_mul, ← Int.mul_neg]
      exact Int.mul_ediv_cancel_left _ hg'
  rw [h2, h1]
  have h3 : (if neg then -(k : Int) else (k : Int)).natAbs = k := by cases neg <;> simp
  rw [h3]
theorem rt_num {q : Q} (h : qOk q = true) : (rt q).num = q.1 ∧ ((rt q).den : Int) = q.2 := by
  obtain ⟨a, b⟩ := q
  obtain ⟨h1, h2, h3, h4, h5⟩ := qOk_iff.1 h
  simp only at h1 h2 h3 h4 h5
  obtain ⟨d, rfl⟩ : ∃ d : Nat, b = d := ⟨b.toNat, by omega⟩
  have hd : d ≠ 0 := by omega
  have : rt (a, (d : Int)) = mkRat a d := by
    unfold rt
    rw [Rat.mkRat_eq_div, Rat.intCast_natCast]
  rw [this, Rat.num_mkRat, Rat.den_mkRat, if_neg hd, if_neg hd]
  simp only [Int.natAbs_natCast] at h5
  rw [Nat.gcd_comm d, h5]
  simp
theorem toQ_rt {q : Q} (h : qOk q = true) : toQ (rt q) = (q, 0) := by
  obtain ⟨e1, e2⟩ := rt_num h
  obtain ⟨h1, h2, h3, h4, h5⟩ := qOk_iff.1 h
  unfold toQ
  rw [e1, e2, if_neg (by omega)]
theorem toQ_ok {x : Rat} (h : (toQ x).2 = 0) : qOk (toQ x).1 = true ∧ rt (toQ x).1 = x := by
  unfold toQ at h ⊢
  split at h
  · simp at h
  · rename_i hc
    rw [if_neg hc]
    have hp := x.den_pos
    refine ⟨qOk_iff.2 ⟨by simp only; omega, by simp only; omega, by simp only; omega, by simp only; omega, ?_⟩, ?_⟩
    · have := x.reduced
      simpa [Nat.Coprime] using this
    · unfold rt
      simp only [Rat.intCast_natCast]
      rw [← Rat.mkRat_eq_div, Rat.mkRat_self]
theorem toQ_err {x : Rat} (h : (toQ x).2 ≠ 0) : toQ x = ((0, 0), 2) := by
  unfold toQ at h ⊢
  split at h
  · rename_i hc; rw [if_pos hc]
  · simp at h
theorem rt_inj {a b : Q} (ha : qOk a = true) (hb : qOk b = true) (h : rt a = rt b) : a = b := by
  have h1 := toQ_rt ha
  rw [h, toQ_rt hb] at h1
  exact (congrArg Prod.fst h1).symm
theorem q2_ne {q : Q} (h : qOk q = true) : ((q.2 : Int) : Rat) ≠ 0 := by
  have := (qOk_iff.1 h).1
  simp
  omega
theorem makeR_toQ {a b : Int} (hb : 0 < b) : makeR a b = toQ ((a : Rat) / (b : Rat)) := by
  unfold makeR
  rw [if_neg (by omega), fracR_toQ _ _ _ (by omega)]
  have e1 : decide (b < 0) = false := by simp; omega
  rw [e1, Bool.bne_false]
  have e2 : (if decide (a < 0) = true then -(a.natAbs : Int) else (a.natAbs : Int)) = a := by
    by_cases h : a < 0
    · simp [h]; omega
    · simp [h]; omega
  have e3 : ((b.natAbs : Nat) : Rat) = (b : Rat) := by
    rw [← Rat.intCast_natCast]
    congr 1
    omega
  rw [e2, e3]
theorem addR_toQ {a b : Q} (ha : qOk a = true) (hb : qOk b = true) : addR a b = toQ (rt a + rt b) := by
  unfold addR
  rw [ha, hb]
  have h1 := (qOk_iff.1 ha).1
  have h2 := (qOk_iff.1 hb).1
  rw [Bool.and_self, if_pos rfl, makeR_toQ (by have := q_prod ha hb; omega)]
  congr 1
  unfold rt
  have g1 := q2_ne ha
  have g2 := q2_ne hb
  simp only [Rat.intCast_add, Rat.intCast_mul]
  grind
theorem valR_toQ {v f d : Q} (hv : qOk v = true) (hf : fOk f) (hd : fOk d) : valR v f d = toQ (rt v * rt f / rt d) := by
  unfold valR
  rw [fracR_toQ _ _ _ (valD_pos hv hf hd)]
  congr 1
  have g1 := q2_ne hv
  have g2 := q2_ne hf.1
  have g3 := q2_ne hd.1
  have b1 := (qOk_iff.1 hv).1
  have b2 := (qOk_iff.1 hf.1).1
  have b3 := (qOk_iff.1 hd.1).1
  have f1 := hf.2
  have d1 := hd.2
  have g4 : ((d.1 : Int) : Rat) ≠ 0 := by simp; omega
  have e1 : (if decide (v.1 < 0) = true then -(valN v f d : Int) else (valN v f d : Int)) = v.1 * f.1 * d.2 := by
    unfold valN
    have h1 : ((f.1.toNat : Nat) : Int) = f.1 := by omega
    have h2 : ((d.2.toNat : Nat) : Int) = d.2 := by omega
    by_cases h : v.1 < 0
    · have h3 : ((v.1.natAbs : Nat) : Int) = -v.1 := by omega
      simp only [h, decide_true, if_true, Int.natCast_mul, h1, h2, h3, Int.neg_mul, Int.neg_neg]
    · have h3 : ((v.1.natAbs : Nat) : Int) = v.1 := by omega
      simp only [h, decide_false, Bool.false_eq_true, if_false, Int.natCast_mul, h1, h2, h3]
  have e2 : ((valD v f d : Nat) : Rat) = ((v.2 * f.2 * d.1 : Int) : Rat) := by
    rw [← Rat.intCast_natCast]
    congr 1
    unfold valD
    have h1 : ((v.2.toNat : Nat) : Int) = v.2 := by omega
    have h2 : ((f.2.toNat : Nat) : Int) = f.2 := by omega
    have h3 : ((d.1.toNat : Nat) : Int) = d.1 := by omega
    simp only [Int.natCast_mul, h1, h2, h3]
  rw [e1, e2]
  unfold rt
  simp only [Rat.intCast_mul]
  grind
theorem rt_ne {f : Q} (hf : fOk f) : rt f ≠ 0 := by
  intro h
  have := (rt_num hf.1).1
  rw [h] at this
  have h2 := hf.2
  simp at this
  omega
end Go.Proofs.Ytiiegpjpckkohaa
end
section
/- Contracts: package quantity, Sum, Basket, Covers. -/
namespace Go.Proofs.Ytiiegpjpckkohaa
open Go.Eng
set_option maxRecDepth 10000
set_option linter.unusedSimpArgs false
set_option linter.unusedVariables false
noncomputable def sumR (t : Nat → U) (n : Nat) (l : Nat → A) (m : Nat) (to : Int) : A × Int :=
  if acceptsR t n l m && (decide (0 ≤ to) && decide (to < n)) then
    if (List.range m).all (fun i => (t (l i).unit.toNat).base == (t to.toNat).base) then
      if (sumsTo t l (fun _ => to) m).2 ≠ 0 then (zA, (sumsTo t l (fun _ => to) m).2) else (⟨to, (sumsTo t l (fun _ => to) m).1 to.toNat⟩, 0)
    else (zA, 11)
  else (zA, 1)
noncomputable def basketR (t : Nat → U) (n : Nat) (l : Nat → A) (m : Nat) : (Nat → Q) × Int :=
  if acceptsR t n l m then sumsTo t l (fun a => (t a.unit.toNat).base) m else (fun _ => (0, 1), 1)
def coversR (a : Nat → Q) (na : Nat) (b : Nat → Q) (nb : Nat) : Bool := na == nb && (List.range na).all (fun i => qOk (a i) && qOk (b i) && decide (0 ≤ cmpR (a i) (b i)))
end Go.Proofs.Ytiiegpjpckkohaa
end
section
/- What converting computes, in rational numbers. -/
namespace Go.Proofs.Ytiiegpjpckkohaa
open Go.Eng
theorem acceptsOne {t : Nat → U} {n : Nat} {a : A} : acceptsR t n (fun _ => a) 1 = ((validR t n).2 && aOk n a) := by simp [acceptsR]
theorem aOk_and {n : Nat} {a : A} : aOk n a = true ↔ (0 ≤ a.unit ∧ a.unit < n) ∧ qOk a.val = true := by simp [aOk]
/-- Nothing stands in the way of the conversion but the range. -/
def convPre (t : Nat → U) (n : Nat) (a : A) (to : Int) : Prop :=
  (validR t n).2 = true ∧ ((0 ≤ a.unit ∧ a.unit < n) ∧ qOk a.val = true) ∧ (0 ≤ to ∧ to < n) ∧ (t a.unit.toNat).base = (t to.toNat).base
theorem convPre.fac {t : Nat → U} {n : Nat} {a : A} {to : Int} (h : convPre t n a to) : fOk (t a.unit.toNat).fac ∧ fOk (t to.toNat).fac := by
  obtain ⟨h1, ⟨h2, _⟩, h4, _⟩ := h
  exact ⟨(validR_ok h1 _ (toNat_lt h2)).fac, (validR_ok h1 _ (toNat_lt h4)).fac⟩
theorem convPre.q {t : Nat → U} {n : Nat} {a : A} {to : Int} (h : convPre t n a to) : qOk a.val = true := h.2.1.2
/-- The value that the conversion has. -/
def convX (t : Nat → U) (a : A) (to : Int) : Rat := rt a.val * rt (t a.unit.toNat).fac / rt (t to.toNat).fac
theorem convR_pre {t : Nat → U} {n : Nat} {a : A} {to : Int} (h : convPre t n a to) : convR t n a to = if (toQ (convX t a to)).2 ≠ 0 then (zA, (toQ (convX t a to)).2) else (⟨to, (toQ (convX t a to)).1⟩, 0) := by
  obtain ⟨f1, f2⟩ := h.fac
  have hq := h.q
  obtain ⟨h1, h2, h4, h5⟩ := h
  have hacc : (acceptsR t n (fun _ => a) 1 && (decide (0 ≤ to) && decide (to < n))) = true := by
    rw [acceptsOne, h1, aOk_and.2 h2]; simp [h4]
  unfold convR
  rw [if_pos hacc, if_neg (by simpa using h5), valR_toQ hq f1 f2]
  rfl
theorem convR_ok {t : Nat → U} {n : Nat} {a : A} {to : Int} (h : (convR t n a to).2 = 0) : convPre t n a to ∧ (convR t n a to).1.unit = to ∧ qOk (convR t n a to).1.val = true ∧ rt (convR t n a to).1.val = convX t a to := by
  have hp : convPre t n a to := by
    unfold convR at h
    split at h
    · rename_i hc
      rw [acceptsOne] at hc
      simp only [Bool.and_eq_true, decide_eq_true_eq] at hc
      split at h
      · simp at h
      · rename_i hb
        exact ⟨hc.1.1, aOk_and.1 hc.1.2, hc.2, by simpa using hb⟩
    · simp at h
  refine ⟨hp, ?_⟩
  rw [convR_pre hp] at h ⊢
  split at h
  · rename_i h1; exact absurd h h1
  · rename_i h1
    rw [if_neg h1]
    have h1 : (toQ (convX t a to)).2 = 0 := by simpa using h1
    exact ⟨rfl, toQ_ok h1⟩
theorem convR_err {t : Nat → U} {n : Nat} {a : A} {to : Int} (h : (convR t n a to).2 ≠ 0) : (convR t n a to).1 = zA := by
  unfold convR at h ⊢
  split
  · split
    · rfl
    · split
      · rfl
      · rename_i h1 h2 h3
        rw [if_pos h1, if_neg h2, if_neg h3] at h
        simp at h
  · rfl
/-- A conversion whose value is a given pair. -/
theorem convR_val {t : Nat → U} {n : Nat} {a : A} {to : Int} (h : convPre t n a to) {q : Q} (hq : qOk q = true) (hx : convX t a to = rt q) : convR t n a to = (⟨to, q⟩, 0) := by
  rw [convR_pre h, hx, toQ_rt hq]
  simp
theorem A.eta {a : A} : (⟨a.unit, a.val⟩ : A) = a := rfl
/-- There and back. -/
theorem convR_back {t : Nat → U} {n : Nat} {a : A} {to : Int} (h : (convR t n a to).2 = 0) : convR t n (convR t n a to).1 a.unit = (a, 0) := by
  obtain ⟨hp, h1, h2, h3⟩ := convR_ok h
  obtain ⟨f1, f2⟩ := hp.fac
  generalize (convR t n a to).1 = b at h1 h2 h3 ⊢
  subst h1
  refine convR_val (a := b) (to := a.unit) (q := a.val) ⟨hp.1, ⟨hp.2.2.1, h2⟩, hp.2.1.1, hp.2.2.2.symm⟩ hp.q ?_
  unfold convX at h3 ⊢
  rw [h3]
  have g1 := rt_ne f1
  have g2 := rt_ne f2
  grind
/-- By way of another unit. -/
theorem convR_way {t : Nat → U} {n : Nat} {a : A} {by_ to : Int} (h : (convR t n a by_).2 = 0) (h' : (convR t n (convR t n a by_).1 to).2 = 0) : convR t n a to = ((convR t n (convR t n a by_).1 to).1, 0) := by
  obtain ⟨hp, h1, h2, h3⟩ := convR_ok h
  obtain ⟨hp', h1', h2', h3'⟩ := convR_ok h'
  obtain ⟨f1, f2⟩ := hp.fac
  obtain ⟨f1', f2'⟩ := hp'.fac
  generalize (convR t n (convR t n a by_).1 to).1 = c at h1' h2' h3' ⊢
  generalize (convR t n a by_).1 = b at *
  subst h1 h1'
  refine convR_val (a := a) (to := c.unit) (q := c.val) ⟨hp.1, hp.2.1, hp'.2.2.1, hp.2.2.2.trans hp'.2.2.2⟩ h2' ?_
  unfold convX at h3 h3' ⊢
  rw [h3', h3]
  have g1 := rt_ne f1
  have g2 := rt_ne f2
  have g3 := rt_ne f2'
  grind
theorem addR_ok {a b : Q} (h : (addR a b).2 = 0) : (qOk a = true ∧ qOk b = true) ∧ qOk (addR a b).1 = true ∧ rt (addR a b).1 = rt a + rt b := by
  have hq : qOk a = true ∧ qOk b = true := by
    unfold addR at h
    cases ha : qOk a <;> cases hb : qOk b <;> simp_all
  rw [addR_toQ hq.1 hq.2] at h ⊢
  exact ⟨hq, toQ_ok h⟩
theorem addR_val {a b q : Q} (ha : qOk a = true) (hb : qOk b = true) (hq : qOk q = true) (h : rt a + rt b = rt q) : addR a b = (q, 0) := by
  rw [addR_toQ ha hb, h, toQ_rt hq]
/-- Of a sum, the sum. -/
theorem convR_linear {t : Nat → U} {n : Nat} {a b : Q} {from_ to : Int} (h : (addR a b).2 = 0) (h1 : (convR t n ⟨from_, a⟩ to).2 = 0) (h2 : (convR t n ⟨from_, b⟩ to).2 = 0) (h3 : (convR t n ⟨from_, (addR a b).1⟩ to).2 = 0) :
    addR (convR t n ⟨from_, a⟩ to).1.val (convR t n ⟨from_, b⟩ to).1.val = ((convR t n ⟨from_, (addR a b).1⟩ to).1.val, 0) := by
  obtain ⟨_, _, hs⟩ := addR_ok h
  obtain ⟨p1, _, q1, x1⟩ := convR_ok h1
  obtain ⟨p2, _, q2, x2⟩ := convR_ok h2
  obtain ⟨p3, _, q3, x3⟩ := convR_ok h3
  refine addR_val q1 q2 q3 ?_
  rw [x1, x2, x3]
  unfold convX
  rw [hs]
  have g2 := rt_ne p1.fac.2
  grind
end Go.Proofs.Ytiiegpjpckkohaa
end
section
/- Baskets that cover baskets. -/
namespace Go.Proofs.Ytiiegpjpckkohaa
open Go.Eng
theorem catF_one {i : Nat} {f g h : Nat → List AV} (h0 : h 0 = g i) (hf : ∀ j, j < i → f j = g j) : ∀ j, j < i + 1 → catF i f h j = g j := by
  intro j hj
  unfold catF
  by_cases h1 : j < i
  · have : Nat.blt j i = true := by simpa using h1
    rw [this, cond_true]
    exact hf j h1
  · have : Nat.blt j i = false := by
      cases hb : Nat.blt j i with
      | false => rfl
      | true => simp at hb; exact absurd hb h1
    have e : j = i := by omega
    rw [this, cond_false, e, Nat.sub_self, h0]
theorem rt_le {a b : Q} (ha : qOk a = true) (hb : qOk b = true) : rt b ≤ rt a ↔ b.1 * a.2 ≤ a.1 * b.2 := by
  have g1 := q2_ne ha
  have g2 := q2_ne hb
  have p1 : (0 : Rat) < ((a.2 : Int) : Rat) := Rat.intCast_pos.2 (qOk_iff.1 ha).1
  have p2 : (0 : Rat) < ((b.2 : Int) : Rat) := Rat.intCast_pos.2 (qOk_iff.1 hb).1
  have e1 : rt a * ((a.2 : Int) : Rat) = ((a.1 : Int) : Rat) := by unfold rt; grind
  have e2 : rt b * ((b.2 : Int) : Rat) = ((b.1 : Int) : Rat) := by unfold rt; grind
  have p3 := Rat.mul_pos p1 p2
  rw [← Rat.intCast_le_intCast, Rat.intCast_mul, Rat.intCast_mul, ← e1, ← e2]
  generalize rt a = x at *
  generalize rt b = y at *
  generalize ((a.2 : Int) : Rat) = u at *
  generalize ((b.2 : Int) : Rat) = v at *
  constructor
  · intro h
    have h : 0 ≤ x - y := by grind
    have := Rat.mul_nonneg h (Rat.le_of_lt p3)
    grind
  · intro h
    by_cases hlt : x < y
    · have h0 : 0 < y - x := by grind
      have := Rat.mul_pos h0 p3
      grind
    · grind
theorem cmpR_le {a b : Q} (ha : qOk a = true) (hb : qOk b = true) : 0 ≤ cmpR a b ↔ rt b ≤ rt a := by
  rw [rt_le ha hb]
  unfold cmpR
  rw [ha, hb, Bool.and_self, if_pos rfl]
  split
  · rename_i h; omega
  · split
    · rename_i h1 h2; omega
    · rename_i h1 h2; omega
def Cov (a b : Nat → Q) (n : Nat) : Prop := ∀ i, i < n → qOk (a i) = true ∧ qOk (b i) = true ∧ rt (b i) ≤ rt (a i)
theorem coversR_iff {a b : Nat → Q} {na nb : Nat} : coversR a na b nb = true ↔ na = nb ∧ Cov a b na := by
  unfold coversR Cov
  simp only [Bool.and_eq_true, beq_iff_eq, List.all_eq_true, List.mem_range, decide_eq_true_eq]
  constructor
  · rintro ⟨h1, h2⟩
    refine ⟨h1, fun i hi => ?_⟩
    obtain ⟨⟨h3, h4⟩, h5⟩ := h2 i hi
    exact ⟨h3, h4, (cmpR_le h3 h4).1 h5⟩
  · rintro ⟨h1, h2⟩
    refine ⟨h1, fun i hi => ?_⟩
    obtain ⟨h3, h4, h5⟩ := h2 i hi
    exact ⟨⟨h3, h4⟩, (cmpR_le h3 h4).2 h5⟩
theorem coversR_trans {a b c : Nat → Q} {na nb nc : Nat} (h1 : coversR a na b nb = true) (h2 : coversR b nb c nc = true) : coversR a na c nc = true := by
  obtain ⟨e1, c1⟩ := coversR_iff.1 h1
  obtain ⟨e2, c2⟩ := coversR_iff.1 h2
  subst e1 e2
  refine coversR_iff.2 ⟨rfl, fun i hi => ⟨(c1 i hi).1, (c2 i hi).2.1, ?_⟩⟩
  have := (c1 i hi).2.2
  have := (c2 i hi).2.2
  grind
theorem coversR_anti {a b : Nat → Q} {na nb : Nat} (h1 : coversR a na b nb = true) (h2 : coversR b nb a na = true) : (na == nb && (List.range na).all (fun i => a i == b i)) = true := by
  obtain ⟨e1, c1⟩ := coversR_iff.1 h1
  obtain ⟨_, c2⟩ := coversR_iff.1 h2
  subst e1
  simp only [beq_self_eq_true, Bool.true_and, List.all_eq_true, List.mem_range, beq_iff_eq]
  intro i hi
  refine rt_inj (c1 i hi).1 (c1 i hi).2.1 ?_
  have := (c1 i hi).2.2
  have := (c2 i hi).2.2
  grind
/-- Adding the same to both sides. -/
theorem coversR_add {a b d : Nat → Q} {n : Nat} (hs : ∀ i, i < n → (addR (a i) (d i)).2 = 0 ∧ (addR (b i) (d i)).2 = 0) : coversR (fun i => (addR (a i) (d i)).1) n (fun i => (addR (b i) (d i)).1) n = coversR a n b n := by
  rw [Bool.eq_iff_iff, coversR_iff, coversR_iff]
  simp only [true_and]
  constructor
  · intro h i hi
    obtain ⟨⟨q1, _⟩, _, x1⟩ := addR_ok (hs i hi).1
    obtain ⟨⟨q2, _⟩, _, x2⟩ := addR_ok (hs i hi).2
    refine ⟨q1, q2, ?_⟩
    have h3 := (h i hi).2.2
    simp only [x1, x2] at h3
    grind
  · intro h i hi
    obtain ⟨_, y1, x1⟩ := addR_ok (hs i hi).1
    obtain ⟨_, y2, x2⟩ := addR_ok (hs i hi).2
    refine ⟨y1, y2, ?_⟩
    have h3 := (h i hi).2.2
    simp only [x1, x2]
    grind
end Go.Proofs.Ytiiegpjpckkohaa
end
section
/- Sums and baskets, in rational numbers. -/
namespace Go.Proofs.Ytiiegpjpckkohaa
open Go.Eng
/-- The sum of the first n numbers of a row. -/
def S (g : Nat → Rat) : Nat → Rat
  | 0 => 0
  | n + 1 => S g n + g n
theorem S_congr {g h : Nat → Rat} : ∀ {n : Nat}, (∀ i, i < n → g i = h i) → S g n = S h n
  | 0, _ => rfl
  | n + 1, hh => by
    simp only [S]
    rw [S_congr (fun i hi => hh i (by omega)), hh n (by omega)]
theorem S_cat (g : Nat → Rat) (n : Nat) : ∀ m, S g (n + m) = S g n + S (fun j => g (n + j)) m
  | 0 => by
    show S g n = S g n + 0
    grind
  | m + 1 => by
    show S g (n + m) + g (n + m) = S g n + (S (fun j => g (n + j)) m + g (n + m))
    rw [S_cat g n m]
    grind
theorem S_head (g : Nat → Rat) (n : Nat) : S g (n + 1) = g 0 + S (fun j => g (j + 1)) n := by
  rw [Nat.add_comm n 1, S_cat g 1 n]
  have : S g 1 = g 0 := by
    show (0 : Rat) + g 0 = g 0
    grind
  rw [this]
  congr 1
  exact S_congr fun i _ => by rw [Nat.add_comm]
theorem S_rev : ∀ (n : Nat) (g : Nat → Rat), S (fun j => g (n - 1 - j)) n = S g n
  | 0, _ => rfl
  | n + 1, g => by
    rw [S_head g n]
    show S (fun j => g (n + 1 - 1 - j)) n + g (n + 1 - 1 - n) = _
    have h1 : S (fun j => g (n + 1 - 1 - j)) n = S (fun j => g (j + 1)) n := by
      rw [← S_rev n (fun j => g (j + 1))]
      refine S_congr fun i hi => ?_
      show g _ = g _
      congr 1
      omega
    rw [h1]
    have h2 : n + 1 - 1 - n = 0 := by omega
    rw [h2]
    grind
theorem S_zero {g : Nat → Rat} {n : Nat} (h : ∀ i, i < n → g i = 0) : S g n = 0 := by
  induction n with
  | zero => rfl
  | succ n ih =>
    simp only [S]
    rw [ih fun i hi => h i (by omega), h n (by omega)]
    grind
/-- What a conversion of each amount asks for. -/
def sumPre (t : Nat → U) (l : Nat → A) (uo : A → Int) (m : Nat) : Prop := ∀ i, i < m → qOk (l i).val = true ∧ fOk (t (l i).unit.toNat).fac ∧ fOk (t (uo (l i)).toNat).fac
theorem zeroQ_ok : qOk (0, 1) = true := by decide
theorem rt_zero : rt (0, 1) = 0 := by decide +kernel
theorem sumsTo_val {t : Nat → U} {l : Nat → A} {uo : A → Int} : ∀ {m : Nat}, sumPre t l uo m → (sumsTo t l uo m).2 = 0 →
    ∀ u, qOk ((sumsTo t l uo m).1 u) = true ∧ rt ((sumsTo t l uo m).1 u) = S (fun i => if (uo (l i)).toNat = u then convX t (l i) (uo (l i)) else 0) m
  | 0, _, _, u => ⟨zeroQ_ok, rt_zero⟩
  | m + 1, hp, h, u => by
    simp only [sumsTo] at h ⊢
    split at h
    · rename_i h1; exact absurd h h1
    · rename_i h1
      rw [if_neg h1]
      have h1 : (sumsTo t l uo m).2 = 0 := by simpa using h1
      have ih := sumsTo_val (m := m) (fun i hi => hp i (by omega)) h1
      obtain ⟨p1, p2, p3⟩ := hp m (by omega)
      rw [valR_toQ p1 p2 p3] at h ⊢
      split at h
      · rename_i h2; exact absurd h h2
      · rename_i h2
        rw [if_neg h2]
        have h2 : (toQ (rt (l m).val * rt (t (l m).unit.toNat).fac / rt (t (uo (l m)).toNat).fac)).2 = 0 := by simpa using h2
        obtain ⟨k1, k2⟩ := toQ_ok h2
        simp only at h
        obtain ⟨_, a1, a2⟩ := addR_ok h
        simp only [setQ, S]
        by_cases hu : u = (uo (l m)).toNat
        · subst hu
          rw [if_pos rfl, if_pos rfl]
          refine ⟨a1, ?_⟩
          rw [a2, k2, (ih _).2]
          rfl
        · rw [if_neg hu, if_neg (fun e => hu e.symm)]
          refine ⟨(ih u).1, ?_⟩
          rw [(ih u).2]
          grind
theorem sumsTo_congr {t : Nat → U} {l l' : Nat → A} {uo : A → Int} : ∀ {m : Nat}, (∀ i, i < m → l i = l' i) → sumsTo t l uo m = sumsTo t l' uo m
  | 0, _ => rfl
  | m + 1, h => by
    simp only [sumsTo]
    rw [sumsTo_congr (m := m) fun i hi => h i (by omega), h m (by omega)]
theorem sumsTo_low {t : Nat → U} {l : Nat → A} {uo : A → Int} {i m : Nat} (hi : i ≤ m) (h : (sumsTo t l uo m).2 = 0) : (sumsTo t l uo i).2 = 0 := by
  by_cases hh : (sumsTo t l uo i).2 = 0
  · exact hh
  · rw [sumsTo_err hh m hi] at h; exact absurd h hh
/-- What Sum asks for. -/
def sumOk (t : Nat → U) (n : Nat) (l : Nat → A) (m : Nat) (to : Int) : Prop :=
  (validR t n).2 = true ∧ (0 ≤ to ∧ to < n) ∧ ∀ i, i < m → ((0 ≤ (l i).unit ∧ (l i).unit < n) ∧ qOk (l i).val = true) ∧ (t (l i).unit.toNat).base = (t to.toNat).base
theorem acceptsR_iff {t : Nat → U} {n m : Nat} {l : Nat → A} : acceptsR t n l m = true ↔ (validR t n).2 = true ∧ ∀ i, i < m → (0 ≤ (l i).unit ∧ (l i).unit < n) ∧ qOk (l i).val = true := by
  refine ⟨acceptsR_ok, fun ⟨h1, h2⟩ => ?_⟩
  simp only [acceptsR, Bool.and_eq_true, List.all_eq_true, List.mem_range]
  exact ⟨h1, fun i hi => aOk_and.2 (h2 i hi)⟩
theorem sumR_pre {t : Nat → U} {n : Nat} {l : Nat → A} {m : Nat} {to : Int} (h : sumOk t n l m to) : sumR t n l m to = if (sumsTo t l (fun _ => to) m).2 ≠ 0 then (zA, (sumsTo t l (fun _ => to) m).2) else (⟨to, (sumsTo t l (fun _ => to) m).1 to.toNat⟩, 0) := by
  obtain ⟨h1, h2, h3⟩ := h
  have hacc : (acceptsR t n l m && (decide (0 ≤ to) && decide (to < n))) = true := by
    rw [acceptsR_iff.2 ⟨h1, fun i hi => (h3 i hi).1⟩]; simp [h2]
  have hall : (List.range m).all (fun i => (t (l i).unit.toNat).base == (t to.toNat).base) = true := by
    simp only [List.all_eq_true, List.mem_range, beq_iff_eq]
    exact fun i hi => (h3 i hi).2
  unfold sumR
  rw [if_pos hacc, if_pos hall]
theorem sumR_sumOk {t : Nat → U} {n : Nat} {l : Nat → A} {m : Nat} {to : Int} (h : (sumR t n l m to).2 = 0) : sumOk t n l m to := by
  unfold sumR at h
  split at h
  · rename_i hc
    simp only [Bool.and_eq_true, decide_eq_true_eq] at hc
    split at h
    · rename_i hb
      simp only [List.all_eq_true, List.mem_range, beq_iff_eq] at hb
      obtain ⟨h1, h2⟩ := acceptsR_iff.1 hc.1
      exact ⟨h1, hc.2, fun i hi => ⟨h2 i hi, hb i hi⟩⟩
    · simp at h
  · simp at h
theorem sumOk.pre {t : Nat → U} {n : Nat} {l : Nat → A} {m : Nat} {to : Int} (h : sumOk t n l m to) : sumPre t l (fun _ => to) m := by
  obtain ⟨h1, h2, h3⟩ := h
  exact fun i hi => ⟨(h3 i hi).1.2, (validR_ok h1 _ (toNat_lt (h3 i hi).1.1)).fac, (validR_ok h1 _ (toNat_lt h2)).fac⟩
theorem sumR_ok {t : Nat → U} {n : Nat} {l : Nat → A} {m : Nat} {to : Int} (h : (sumR t n l m to).2 = 0) :
    (sumR t n l m to).1.unit = to ∧ qOk (sumR t n l m to).1.val = true ∧ rt (sumR t n l m to).1.val = S (fun i => convX t (l i) to) m := by
  have hp := sumR_sumOk h
  rw [sumR_pre hp] at h ⊢
  split at h
  · rename_i h1; exact absurd h h1
  · rename_i h1
    rw [if_neg h1]
    have h1 : (sumsTo t l (fun _ => to) m).2 = 0 := by simpa using h1
    obtain ⟨q1, q2⟩ := sumsTo_val hp.pre h1 to.toNat
    refine ⟨rfl, q1, q2.trans ?_⟩
    exact S_congr fun i _ => if_pos rfl
theorem sumR_err {t : Nat → U} {n : Nat} {l : Nat → A} {m : Nat} {to : Int} (h : (sumR t n l m to).2 ≠ 0) : (sumR t n l m to).1 = zA := by
  unfold sumR at h ⊢
  split
  · split
    · split
      · rfl
      · rename_i h1 h2 h3
        rw [if_pos h1, if_pos h2, if_neg h3] at h
        simp at h
    · rfl
  · rfl
/-- Of a list that has a sum, its first part has one. -/
theorem sumR_low {t : Nat → U} {n : Nat} {l l' : Nat → A} {i m : Nat} {to : Int} (hi : i ≤ m) (hl : ∀ j, j < i → l' j = l j) (h : (sumR t n l m to).2 = 0) : (sumR t n l' i to).2 = 0 := by
  have hp := sumR_sumOk h
  have hp' : sumOk t n l' i to := ⟨hp.1, hp.2.1, fun j hj => by rw [hl j hj]; exact hp.2.2 j (by omega)⟩
  rw [sumR_pre hp] at h
  rw [sumR_pre hp']
  split at h
  · rename_i h1; exact absurd h h1
  · rename_i h1
    have h1 : (sumsTo t l (fun _ => to) m).2 = 0 := by simpa using h1
    have h2 := sumsTo_low hi h1
    rw [← sumsTo_congr (l := l') hl] at h2
    rw [if_neg (by simpa using h2)]
/-- The sum of two values of one unit. -/
theorem sumR_two {t : Nat → U} {n : Nat} {a b c : Q} {to : Int} {l : Nat → A} (h1 : (validR t n).2 = true) (h2 : 0 ≤ to ∧ to < n) (ha : qOk a = true) (hb : qOk b = true) (hc : qOk c = true) (h0 : l 0 = ⟨to, a⟩) (hl1 : l 1 = ⟨to, b⟩) (h : rt a + rt b = rt c) : sumR t n l 2 to = (⟨to, c⟩, 0) := by
  have hp : sumOk t n l 2 to := ⟨h1, h2, fun i hi => by
    match i with
    | 0 => rw [h0]; exact ⟨⟨h2, ha⟩, rfl⟩
    | 1 => rw [hl1]; exact ⟨⟨h2, hb⟩, rfl⟩⟩
  have hf := (validR_ok h1 _ (toNat_lt h2)).fac
  have g := rt_ne hf
  have v : ∀ q, qOk q = true → valR q (t to.toNat).fac (t to.toNat).fac = (q, 0) := by
    intro q hq
    rw [valR_toQ hq hf hf]
    have : rt q * rt (t to.toNat).fac / rt (t to.toNat).fac = rt q := by grind
    rw [this, toQ_rt hq]
  have e1 : sumsTo t l (fun _ => to) 1 = (setQ (fun _ => (0, 1)) to.toNat a, 0) := by
    simp only [sumsTo, h0, v a ha, ne_eq, not_true_eq_false, if_false]
    rw [addR_val (a := (0, 1)) (b := a) (q := a) zeroQ_ok ha ha (by rw [rt_zero]; grind)]
  have e2 : sumsTo t l (fun _ => to) 2 = (setQ (setQ (fun _ => (0, 1)) to.toNat a) to.toNat c, 0) := by
    show (if (sumsTo t l (fun _ => to) 1).2 ≠ 0 then _ else _) = _
    simp only [e1, hl1, v b hb, ne_eq, not_true_eq_false, if_false]
    have : setQ (fun _ => ((0 : Int), (1 : Int))) to.toNat a to.toNat = a := by simp [setQ]
    rw [this, addR_val ha hb hc h]
  rw [sumR_pre hp, e2]
  simp [setQ]
end Go.Proofs.Ytiiegpjpckkohaa
end
