/- What converting computes, in rational numbers. -/
import Derived.Test.YtoeghbhlklnajaaM4
import Derived.Test.YtoeghbhlklnajaaC11
namespace Go.Proofs.Ytoeghbhlklnajaa
open Go.Eng

theorem acceptsOne {t : Nat → U} {n : Nat} {a : A} : acceptsR t n (fun _ => a) 1 = ((validR t n).2 && aOk n a) := by simp [acceptsR]
theorem aOk_and {n : Nat} {a : A} : aOk n a = true ↔ (0 ≤ a.unit ∧ a.unit < n) ∧ qOk a.val = true := by simp [aOk]
/-- Nothing stands in the way of the conversion but the range. -/
def convPre (t : Nat → U) (n : Nat) (a : A) (to : Int) : Prop :=
  (validR t n).2 = true ∧ ((0 ≤ a.unit ∧ a.unit < n) ∧ qOk a.val = true) ∧ (0 ≤ to ∧ to < n) ∧ (t a.unit.toNat).base = (t to.toNat).base
theorem convPre.fac {t : Nat → U} {n : Nat} {a : A} {to : Int} (h : convPre t n a to) : fOk (t a.unit.toNat).fac ∧ fOk (t to.toNat).fac := by
  obtain ⟨h1, ⟨h2, _⟩, h4, _⟩ := h
  exact ⟨(validR_ok h1 _ (toNat_lt h2)).fac, (validR_ok h1 _ (toNat_lt h4)).fac⟩
theorem convPre.q {t : Nat → U} {n : Nat} {a : A} {to : Int} (h : convPre t n a to) : qOk a.val = true := h.2.1.2
/-- The value that the conversion has. -/
def convX (t : Nat → U) (a : A) (to : Int) : Rat := rt a.val * rt (t a.unit.toNat).fac / rt (t to.toNat).fac
theorem convR_pre {t : Nat → U} {n : Nat} {a : A} {to : Int} (h : convPre t n a to) : convR t n a to = if (toQ (convX t a to)).2 ≠ 0 then (zA, (toQ (convX t a to)).2) else (⟨to, (toQ (convX t a to)).1⟩, 0) := by
  obtain ⟨f1, f2⟩ := h.fac
  have hq := h.q
  obtain ⟨h1, h2, h4, h5⟩ := h
  have hacc : (acceptsR t n (fun _ => a) 1 && (decide (0 ≤ to) && decide (to < n))) = true := by
    rw [acceptsOne, h1, aOk_and.2 h2]; simp [h4]
  unfold convR
  rw [if_pos hacc, if_neg (by simpa using h5), valR_toQ hq f1 f2]
  rfl
theorem convR_ok {t : Nat → U} {n : Nat} {a : A} {to : Int} (h : (convR t n a to).2 = 0) : convPre t n a to ∧ (convR t n a to).1.unit = to ∧ qOk (convR t n a to).1.val = true ∧ rt (convR t n a to).1.val = convX t a to := by
  have hp : convPre t n a to := by
    unfold convR at h
    split at h
    · rename_i hc
      rw [acceptsOne] at hc
      simp only [Bool.and_eq_true, decide_eq_true_eq] at hc
      split at h
      · simp at h
      · rename_i hb
        exact ⟨hc.1.1, aOk_and.1 hc.1.2, hc.2, by simpa using hb⟩
    · simp at h
  refine ⟨hp, ?_⟩
  rw [convR_pre hp] at h ⊢
  split at h
  · rename_i h1; exact absurd h h1
  · rename_i h1
    rw [if_neg h1]
    have h1 : (toQ (convX t a to)).2 = 0 := by simpa using h1
    exact ⟨rfl, toQ_ok h1⟩
theorem convR_err {t : Nat → U} {n : Nat} {a : A} {to : Int} (h : (convR t n a to).2 ≠ 0) : (convR t n a to).1 = zA := by
  unfold convR at h ⊢
  split
  · split
    · rfl
    · split
      · rfl
      · rename_i h1 h2 h3
        rw [if_pos h1, if_neg h2, if_neg h3] at h
        simp at h
  · rfl
/-- A conversion whose value is a given pair. -/
theorem convR_val {t : Nat → U} {n : Nat} {a : A} {to : Int} (h : convPre t n a to) {q : Q} (hq : qOk q = true) (hx : convX t a to = rt q) : convR t n a to = (⟨to, q⟩, 0) := by
  rw [convR_pre h, hx, toQ_rt hq]
  simp
theorem A.eta {a : A} : (⟨a.unit, a.val⟩ : A) = a := rfl
/-- There and back. -/
theorem convR_back {t : Nat → U} {n : Nat} {a : A} {to : Int} (h : (convR t n a to).2 = 0) : convR t n (convR t n a to).1 a.unit = (a, 0) := by
  obtain ⟨hp, h1, h2, h3⟩ := convR_ok h
  obtain ⟨f1, f2⟩ := hp.fac
  generalize (convR t n a to).1 = b at h1 h2 h3 ⊢
  subst h1
  refine convR_val (a := b) (to := a.unit) (q := a.val) ⟨hp.1, ⟨hp.2.2.1, h2⟩, hp.2.1.1, hp.2.2.2.symm⟩ hp.q ?_
  unfold convX at h3 ⊢
  rw [h3]
  have g1 := rt_ne f1
  have g2 := rt_ne f2
  grind
/-- By way of another unit. -/
theorem convR_way {t : Nat → U} {n : Nat} {a : A} {by_ to : Int} (h : (convR t n a by_).2 = 0) (h' : (convR t n (convR t n a by_).1 to).2 = 0) : convR t n a to = ((convR t n (convR t n a by_).1 to).1, 0) := by
  obtain ⟨hp, h1, h2, h3⟩ := convR_ok h
  obtain ⟨hp', h1', h2', h3'⟩ := convR_ok h'
  obtain ⟨f1, f2⟩ := hp.fac
  obtain ⟨f1', f2'⟩ := hp'.fac
  generalize (convR t n (convR t n a by_).1 to).1 = c at h1' h2' h3' ⊢
  generalize (convR t n a by_).1 = b at *
  subst h1 h1'
  refine convR_val (a := a) (to := c.unit) (q := c.val) ⟨hp.1, hp.2.1, hp'.2.2.1, hp.2.2.2.trans hp'.2.2.2⟩ h2' ?_
  unfold convX at h3 h3' ⊢
  rw [h3', h3]
  have g1 := rt_ne f1
  have g2 := rt_ne f2
  have g3 := rt_ne f2'
  grind
theorem addR_ok {a b : Q} (h : (addR a b).2 = 0) : (qOk a = true ∧ qOk b = true) ∧ qOk (addR a b).1 = true ∧ rt (addR a b).1 = rt a + rt b := by
  have hq : qOk a = true ∧ qOk b = true := by
    unfold addR at h
    cases ha : qOk a <;> cases hb : qOk b <;> simp_all
  rw [addR_toQ hq.1 hq.2] at h ⊢
  exact ⟨hq, toQ_ok h⟩
theorem addR_val {a b q : Q} (ha : qOk a = true) (hb : qOk b = true) (hq : qOk q = true) (h : rt a + rt b = rt q) : addR a b = (q, 0) := by
  rw [addR_toQ ha hb, h, toQ_rt hq]
/-- Of a sum, the sum. -/
theorem convR_linear {t : Nat → U} {n : Nat} {a b : Q} {from_ to : Int} (h : (addR a b).2 = 0) (h1 : (convR t n ⟨from_, a⟩ to).2 = 0) (h2 : (convR t n ⟨from_, b⟩ to).2 = 0) (h3 : (convR t n ⟨from_, (addR a b).1⟩ to).2 = 0) :
    addR (convR t n ⟨from_, a⟩ to).1.val (convR t n ⟨from_, b⟩ to).1.val = ((convR t n ⟨from_, (addR a b).1⟩ to).1.val, 0) := by
  obtain ⟨_, _, hs⟩ := addR_ok h
  obtain ⟨p1, _, q1, x1⟩ := convR_ok h1
  obtain ⟨p2, _, q2, x2⟩ := convR_ok h2
  obtain ⟨p3, _, q3, x3⟩ := convR_ok h3
  refine addR_val q1 q2 q3 ?_
  rw [x1, x2, x3]
  unfold convX
  rw [hs]
  have g2 := rt_ne p1.fac.2
  grind
end Go.Proofs.Ytoeghbhlklnajaa
