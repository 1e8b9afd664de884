/- Baskets, in rational numbers. -/
import Derived.Test.YtoeghbhlklnajaaM7
namespace Go.Proofs.Ytoeghbhlklnajaa
open Go.Eng

/-- The base of an amount's unit. -/
def baseOf (t : Nat → U) (a : A) : Int := (t a.unit.toNat).base
/-- What an amount adds to the base u of a basket. -/
def part (t : Nat → U) (u : Nat) (a : A) : Rat := if (baseOf t a).toNat = u then convX t a (baseOf t a) else 0
theorem basketR_acc {t : Nat → U} {n : Nat} {l : Nat → A} {m : Nat} (h : (basketR t n l m).2 = 0) : acceptsR t n l m = true ∧ basketR t n l m = sumsTo t l (baseOf t) m := by
  unfold basketR at h ⊢
  split
  · rename_i hc; exact ⟨hc, rfl⟩
  · rename_i hc
    rw [if_neg hc] at h
    simp at h
theorem baseOf_ok {t : Nat → U} {n : Nat} {a : A} (hv : (validR t n).2 = true) (hu : 0 ≤ a.unit ∧ a.unit < n) : (0 ≤ baseOf t a ∧ baseOf t a < n) ∧ (t (baseOf t a).toNat).base = baseOf t a := by
  have := (validR_ok hv _ (toNat_lt hu)).2.2.1
  exact ⟨this.1, this.2.2⟩
theorem basketR_ok {t : Nat → U} {n : Nat} {l : Nat → A} {m : Nat} (h : (basketR t n l m).2 = 0) (u : Nat) :
    qOk ((basketR t n l m).1 u) = true ∧ rt ((basketR t n l m).1 u) = S (fun i => part t u (l i)) m := by
  obtain ⟨hacc, he⟩ := basketR_acc h
  obtain ⟨hv, hl⟩ := acceptsR_ok hacc
  rw [he] at h ⊢
  refine sumsTo_val (fun i hi => ⟨(hl i hi).2, (validR_ok hv _ (toNat_lt (hl i hi).1)).fac, ?_⟩) h u
  exact (validR_ok hv _ (toNat_lt (baseOf_ok hv (hl i hi).1).1)).fac
/-- An amount, converted if it can be. -/
noncomputable def mv (t : Nat → U) (n : Nat) (to : Int) (a : A) : A := if (convR t n a to).2 = 0 then (convR t n a to).1 else a
theorem part_mv {t : Nat → U} {n : Nat} {to : Int} {a : A} (u : Nat) : part t u (mv t n to a) = part t u a := by
  unfold mv
  split
  · rename_i h
    obtain ⟨hp, h1, h2, h3⟩ := convR_ok h
    obtain ⟨f1, f2⟩ := hp.fac
    have hb : baseOf t (convR t n a to).1 = baseOf t a := by
      unfold baseOf
      rw [h1]
      exact hp.2.2.2.symm
    have g2 := rt_ne f2
    have : convX t (convR t n a to).1 (baseOf t a) = convX t a (baseOf t a) := by
      unfold convX
      rw [h3, h1]
      unfold convX
      grind
    unfold part
    rw [hb, this]
  · rfl
theorem same_moved {t : Nat → U} {n : Nat} {l : Nat → A} {m : Nat} {to : Int} (h1 : (basketR t n l m).2 = 0) (h2 : (basketR t n (fun j => mv t n to (l j)) m).2 = 0) (u : Nat) :
    (basketR t n l m).1 u = (basketR t n (fun j => mv t n to (l j)) m).1 u := by
  obtain ⟨a1, a2⟩ := basketR_ok h1 u
  obtain ⟨b1, b2⟩ := basketR_ok h2 u
  refine rt_inj a1 b1 ?_
  rw [a2, b2]
  exact S_congr fun i _ => (part_mv u).symm
theorem basket_zero {t : Nat → U} {n : Nat} {l : Nat → A} {m : Nat} (h : (basketR t n l m).2 = 0) {u : Nat} (hu : (t u).base ≠ u) : ((basketR t n l m).1 u).1 = 0 := by
  obtain ⟨a1, a2⟩ := basketR_ok h u
  obtain ⟨hv, hl⟩ := acceptsR_ok (basketR_acc h).1
  have : S (fun i => part t u (l i)) m = 0 := by
    refine S_zero fun i hi => ?_
    unfold part
    rw [if_neg]
    intro e
    obtain ⟨c1, c2⟩ := baseOf_ok hv (hl i hi).1
    rw [e] at c2
    omega
  rw [this] at a2
  have e := (rt_num a1).1
  rw [a2] at e
  exact e.symm
end Go.Proofs.Ytoeghbhlklnajaa
