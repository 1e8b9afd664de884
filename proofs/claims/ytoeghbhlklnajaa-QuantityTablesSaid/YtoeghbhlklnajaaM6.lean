/- Baskets that cover baskets. -/
import Derived.Test.YtoeghbhlklnajaaM5
namespace Go.Proofs.Ytoeghbhlklnajaa
open Go.Eng

theorem catF_one {i : Nat} {f g h : Nat → List AV} (h0 : h 0 = g i) (hf : ∀ j, j < i → f j = g j) : ∀ j, j < i + 1 → catF i f h j = g j := by
  intro j hj
  unfold catF
  by_cases h1 : j < i
  · have : Nat.blt j i = true := by simpa using h1
    rw [this, cond_true]
    exact hf j h1
  · have : Nat.blt j i = false := by
      cases hb : Nat.blt j i with
      | false => rfl
      | true => simp at hb; exact absurd hb h1
    have e : j = i := by omega
    rw [this, cond_false, e, Nat.sub_self, h0]
theorem rt_le {a b : Q} (ha : qOk a = true) (hb : qOk b = true) : rt b ≤ rt a ↔ b.1 * a.2 ≤ a.1 * b.2 := by
  have g1 := q2_ne ha
  have g2 := q2_ne hb
  have p1 : (0 : Rat) < ((a.2 : Int) : Rat) := Rat.intCast_pos.2 (qOk_iff.1 ha).1
  have p2 : (0 : Rat) < ((b.2 : Int) : Rat) := Rat.intCast_pos.2 (qOk_iff.1 hb).1
  have e1 : rt a * ((a.2 : Int) : Rat) = ((a.1 : Int) : Rat) := by unfold rt; grind
  have e2 : rt b * ((b.2 : Int) : Rat) = ((b.1 : Int) : Rat) := by unfold rt; grind
  have p3 := Rat.mul_pos p1 p2
  rw [← Rat.intCast_le_intCast, Rat.intCast_mul, Rat.intCast_mul, ← e1, ← e2]
  generalize rt a = x at *
  generalize rt b = y at *
  generalize ((a.2 : Int) : Rat) = u at *
  generalize ((b.2 : Int) : Rat) = v at *
  constructor
  · intro h
    have h : 0 ≤ x - y := by grind
    have := Rat.mul_nonneg h (Rat.le_of_lt p3)
    grind
  · intro h
    by_cases hlt : x < y
    · have h0 : 0 < y - x := by grind
      have := Rat.mul_pos h0 p3
      grind
    · grind
theorem cmpR_le {a b : Q} (ha : qOk a = true) (hb : qOk b = true) : 0 ≤ cmpR a b ↔ rt b ≤ rt a := by
  rw [rt_le ha hb]
  unfold cmpR
  rw [ha, hb, Bool.and_self, if_pos rfl]
  split
  · rename_i h; omega
  · split
    · rename_i h1 h2; omega
    · rename_i h1 h2; omega
def Cov (a b : Nat → Q) (n : Nat) : Prop := ∀ i, i < n → qOk (a i) = true ∧ qOk (b i) = true ∧ rt (b i) ≤ rt (a i)
theorem coversR_iff {a b : Nat → Q} {na nb : Nat} : coversR a na b nb = true ↔ na = nb ∧ Cov a b na := by
  unfold coversR Cov
  simp only [Bool.and_eq_true, beq_iff_eq, List.all_eq_true, List.mem_range, decide_eq_true_eq]
  constructor
  · rintro ⟨h1, h2⟩
    refine ⟨h1, fun i hi => ?_⟩
    obtain ⟨⟨h3, h4⟩, h5⟩ := h2 i hi
    exact ⟨h3, h4, (cmpR_le h3 h4).1 h5⟩
  · rintro ⟨h1, h2⟩
    refine ⟨h1, fun i hi => ?_⟩
    obtain ⟨h3, h4, h5⟩ := h2 i hi
    exact ⟨⟨h3, h4⟩, (cmpR_le h3 h4).2 h5⟩
theorem coversR_trans {a b c : Nat → Q} {na nb nc : Nat} (h1 : coversR a na b nb = true) (h2 : coversR b nb c nc = true) : coversR a na c nc = true := by
  obtain ⟨e1, c1⟩ := coversR_iff.1 h1
  obtain ⟨e2, c2⟩ := coversR_iff.1 h2
  subst e1 e2
  refine coversR_iff.2 ⟨rfl, fun i hi => ⟨(c1 i hi).1, (c2 i hi).2.1, ?_⟩⟩
  have := (c1 i hi).2.2
  have := (c2 i hi).2.2
  grind
theorem coversR_anti {a b : Nat → Q} {na nb : Nat} (h1 : coversR a na b nb = true) (h2 : coversR b nb a na = true) : (na == nb && (List.range na).all (fun i => a i == b i)) = true := by
  obtain ⟨e1, c1⟩ := coversR_iff.1 h1
  obtain ⟨_, c2⟩ := coversR_iff.1 h2
  subst e1
  simp only [beq_self_eq_true, Bool.true_and, List.all_eq_true, List.mem_range, beq_iff_eq]
  intro i hi
  refine rt_inj (c1 i hi).1 (c1 i hi).2.1 ?_
  have := (c1 i hi).2.2
  have := (c2 i hi).2.2
  grind
/-- Adding the same to both sides. -/
theorem coversR_add {a b d : Nat → Q} {n : Nat} (hs : ∀ i, i < n → (addR (a i) (d i)).2 = 0 ∧ (addR (b i) (d i)).2 = 0) : coversR (fun i => (addR (a i) (d i)).1) n (fun i => (addR (b i) (d i)).1) n = coversR a n b n := by
  rw [Bool.eq_iff_iff, coversR_iff, coversR_iff]
  simp only [true_and]
  constructor
  · intro h i hi
    obtain ⟨⟨q1, _⟩, _, x1⟩ := addR_ok (hs i hi).1
    obtain ⟨⟨q2, _⟩, _, x2⟩ := addR_ok (hs i hi).2
    refine ⟨q1, q2, ?_⟩
    have h3 := (h i hi).2.2
    simp only [x1, x2] at h3
    grind
  · intro h i hi
    obtain ⟨_, y1, x1⟩ := addR_ok (hs i hi).1
    obtain ⟨_, y2, x2⟩ := addR_ok (hs i hi).2
    refine ⟨y1, y2, ?_⟩
    have h3 := (h i hi).2.2
    simp only [x1, x2]
    grind
end Go.Proofs.Ytoeghbhlklnajaa
