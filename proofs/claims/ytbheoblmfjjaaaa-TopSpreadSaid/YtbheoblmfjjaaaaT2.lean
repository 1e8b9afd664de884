import Derived.Test.YtbheoblmfjjaaaaT1
section
/- Contracts: package quantity, conversions and sums. -/
namespace Go.Proofs.Ytbheoblmfjjaaaa
open Go.Eng
set_option maxRecDepth 10000
set_option linter.unusedSimpArgs false
set_option linter.unusedVariables false
theorem validR_ok {t : Nat → U} {n : Nat} (h : (validR t n).2 = true) : ∀ i, i < n → uOk t n i := by
  intro i hi
  unfold validR at h
  split at h
  · cases h
  · rename_i hf
    rw [List.find?_range_eq_none] at hf
    have := hf i hi
    simp only [Bool.not_not] at this
    exact uOkB_iff.1 this
theorem uOk.fac {t : Nat → U} {n i : Nat} (h : uOk t n i) : fOk (t i).fac := ⟨h.2.1.2.1, h.2.1.2.2⟩
theorem acceptsR_ok {t : Nat → U} {n m : Nat} {l : Nat → A} (h : acceptsR t n l m = true) : (validR t n).2 = true ∧ ∀ i, i < m → (0 ≤ (l i).unit ∧ (l i).unit < n) ∧ qOk (l i).val = true := by
  simp only [acceptsR, Bool.and_eq_true, List.all_eq_true, List.mem_range] at h
  refine ⟨h.1, fun i hi => ?_⟩
  have := h.2 i hi
  simpa [aOk] using this
theorem toNat_lt {i : Int} {n : Nat} (h : 0 ≤ i ∧ i < n) : i.toNat < n := by omega
def zA : A := ⟨0, (0, 0)⟩
def ar (r : A × Int) : AV := .tup [av r.1, .c (.int .i64 r.2)]
noncomputable def convR (t : Nat → U) (n : Nat) (a : A) (to : Int) : A × Int :=
  if acceptsR t n (fun _ => a) 1 && (decide (0 ≤ to) && decide (to < n)) then
    if (t a.unit.toNat).base ≠ (t to.toNat).base then (zA, 11)
    else if (valR a.val (t a.unit.toNat).fac (t to.toNat).fac).2 ≠ 0 then (zA, (valR a.val (t a.unit.toNat).fac (t to.toNat).fac).2) else (⟨to, (valR a.val (t a.unit.toNat).fac (t to.toNat).fac).1⟩, 0)
  else (zA, 1)
end Go.Proofs.Ytbheoblmfjjaaaa
end
section
/- Contracts: package quantity, sums. -/
namespace Go.Proofs.Ytbheoblmfjjaaaa
open Go.Eng
set_option maxRecDepth 10000
set_option linter.unusedSimpArgs false
set_option linter.unusedVariables false
def setQ (f : Nat → Q) (i : Nat) (v : Q) : Nat → Q := fun j => if j = i then v else f j
def sumsTo (t : Nat → U) (l : Nat → A) (uo : A → Int) : Nat → (Nat → Q) × Int
  | 0 => (fun _ => (0, 1), 0)
  | i + 1 => if (sumsTo t l uo i).2 ≠ 0 then sumsTo t l uo i else
    if (valR (l i).val (t (l i).unit.toNat).fac (t (uo (l i)).toNat).fac).2 ≠ 0 then ((sumsTo t l uo i).1, (valR (l i).val (t (l i).unit.toNat).fac (t (uo (l i)).toNat).fac).2) else
    (setQ (sumsTo t l uo i).1 (uo (l i)).toNat (addR ((sumsTo t l uo i).1 (uo (l i)).toNat) (valR (l i).val (t (l i).unit.toNat).fac (t (uo (l i)).toNat).fac).1).1,
      (addR ((sumsTo t l uo i).1 (uo (l i)).toNat) (valR (l i).val (t (l i).unit.toNat).fac (t (uo (l i)).toNat).fac).1).2)
def sumsV (n : Nat) (r : (Nat → Q) × Int) : AV := .tup [ratV (if r.2 = 0 then n else 0) r.1, .c (.int .i64 r.2)]
theorem fracR_W (neg : Bool) (n d : Nat) : qW (fracR neg n d).1 := by
  unfold fracR
  split
  · simp [qW, inK]
  · rename_i h
    simp only [not_or, Nat.not_lt] at h
    generalize n / n.gcd d = x at *
    generalize d / n.gcd d = y at *
    simp only [qW, inK]
    split <;> omega
theorem makeR_W (a b : Int) : qW (makeR a b).1 := by
  unfold makeR
  split
  · simp [qW, inK]
  · exact fracR_W _ _ _
theorem addR_W (a b : Q) : qW (addR a b).1 := by
  unfold addR
  split
  · exact makeR_W _ _
  · simp [qW, inK]
theorem sumsTo_W (t : Nat → U) (l : Nat → A) (uo : A → Int) : ∀ i u, qW ((sumsTo t l uo i).1 u)
  | 0, u => by simp [sumsTo, qW, inK]
  | i + 1, u => by
    have ih := sumsTo_W t l uo i
    simp only [sumsTo]
    split
    · exact ih u
    · split
      · exact ih u
      · simp only [setQ]
        split
        · exact addR_W _ _
        · exact ih u
theorem sumsTo_err {t : Nat → U} {l : Nat → A} {uo : A → Int} {i : Nat} (h : (sumsTo t l uo i).2 ≠ 0) : ∀ m, i ≤ m → sumsTo t l uo m = sumsTo t l uo i
  | 0, hm => by rw [show i = 0 by omega]
  | m + 1, hm => by
    by_cases hi : i = m + 1
    · rw [hi]
    · have ih := sumsTo_err h m (by omega)
      simp only [sumsTo, ih, if_pos h]
theorem setRowF_eq (f : Nat → List AV) (i off : Nat) (l : List AV) (j : Nat) : setRowF f i off l j = if j = i then setL (f i) off l else f j := by
  unfold setRowF
  by_cases h : j = i
  · subst h; simp
  · have : Nat.beq j i = false := by
      cases hb : Nat.beq j i with
      | false => rfl
      | true => exact absurd (Nat.eq_of_beq_eq_true hb) h
    simp [h, this]
theorem tab20 {t : Nat → U} {n : Nat} (hv : ∀ i, i < n → uOk t n i) : n ≤ 20 := by
  by_cases h : n = 0
  · omega
  · have := (hv (n - 1) (by omega)).1.1
    omega
theorem sumsV_err {n : Nat} {r : (Nat → Q) × Int} {e : Int} (he : r.2 = e) (h : e ≠ 0) : AvIs (.tup [.c (.slice none 0 0), .c (.int .i64 e)]) (sumsV n r) := by
  subst he
  exact ⟨⟨rfl, if_neg h⟩, rfl⟩
theorem sumsV_ok {n : Nat} {r : (Nat → Q) × Int} {f : Nat → List AV} (h : r.2 = 0) (hf : ∀ i, f i = qc (r.1 i)) : AvIs (.tup [.rs 2 n f, .c (.int .i64 0)]) (sumsV n r) :=
  ⟨⟨rfl, by rw [if_pos h], fun i hi => (hf i).symm⟩, by show AV.c _ = AV.c _; rw [h]⟩
end Go.Proofs.Ytbheoblmfjjaaaa
end
section
/- Contracts: package quantity, Sum, Basket, Covers. -/
namespace Go.Proofs.Ytbheoblmfjjaaaa
open Go.Eng
set_option maxRecDepth 10000
set_option linter.unusedSimpArgs false
set_option linter.unusedVariables false
noncomputable def sumR (t : Nat → U) (n : Nat) (l : Nat → A) (m : Nat) (to : Int) : A × Int :=
  if acceptsR t n l m && (decide (0 ≤ to) && decide (to < n)) then
    if (List.range m).all (fun i => (t (l i).unit.toNat).base == (t to.toNat).base) then
      if (sumsTo t l (fun _ => to) m).2 ≠ 0 then (zA, (sumsTo t l (fun _ => to) m).2) else (⟨to, (sumsTo t l (fun _ => to) m).1 to.toNat⟩, 0)
    else (zA, 11)
  else (zA, 1)
noncomputable def basketR (t : Nat → U) (n : Nat) (l : Nat → A) (m : Nat) : (Nat → Q) × Int :=
  if acceptsR t n l m then sumsTo t l (fun a => (t a.unit.toNat).base) m else (fun _ => (0, 1), 1)
def coversR (a : Nat → Q) (na : Nat) (b : Nat → Q) (nb : Nat) : Bool := na == nb && (List.range na).all (fun i => qOk (a i) && qOk (b i) && decide (0 ≤ cmpR (a i) (b i)))
end Go.Proofs.Ytbheoblmfjjaaaa
end
section
/- What converting computes, in rational numbers. -/
namespace Go.Proofs.Ytbheoblmfjjaaaa
open Go.Eng
theorem acceptsOne {t : Nat → U} {n : Nat} {a : A} : acceptsR t n (fun _ => a) 1 = ((validR t n).2 && aOk n a) := by simp [acceptsR]
theorem aOk_and {n : Nat} {a : A} : aOk n a = true ↔ (0 ≤ a.unit ∧ a.unit < n) ∧ qOk a.val = true := by simp [aOk]
/-- Nothing stands in the way of the conversion but the range. -/
def convPre (t : Nat → U) (n : Nat) (a : A) (to : Int) : Prop :=
  (validR t n).2 = true ∧ ((0 ≤ a.unit ∧ a.unit < n) ∧ qOk a.val = true) ∧ (0 ≤ to ∧ to < n) ∧ (t a.unit.toNat).base = (t to.toNat).base
theorem convPre.fac {t : Nat → U} {n : Nat} {a : A} {to : Int} (h : convPre t n a to) : fOk (t a.unit.toNat).fac ∧ fOk (t to.toNat).fac := by
  obtain ⟨h1, ⟨h2, _⟩, h4, _⟩ := h
  exact ⟨(validR_ok h1 _ (toNat_lt h2)).fac, (validR_ok h1 _ (toNat_lt h4)).fac⟩
theorem convPre.q {t : Nat → U} {n : Nat} {a : A} {to : Int} (h : convPre t n a to) : qOk a.val = true := h.2.1.2
/-- The value that the conversion has. -/
def convX (t : Nat → U) (a : A) (to : Int) : Rat := rt a.val * rt (t a.unit.toNat).fac / rt (t to.toNat).fac
theorem convR_pre {t : Nat → U} {n : Nat} {a : A} {to : Int} (h : convPre t n a to) : convR t n a to = if (toQ (convX t a to)).2 ≠ 0 then (zA, (toQ (convX t a to)).2) else (⟨to, (toQ (convX t a to)).1⟩, 0) := by
  obtain ⟨f1, f2⟩ := h.fac
  have hq := h.q
  obtain ⟨h1, h2, h4, h5⟩ := h
  have hacc : (acceptsR t n (fun _ => a) 1 && (decide (0 ≤ to) && decide (to < n))) = true := by
    rw [acceptsOne, h1, aOk_and.2 h2]; simp [h4]
  unfold convR
  rw [if_pos hacc, if_neg (by simpa using h5), valR_toQ hq f1 f2]
  rfl
theorem convR_ok {t : Nat → U} {n : Nat} {a : A} {to : Int} (h : (convR t n a to).2 = 0) : convPre t n a to ∧ (convR t n a to).1.unit = to ∧ qOk (convR t n a to).1.val = true ∧ rt (convR t n a to).1.val = convX t a to := by
  have hp : convPre t n a to := by
    unfold convR at h
    split at h
    · rename_i hc
      rw [acceptsOne] at hc
      simp only [Bool.and_eq_true, decide_eq_true_eq] at hc
      split at h
      · simp at h
      · rename_i hb
        exact ⟨hc.1.1, aOk_and.1 hc.1.2, hc.2, by simpa using hb⟩
    · simp at h
  refine ⟨hp, ?_⟩
  rw [convR_pre hp] at h ⊢
  split at h
  · rename_i h1; exact absurd h h1
  · rename_i h1
    rw [if_neg h1]
    have h1 : (toQ (convX t a to)).2 = 0 := by simpa using h1
    exact ⟨rfl, toQ_ok h1⟩
theorem convR_err {t : Nat → U} {n : Nat} {a : A} {to : Int} (h : (convR t n a to).2 ≠ 0) : (convR t n a to).1 = zA := by
  unfold convR at h ⊢
  split
  · split
    · rfl
    · split
      · rfl
      · rename_i h1 h2 h3
        rw [if_pos h1, if_neg h2, if_neg h3] at h
        simp at h
  · rfl
/-- A conversion whose value is a given pair. -/
theorem convR_val {t : Nat → U} {n : Nat} {a : A} {to : Int} (h : convPre t n a to) {q : Q} (hq : qOk q = true) (hx : convX t a to = rt q) : convR t n a to = (⟨to, q⟩, 0) := by
  rw [convR_pre h, hx, toQ_rt hq]
  simp
theorem A.eta {a : A} : (⟨a.unit, a.val⟩ : A) = a := rfl
/-- There and back. -/
theorem convR_back {t : Nat → U} {n : Nat} {a : A} {to : Int} (h : (convR t n a to).2 = 0) : convR t n (convR t n a to).1 a.unit = (a, 0) := by
  obtain ⟨hp, h1, h2, h3⟩ := convR_ok h
  obtain ⟨f1, f2⟩ := hp.fac
  generalize (convR t n a to).1 = b at h1 h2 h3 ⊢
  subst h1
  refine convR_val (a := b) (to := a.unit) (q := a.val) ⟨hp.1, ⟨hp.2.2.1, h2⟩, hp.2.1.1, hp.2.2.2.symm⟩ hp.q ?_
  unfold convX at h3 ⊢
  rw [h3]
  have g1 := rt_ne f1
  have g2 := rt_ne f2
  grind
/-- By way of another unit. -/
theorem convR_way {t : Nat → U} {n : Nat} {a : A} {by_ to : Int} (h : (convR t n a by_).2 = 0) (h' : (convR t n (convR t n a by_).1 to).2 = 0) : convR t n a to = ((convR t n (convR t n a by_).1 to).1, 0) := by
  obtain ⟨hp, h1, h2, h3⟩ := convR_ok h
  obtain ⟨hp', h1', h2', h3'⟩ := convR_ok h'
  obtain ⟨f1, f2⟩ := hp.fac
  obtain ⟨f1', f2'⟩ := hp'.fac
  generalize (convR t n (convR t n a by_).1 to).1 = c at h1' h2' h3' ⊢
  generalize (convR t n a by_).1 = b at *
  subst h1 h1'
  refine convR_val (a := a) (to := c.unit) (q := c.val) ⟨hp.1, hp.2.1, hp'.2.2.1, hp.2.2.2.trans hp'.2.2.2⟩ h2' ?_
  unfold convX at h3 h3' ⊢
  rw [h3', h3]
  have g1 := rt_ne f1
  have g2 := rt_ne f2
  have g3 := rt_ne f2'
  grind
theorem addR_ok {a b : Q} (h : (addR a b).2 = 0) : (qOk a = true ∧ qOk b = true) ∧ qOk (addR a b).1 = true ∧ rt (addR a b).1 = rt a + rt b := by
  have hq : qOk a = true ∧ qOk b = true := by
    unfold addR at h
    cases ha : qOk a <;> cases hb : qOk b <;> simp_all
  rw [addR_toQ hq.1 hq.2] at h ⊢
  exact ⟨hq, toQ_ok h⟩
theorem addR_val {a b q : Q} (ha : qOk a = true) (hb : qOk b = true) (hq : qOk q = true) (h : rt a + rt b = rt q) : addR a b = (q, 0) := by
  rw [addR_toQ ha hb, h, toQ_rt hq]
/-- Of a sum, the sum. -/
theorem convR_linear {t : Nat → U} {n : Nat} {a b : Q} {from_ to : Int} (h : (addR a b).2 = 0) (h1 : (convR t n ⟨from_, a⟩ to).2 = 0) (h2 : (convR t n ⟨from_, b⟩ to).2 = 0) (h3 : (convR t n ⟨from_, (addR a b).1⟩ to).2 = 0) :
    addR (convR t n ⟨from_, a⟩ to).1.val (convR t n ⟨from_, b⟩ to).1.val = ((convR t n ⟨from_, (addR a b).1⟩ to).1.val, 0) := by
  obtain ⟨_, _, hs⟩ := addR_ok h
  obtain ⟨p1, _, q1, x1⟩ := convR_ok h1
  obtain ⟨p2, _, q2, x2⟩ := convR_ok h2
  obtain ⟨p3, _, q3, x3⟩ := convR_ok h3
  refine addR_val q1 q2 q3 ?_
  rw [x1, x2, x3]
  unfold convX
  rw [hs]
  have g2 := rt_ne p1.fac.2
  grind
end Go.Proofs.Ytbheoblmfjjaaaa
end
section
/- Baskets that cover baskets. -/
namespace Go.Proofs.Ytbheoblmfjjaaaa
open Go.Eng
theorem catF_one {i : Nat} {f g h : Nat → List AV} (h0 : h 0 = g i) (hf : ∀ j, j < i → f j = g j) : ∀ j, j < i + 1 → catF i f h j = g j := by
  intro j hj
  unfold catF
  by_cases h1 : j < i
  · have : Nat.blt j i = true := by simpa using h1
    rw [this, cond_true]
    exact hf j h1
  · have : Nat.blt j i = false := by
      cases hb : Nat.blt j i with
      | false => rfl
      | true => simp at hb; exact absurd hb h1
    have e : j = i := by omega
    rw [this, cond_false, e, Nat.sub_self, h0]
theorem rt_le {a b : Q} (ha : qOk a = true) (hb : qOk b = true) : rt b ≤ rt a ↔ b.1 * a.2 ≤ a.1 * b.2 := by
  have g1 := q2_ne ha
  have g2 := q2_ne hb
  have p1 : (0 : Rat) < ((a.2 : Int) : Rat) := Rat.intCast_pos.2 (qOk_iff.1 ha).1
  have p2 : (0 : Rat) < ((b.2 : Int) : Rat) := Rat.intCast_pos.2 (qOk_iff.1 hb).1
  have e1 : rt a * ((a.2 : Int) : Rat) = ((a.1 : Int) : Rat) := by unfold rt; grind
  have e2 : rt b * ((b.2 : Int) : Rat) = ((b.1 : Int) : Rat) := by unfold rt; grind
  have p3 := Rat.mul_pos p1 p2
  rw [← Rat.intCast_le_intCast, Rat.intCast_mul, Rat.intCast_mul, ← e1, ← e2]
  generalize rt a = x at *
  generalize rt b = y at *
  generalize ((a.2 : Int) : Rat) = u at *
  generalize ((b.2 : Int) : Rat) = v at *
  constructor
  · intro h
    have h : 0 ≤ x - y := by grind
    have := Rat.mul_nonneg h (Rat.le_of_lt p3)
    grind
  · intro h
    by_cases hlt : x < y
    · have h0 : 0 < y - x := by grind
      have := Rat.mul_pos h0 p3
      grind
    · grind
theorem cmpR_le {a b : Q} (ha : qOk a = true) (hb : qOk b = true) : 0 ≤ cmpR a b ↔ rt b ≤ rt a := by
  rw [rt_le ha hb]
  unfold cmpR
  rw [ha, hb, Bool.and_self, if_pos rfl]
  split
  · rename_i h; omega
  · split
    · rename_i h1 h2; omega
    · rename_i h1 h2; omega
def Cov (a b : Nat → Q) (n : Nat) : Prop := ∀ i, i < n → qOk (a i) = true ∧ qOk (b i) = true ∧ rt (b i) ≤ rt (a i)
theorem coversR_iff {a b : Nat → Q} {na nb : Nat} : coversR a na b nb = true ↔ na = nb ∧ Cov a b na := by
  unfold coversR Cov
  simp only [Bool.and_eq_true, beq_iff_eq, List.all_eq_true, List.mem_range, decide_eq_true_eq]
  constructor
  · rintro ⟨h1, h2⟩
    refine ⟨h1, fun i hi => ?_⟩
    obtain ⟨⟨h3, h4⟩, h5⟩ := h2 i hi
    exact ⟨h3, h4, (cmpR_le h3 h4).1 h5⟩
  · rintro ⟨h1, h2⟩
    refine ⟨h1, fun i hi => ?_⟩
    obtain ⟨h3, h4, h5⟩ := h2 i hi
    exact ⟨⟨h3, h4⟩, (cmpR_le h3 h4).2 h5⟩
theorem coversR_trans {a b c : Nat → Q} {na nb nc : Nat} (h1 : coversR a na b nb = true) (h2 : coversR b nb c nc = true) : coversR a na c nc = true := by
  obtain ⟨e1, c1⟩ := coversR_iff.1 h1
  obtain ⟨e2, c2⟩ := coversR_iff.1 h2
  subst e1 e2
  refine coversR_iff.2 ⟨rfl, fun i hi => ⟨(c1 i hi).1, (c2 i hi).2.1, ?_⟩⟩
  have := (c1 i hi).2.2
  have := (c2 i hi).2.2
  grind
theorem coversR_anti {a b : Nat → Q} {na nb : Nat} (h1 : coversR a na b nb = true) (h2 : coversR b nb a na = true) : (na == nb && (List.range na).all (fun i => a i == b i)) = true := by
  obtain ⟨e1, c1⟩ := coversR_iff.1 h1
  obtain ⟨_, c2⟩ := coversR_iff.1 h2
  subst e1
  simp only [beq_self_eq_true, Bool.true_and, List.all_eq_true, List.mem_range, beq_iff_eq]
  intro i hi
  refine rt_inj (c1 i hi).1 (c1 i hi).2.1 ?_
  have := (c1 i hi).2.2
  have := (c2 i hi).2.2
  grind
/-- Adding the same to both sides. -/
theorem coversR_add {a b d : Nat → Q} {n : Nat} (hs : ∀ i, i < n → (addR (a i) (d i)).2 = 0 ∧ (addR (b i) (d i)).2 = 0) : coversR (fun i => (addR (a i) (d i)).1) n (fun i => (addR (b i) (d i)).1) n = coversR a n b n := by
  rw [Bool.eq_iff_iff, coversR_iff, coversR_iff]
  simp only [true_and]
  constructor
  · intro h i hi
    obtain ⟨⟨q1, _⟩, _, x1⟩ := addR_ok (hs i hi).1
    obtain ⟨⟨q2, _⟩, _, x2⟩ := addR_ok (hs i hi).2
    refine ⟨q1, q2, ?_⟩
    have h3 := (h i hi).2.2
    simp only [x1, x2] at h3
    grind
  · intro h i hi
    obtain ⟨_, y1, x1⟩ := addR_ok (hs i hi).1
    obtain ⟨_, y2, x2⟩ := addR_ok (hs i hi).2
    refine ⟨y1, y2, ?_⟩
    have h3 := (h i hi).2.2
    simp only [x1, x2]
    grind
end Go.Proofs.Ytbheoblmfjjaaaa
end
section
/- Sums and baskets, in rational numbers. -/
namespace Go.Proofs.Ytbheoblmfjjaaaa
open Go.Eng
/-- The sum of the first n numbers of a row. -/
def S (g : Nat → Rat) : Nat → Rat
  | 0 => 0
  | n + 1 => S g n + g n
theorem S_congr {g h : Nat → Rat} : ∀ {n : Nat}, (∀ i, i < n → g i = h i) → S g n = S h n
  | 0, _ => rfl
  | n + 1, hh => by
    simp only [S]
    rw [S_congr (fun i hi => hh i (by omega)), hh n (by omega)]
theorem S_cat (g : Nat → Rat) (n : Nat) : ∀ m, S g (n + m) = S g n + S (fun j => g (n + j)) m
  | 0 => by
    show S g n = S g n + 0
    grind
  | m + 1 => by
    show S g (n + m) + g (n + m) = S g n + (S (fun j => g (n + j)) m + g (n + m))
    rw [S_cat g n m]
    grind
theorem S_head (g : Nat → Rat) (n : Nat) : S g (n + 1) = g 0 + S (fun j => g (j + 1)) n := by
  rw [Nat.add_comm n 1, S_cat g 1 n]
  have : S g 1 = g 0 := by
    show (0 : Rat) + g 0 = g 0
    grind
  rw [this]
  congr 1
  exact S_congr fun i _ => by rw [Nat.add_comm]
theorem S_rev : ∀ (n : Nat) (g : Nat → Rat), S (fun j => g (n - 1 - j)) n = S g n
  | 0, _ => rfl
  | n + 1, g => by
    rw [S_head g n]
    show S (fun j => g (n + 1 - 1 - j)) n + g (n + 1 - 1 - n) = _
    have h1 : S (fun j => g (n + 1 - 1 - j)) n = S (fun j => g (j + 1)) n := by
      rw [← S_rev n (fun j => g (j + 1))]
      refine S_congr fun i hi => ?_
      show g _ = g _
      congr 1
      omega
    rw [h1]
    have h2 : n + 1 - 1 - n = 0 := by omega
    rw [h2]
    grind
theorem S_zero {g : Nat → Rat} {n : Nat} (h : ∀ i, i < n → g i = 0) : S g n = 0 := by
  induction n with
  | zero => rfl
  | succ n ih =>
    simp only [S]
    rw [ih fun i hi => h i (by omega), h n (by omega)]
    grind
/-- What a conversion of each amount asks for. -/
def sumPre (t : Nat → U) (l : Nat → A) (uo : A → Int) (m : Nat) : Prop := ∀ i, i < m → qOk (l i).val = true ∧ fOk (t (l i).unit.toNat).fac ∧ fOk (t (uo (l i)).toNat).fac
theorem zeroQ_ok : qOk (0, 1) = true := by decide
theorem rt_zero : rt (0, 1) = 0 := by decide +kernel
theorem sumsTo_val {t : Nat → U} {l : Nat → A} {uo : A → Int} : ∀ {m : Nat}, sumPre t l uo m → (sumsTo t l uo m).2 = 0 →
    ∀ u, qOk ((sumsTo t l uo m).1 u) = true ∧ rt ((sumsTo t l uo m).1 u) = S (fun i => if (uo (l i)).toNat = u then convX t (l i) (uo (l i)) else 0) m
  | 0, _, _, u => ⟨zeroQ_ok, rt_zero⟩
  | m + 1, hp, h, u => by
    simp only [sumsTo] at h ⊢
    split at h
    · rename_i h1; exact absurd h h1
    · rename_i h1
      rw [if_neg h1]
      have h1 : (sumsTo t l uo m).2 = 0 := by simpa using h1
      have ih := sumsTo_val (m := m) (fun i hi => hp i (by omega)) h1
      obtain ⟨p1, p2, p3⟩ := hp m (by omega)
      rw [valR_toQ p1 p2 p3] at h ⊢
      split at h
      · rename_i h2; exact absurd h h2
      · rename_i h2
        rw [if_neg h2]
        have h2 : (toQ (rt (l m).val * rt (t (l m).unit.toNat).fac / rt (t (uo (l m)).toNat).fac)).2 = 0 := by simpa using h2
        obtain ⟨k1, k2⟩ := toQ_ok h2
        simp only at h
        obtain ⟨_, a1, a2⟩ := addR_ok h
        simp only [setQ, S]
        by_cases hu : u = (uo (l m)).toNat
        · subst hu
          rw [if_pos rfl, if_pos rfl]
          refine ⟨a1, ?_⟩
          rw [a2, k2, (ih _).2]
          rfl
        · rw [if_neg hu, if_neg (fun e => hu e.symm)]
          refine ⟨(ih u).1, ?_⟩
          rw [(ih u).2]
          grind
theorem sumsTo_congr {t : Nat → U} {l l' : Nat → A} {uo : A → Int} : ∀ {m : Nat}, (∀ i, i < m → l i = l' i) → sumsTo t l uo m = sumsTo t l' uo m
  | 0, _ => rfl
  | m + 1, h => by
    simp only [sumsTo]
    rw [sumsTo_congr (m := m) fun i hi => h i (by omega), h m (by omega)]
theorem sumsTo_low {t : Nat → U} {l : Nat → A} {uo : A → Int} {i m : Nat} (hi : i ≤ m) (h : (sumsTo t l uo m).2 = 0) : (sumsTo t l uo i).2 = 0 := by
  by_cases hh : (sumsTo t l uo i).2 = 0
  · exact hh
  · rw [sumsTo_err hh m hi] at h; exact absurd h hh
/-- What Sum asks for. -/
def sumOk (t : Nat → U) (n : Nat) (l : Nat → A) (m : Nat) (to : Int) : Prop :=
  (validR t n).2 = true ∧ (0 ≤ to ∧ to < n) ∧ ∀ i, i < m → ((0 ≤ (l i).unit ∧ (l i).unit < n) ∧ qOk (l i).val = true) ∧ (t (l i).unit.toNat).base = (t to.toNat).base
theorem acceptsR_iff {t : Nat → U} {n m : Nat} {l : Nat → A} : acceptsR t n l m = true ↔ (validR t n).2 = true ∧ ∀ i, i < m → (0 ≤ (l i).unit ∧ (l i).unit < n) ∧ qOk (l i).val = true := by
  refine ⟨acceptsR_ok, fun ⟨h1, h2⟩ => ?_⟩
  simp only [acceptsR, Bool.and_eq_true, List.all_eq_true, List.mem_range]
  exact ⟨h1, fun i hi => aOk_and.2 (h2 i hi)⟩
theorem sumR_pre {t : Nat → U} {n : Nat} {l : Nat → A} {m : Nat} {to : Int} (h : sumOk t n l m to) : sumR t n l m to = if (sumsTo t l (fun _ => to) m).2 ≠ 0 then (zA, (sumsTo t l (fun _ => to) m).2) else (⟨to, (sumsTo t l (fun _ => to) m).1 to.toNat⟩, 0) := by
  obtain ⟨h1, h2, h3⟩ := h
  have hacc : (acceptsR t n l m && (decide (0 ≤ to) && decide (to < n))) = true := by
    rw [acceptsR_iff.2 ⟨h1, fun i hi => (h3 i hi).1⟩]; simp [h2]
  have hall : (List.range m).all (fun i => (t (l i).unit.toNat).base == (t to.toNat).base) = true := by
    simp only [List.all_eq_true, List.mem_range, beq_iff_eq]
    exact fun i hi => (h3 i hi).2
  unfold sumR
  rw [if_pos hacc, if_pos hall]
theorem sumR_sumOk {t : Nat → U} {n : Nat} {l : Nat → A} {m : Nat} {to : Int} (h : (sumR t n l m to).2 = 0) : sumOk t n l m to := by
  unfold sumR at h
  split at h
  · rename_i hc
    simp only [Bool.and_eq_true, decide_eq_true_eq] at hc
    split at h
    · rename_i hb
      simp only [List.all_eq_true, List.mem_range, beq_iff_eq] at hb
      obtain ⟨h1, h2⟩ := acceptsR_iff.1 hc.1
      exact ⟨h1, hc.2, fun i hi => ⟨h2 i hi, hb i hi⟩⟩
    · simp at h
  · simp at h
theorem sumOk.pre {t : Nat → U} {n : Nat} {l : Nat → A} {m : Nat} {to : Int} (h : sumOk t n l m to) : sumPre t l (fun _ => to) m := by
  obtain ⟨h1, h2, h3⟩ := h
  exact fun i hi => ⟨(h3 i hi).1.2, (validR_ok h1 _ (toNat_lt (h3 i hi).1.1)).fac, (validR_ok h1 _ (toNat_lt h2)).fac⟩
theorem sumR_ok {t : Nat → U} {n : Nat} {l : Nat → A} {m : Nat} {to : Int} (h : (sumR t n l m to).2 = 0) :
    (sumR t n l m to).1.unit = to ∧ qOk (sumR t n l m to).1.val = true ∧ rt (sumR t n l m to).1.val = S (fun i => convX t (l i) to) m := by
  have hp := sumR_sumOk h
  rw [sumR_pre hp] at h ⊢
  split at h
  · rename_i h1; exact absurd h h1
  · rename_i h1
    rw [if_neg h1]
    have h1 : (sumsTo t l (fun _ => to) m).2 = 0 := by simpa using h1
    obtain ⟨q1, q2⟩ := sumsTo_val hp.pre h1 to.toNat
    refine ⟨rfl, q1, q2.trans ?_⟩
    exact S_congr fun i _ => if_pos rfl
theorem sumR_err {t : Nat → U} {n : Nat} {l : Nat → A} {m : Nat} {to : Int} (h : (sumR t n l m to).2 ≠ 0) : (sumR t n l m to).1 = zA := by
  unfold sumR at h ⊢
  split
  · split
    · split
      · rfl
      · rename_i h1 h2 h3
        rw [if_pos h1, if_pos h2, if_neg h3] at h
        simp at h
    · rfl
  · rfl
/-- Of a list that has a sum, its first part has one. -/
theorem sumR_low {t : Nat → U} {n : Nat} {l l' : Nat → A} {i m : Nat} {to : Int} (hi : i ≤ m) (hl : ∀ j, j < i → l' j = l j) (h : (sumR t n l m to).2 = 0) : (sumR t n l' i to).2 = 0 := by
  have hp := sumR_sumOk h
  have hp' : sumOk t n l' i to := ⟨hp.1, hp.2.1, fun j hj => by rw [hl j hj]; exact hp.2.2 j (by omega)⟩
  rw [sumR_pre hp] at h
  rw [sumR_pre hp']
  split at h
  · rename_i h1; exact absurd h h1
  · rename_i h1
    have h1 : (sumsTo t l (fun _ => to) m).2 = 0 := by simpa using h1
    have h2 := sumsTo_low hi h1
    rw [← sumsTo_congr (l := l') hl] at h2
    rw [if_neg (by simpa using h2)]
/-- The sum of two values of one unit. -/
theorem sumR_two {t : Nat → U} {n : Nat} {a b c : Q} {to : Int} {l : Nat → A} (h1 : (validR t n).2 = true) (h2 : 0 ≤ to ∧ to < n) (ha : qOk a = true) (hb : qOk b = true) (hc : qOk c = true) (h0 : l 0 = ⟨to, a⟩) (hl1 : l 1 = ⟨to, b⟩) (h : rt a + rt b = rt c) : sumR t n l 2 to = (⟨to, c⟩, 0) := by
  have hp : sumOk t n l 2 to := ⟨h1, h2, fun i hi => by
    match i with
    | 0 => rw [h0]; exact ⟨⟨h2, ha⟩, rfl⟩
    | 1 => rw [hl1]; exact ⟨⟨h2, hb⟩, rfl⟩⟩
  have hf := (validR_ok h1 _ (toNat_lt h2)).fac
  have g := rt_ne hf
  have v : ∀ q, qOk q = true → valR q (t to.toNat).fac (t to.toNat).fac = (q, 0) := by
    intro q hq
    rw [valR_toQ hq hf hf]
    have : rt q * rt (t to.toNat).fac / rt (t to.toNat).fac = rt q := by grind
    rw [this, toQ_rt hq]
  have e1 : sumsTo t l (fun _ => to) 1 = (setQ (fun _ => (0, 1)) to.toNat a, 0) := by
    simp only [sumsTo, h0, v a ha, ne_eq, not_true_eq_false, if_false]
    rw [addR_val (a := (0, 1)) (b := a) (q := a) zeroQ_ok ha ha (by rw [rt_zero]; grind)]
  have e2 : sumsTo t l (fun _ => to) 2 = (setQ (setQ (fun _ => (0, 1)) to.toNat a) to.toNat c, 0) := by
    show (if (sumsTo t l (fun _ => to) 1).2 ≠ 0 then _ else _) = _
    simp only [e1, hl1, v b hb, ne_eq, not_true_eq_false, if_false]
    have : setQ (fun _ => ((0 : Int), (1 : Int))) to.toNat a to.toNat = a := by simp [setQ]
    rw [this, addR_val ha hb hc h]
  rw [sumR_pre hp, e2]
  simp [setQ]
end Go.Proofs.Ytbheoblmfjjaaaa
end
