/- Sums and baskets, in rational numbers. -/
import Derived.Test.YtoeghbhlklnajaaM6
namespace Go.Proofs.Ytoeghbhlklnajaa
open Go.Eng

/-- The sum of the first n numbers of a row. -/
def S (g : Nat → Rat) : Nat → Rat
  | 0 => 0
  | n + 1 => S g n + g n
theorem S_congr {g h : Nat → Rat} : ∀ {n : Nat}, (∀ i, i < n → g i = h i) → S g n = S h n
  | 0, _ => rfl
  | n + 1, hh => by
    simp only [S]
    rw [S_congr (fun i hi => hh i (by omega)), hh n (by omega)]
theorem S_cat (g : Nat → Rat) (n : Nat) : ∀ m, S g (n + m) = S g n + S (fun j => g (n + j)) m
  | 0 => by
    show S g n = S g n + 0
    grind
  | m + 1 => by
    show S g (n + m) + g (n + m) = S g n + (S (fun j => g (n + j)) m + g (n + m))
    rw [S_cat g n m]
    grind
theorem S_head (g : Nat → Rat) (n : Nat) : S g (n + 1) = g 0 + S (fun j => g (j + 1)) n := by
  rw [Nat.add_comm n 1, S_cat g 1 n]
  have : S g 1 = g 0 := by
    show (0 : Rat) + g 0 = g 0
    grind
  rw [this]
  congr 1
  exact S_congr fun i _ => by rw [Nat.add_comm]
theorem S_rev : ∀ (n : Nat) (g : Nat → Rat), S (fun j => g (n - 1 - j)) n = S g n
  | 0, _ => rfl
  | n + 1, g => by
    rw [S_head g n]
    show S (fun j => g (n + 1 - 1 - j)) n + g (n + 1 - 1 - n) = _
    have h1 : S (fun j => g (n + 1 - 1 - j)) n = S (fun j => g (j + 1)) n := by
      rw [← S_rev n (fun j => g (j + 1))]
      refine S_congr fun i hi => ?_
      show g _ = g _
      congr 1
      omega
    rw [h1]
    have h2 : n + 1 - 1 - n = 0 := by omega
    rw [h2]
    grind
theorem S_zero {g : Nat → Rat} {n : Nat} (h : ∀ i, i < n → g i = 0) : S g n = 0 := by
  induction n with
  | zero => rfl
  | succ n ih =>
    simp only [S]
    rw [ih fun i hi => h i (by omega), h n (by omega)]
    grind

/-- What a conversion of each amount asks for. -/
def sumPre (t : Nat → U) (l : Nat → A) (uo : A → Int) (m : Nat) : Prop := ∀ i, i < m → qOk (l i).val = true ∧ fOk (t (l i).unit.toNat).fac ∧ fOk (t (uo (l i)).toNat).fac
theorem zeroQ_ok : qOk (0, 1) = true := by decide
theorem rt_zero : rt (0, 1) = 0 := by decide +kernel
theorem sumsTo_val {t : Nat → U} {l : Nat → A} {uo : A → Int} : ∀ {m : Nat}, sumPre t l uo m → (sumsTo t l uo m).2 = 0 →
    ∀ u, qOk ((sumsTo t l uo m).1 u) = true ∧ rt ((sumsTo t l uo m).1 u) = S (fun i => if (uo (l i)).toNat = u then convX t (l i) (uo (l i)) else 0) m
  | 0, _, _, u => ⟨zeroQ_ok, rt_zero⟩
  | m + 1, hp, h, u => by
    simp only [sumsTo] at h ⊢
    split at h
    · rename_i h1; exact absurd h h1
    · rename_i h1
      rw [if_neg h1]
      have h1 : (sumsTo t l uo m).2 = 0 := by simpa using h1
      have ih := sumsTo_val (m := m) (fun i hi => hp i (by omega)) h1
      obtain ⟨p1, p2, p3⟩ := hp m (by omega)
      rw [valR_toQ p1 p2 p3] at h ⊢
      split at h
      · rename_i h2; exact absurd h h2
      · rename_i h2
        rw [if_neg h2]
        have h2 : (toQ (rt (l m).val * rt (t (l m).unit.toNat).fac / rt (t (uo (l m)).toNat).fac)).2 = 0 := by simpa using h2
        obtain ⟨k1, k2⟩ := toQ_ok h2
        simp only at h
        obtain ⟨_, a1, a2⟩ := addR_ok h
        simp only [setQ, S]
        by_cases hu : u = (uo (l m)).toNat
        · subst hu
          rw [if_pos rfl, if_pos rfl]
          refine ⟨a1, ?_⟩
          rw [a2, k2, (ih _).2]
          rfl
        · rw [if_neg hu, if_neg (fun e => hu e.symm)]
          refine ⟨(ih u).1, ?_⟩
          rw [(ih u).2]
          grind
theorem sumsTo_congr {t : Nat → U} {l l' : Nat → A} {uo : A → Int} : ∀ {m : Nat}, (∀ i, i < m → l i = l' i) → sumsTo t l uo m = sumsTo t l' uo m
  | 0, _ => rfl
  | m + 1, h => by
    simp only [sumsTo]
    rw [sumsTo_congr (m := m) fun i hi => h i (by omega), h m (by omega)]
theorem sumsTo_low {t : Nat → U} {l : Nat → A} {uo : A → Int} {i m : Nat} (hi : i ≤ m) (h : (sumsTo t l uo m).2 = 0) : (sumsTo t l uo i).2 = 0 := by
  by_cases hh : (sumsTo t l uo i).2 = 0
  · exact hh
  · rw [sumsTo_err hh m hi] at h; exact absurd h hh

/-- What Sum asks for. -/
def sumOk (t : Nat → U) (n : Nat) (l : Nat → A) (m : Nat) (to : Int) : Prop :=
  (validR t n).2 = true ∧ (0 ≤ to ∧ to < n) ∧ ∀ i, i < m → ((0 ≤ (l i).unit ∧ (l i).unit < n) ∧ qOk (l i).val = true) ∧ (t (l i).unit.toNat).base = (t to.toNat).base
theorem acceptsR_iff {t : Nat → U} {n m : Nat} {l : Nat → A} : acceptsR t n l m = true ↔ (validR t n).2 = true ∧ ∀ i, i < m → (0 ≤ (l i).unit ∧ (l i).unit < n) ∧ qOk (l i).val = true := by
  refine ⟨acceptsR_ok, fun ⟨h1, h2⟩ => ?_⟩
  simp only [acceptsR, Bool.and_eq_true, List.all_eq_true, List.mem_range]
  exact ⟨h1, fun i hi => aOk_and.2 (h2 i hi)⟩
theorem sumR_pre {t : Nat → U} {n : Nat} {l : Nat → A} {m : Nat} {to : Int} (h : sumOk t n l m to) : sumR t n l m to = if (sumsTo t l (fun _ => to) m).2 ≠ 0 then (zA, (sumsTo t l (fun _ => to) m).2) else (⟨to, (sumsTo t l (fun _ => to) m).1 to.toNat⟩, 0) := by
  obtain ⟨h1, h2, h3⟩ := h
  have hacc : (acceptsR t n l m && (decide (0 ≤ to) && decide (to < n))) = true := by
    rw [acceptsR_iff.2 ⟨h1, fun i hi => (h3 i hi).1⟩]; simp [h2]
  have hall : (List.range m).all (fun i => (t (l i).unit.toNat).base == (t to.toNat).base) = true := by
    simp only [List.all_eq_true, List.mem_range, beq_iff_eq]
    exact fun i hi => (h3 i hi).2
  unfold sumR
  rw [if_pos hacc, if_pos hall]
theorem sumR_sumOk {t : Nat → U} {n : Nat} {l : Nat → A} {m : Nat} {to : Int} (h : (sumR t n l m to).2 = 0) : sumOk t n l m to := by
  unfold sumR at h
  split at h
  · rename_i hc
    simp only [Bool.and_eq_true, decide_eq_true_eq] at hc
    split at h
    · rename_i hb
      simp only [List.all_eq_true, List.mem_range, beq_iff_eq] at hb
      obtain ⟨h1, h2⟩ := acceptsR_iff.1 hc.1
      exact ⟨h1, hc.2, fun i hi => ⟨h2 i hi, hb i hi⟩⟩
    · simp at h
  · simp at h
theorem sumOk.pre {t : Nat → U} {n : Nat} {l : Nat → A} {m : Nat} {to : Int} (h : sumOk t n l m to) : sumPre t l (fun _ => to) m := by
  obtain ⟨h1, h2, h3⟩ := h
  exact fun i hi => ⟨(h3 i hi).1.2, (validR_ok h1 _ (toNat_lt (h3 i hi).1.1)).fac, (validR_ok h1 _ (toNat_lt h2)).fac⟩
theorem sumR_ok {t : Nat → U} {n : Nat} {l : Nat → A} {m : Nat} {to : Int} (h : (sumR t n l m to).2 = 0) :
    (sumR t n l m to).1.unit = to ∧ qOk (sumR t n l m to).1.val = true ∧ rt (sumR t n l m to).1.val = S (fun i => convX t (l i) to) m := by
  have hp := sumR_sumOk h
  rw [sumR_pre hp] at h ⊢
  split at h
  · rename_i h1; exact absurd h h1
  · rename_i h1
    rw [if_neg h1]
    have h1 : (sumsTo t l (fun _ => to) m).2 = 0 := by simpa using h1
    obtain ⟨q1, q2⟩ := sumsTo_val hp.pre h1 to.toNat
    refine ⟨rfl, q1, q2.trans ?_⟩
    exact S_congr fun i _ => if_pos rfl
theorem sumR_err {t : Nat → U} {n : Nat} {l : Nat → A} {m : Nat} {to : Int} (h : (sumR t n l m to).2 ≠ 0) : (sumR t n l m to).1 = zA := by
  unfold sumR at h ⊢
  split
  · split
    · split
      · rfl
      · rename_i h1 h2 h3
        rw [if_pos h1, if_pos h2, if_neg h3] at h
        simp at h
    · rfl
  · rfl
/-- Of a list that has a sum, its first part has one. -/
theorem sumR_low {t : Nat → U} {n : Nat} {l l' : Nat → A} {i m : Nat} {to : Int} (hi : i ≤ m) (hl : ∀ j, j < i → l' j = l j) (h : (sumR t n l m to).2 = 0) : (sumR t n l' i to).2 = 0 := by
  have hp := sumR_sumOk h
  have hp' : sumOk t n l' i to := ⟨hp.1, hp.2.1, fun j hj => by rw [hl j hj]; exact hp.2.2 j (by omega)⟩
  rw [sumR_pre hp] at h
  rw [sumR_pre hp']
  split at h
  · rename_i h1; exact absurd h h1
  · rename_i h1
    have h1 : (sumsTo t l (fun _ => to) m).2 = 0 := by simpa using h1
    have h2 := sumsTo_low hi h1
    rw [← sumsTo_congr (l := l') hl] at h2
    rw [if_neg (by simpa using h2)]
/-- The sum of two values of one unit. -/
theorem sumR_two {t : Nat → U} {n : Nat} {a b c : Q} {to : Int} {l : Nat → A} (h1 : (validR t n).2 = true) (h2 : 0 ≤ to ∧ to < n) (ha : qOk a = true) (hb : qOk b = true) (hc : qOk c = true) (h0 : l 0 = ⟨to, a⟩) (hl1 : l 1 = ⟨to, b⟩) (h : rt a + rt b = rt c) : sumR t n l 2 to = (⟨to, c⟩, 0) := by
  have hp : sumOk t n l 2 to := ⟨h1, h2, fun i hi => by
    match i with
    | 0 => rw [h0]; exact ⟨⟨h2, ha⟩, rfl⟩
    | 1 => rw [hl1]; exact ⟨⟨h2, hb⟩, rfl⟩⟩
  have hf := (validR_ok h1 _ (toNat_lt h2)).fac
  have g := rt_ne hf
  have v : ∀ q, qOk q = true → valR q (t to.toNat).fac (t to.toNat).fac = (q, 0) := by
    intro q hq
    rw [valR_toQ hq hf hf]
    have : rt q * rt (t to.toNat).fac / rt (t to.toNat).fac = rt q := by grind
    rw [this, toQ_rt hq]
  have e1 : sumsTo t l (fun _ => to) 1 = (setQ (fun _ => (0, 1)) to.toNat a, 0) := by
    simp only [sumsTo, h0, v a ha, ne_eq, not_true_eq_false, if_false]
    rw [addR_val (a := (0, 1)) (b := a) (q := a) zeroQ_ok ha ha (by rw [rt_zero]; grind)]
  have e2 : sumsTo t l (fun _ => to) 2 = (setQ (setQ (fun _ => (0, 1)) to.toNat a) to.toNat c, 0) := by
    show (if (sumsTo t l (fun _ => to) 1).2 ≠ 0 then _ else _) = _
    simp only [e1, hl1, v b hb, ne_eq, not_true_eq_false, if_false]
    have : setQ (fun _ => ((0 : Int), (1 : Int))) to.toNat a to.toNat = a := by simp [setQ]
    rw [this, addR_val ha hb hc h]
  rw [sumR_pre hp, e2]
  simp [setQ]
end Go.Proofs.Ytoeghbhlklnajaa
