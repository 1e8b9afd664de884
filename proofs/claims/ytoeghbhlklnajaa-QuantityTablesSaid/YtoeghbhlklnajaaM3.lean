/- Products of three numbers, and the fraction that is left when common divisors are gone: no program in sight. -/
import Derived.Test.YtoeghbhlklnajaaM2
namespace Go.Proofs.Ytoeghbhlklnajaa
open Go.Eng

theorem frac_unique {p q N D : Nat} (hc : Nat.gcd p q = 1) (hq : 0 < q) (hD : 0 < D) (h : p * D = q * N) : p = N / Nat.gcd N D ∧ q = D / Nat.gcd N D := by
  have hg : 0 < Nat.gcd N D := Nat.gcd_pos_of_pos_right _ hD
  obtain ⟨n, hn⟩ := Nat.gcd_dvd_left N D
  obtain ⟨d, hd⟩ := Nat.gcd_dvd_right N D
  have hnd : Nat.gcd n d = 1 := by
    have := Nat.gcd_mul_left (Nat.gcd N D) n d
    rw [← hn, ← hd] at this
    exact Nat.eq_of_mul_eq_mul_left hg (by rw [← this, Nat.mul_one])
  have e1 : N / Nat.gcd N D = n := by
    rw [Nat.div_eq_of_eq_mul_right hg hn]
  have e2 : D / Nat.gcd N D = d := by
    rw [Nat.div_eq_of_eq_mul_right hg hd]
  rw [e1, e2]
  have hd0 : 0 < d := by
    rcases Nat.eq_zero_or_pos d with h0 | h0
    · rw [h0, Nat.mul_zero] at hd; omega
    · exact h0
  have h2 : p * d = q * n := by
    have : Nat.gcd N D * (p * d) = Nat.gcd N D * (q * n) := by
      have a1 : Nat.gcd N D * (p * d) = p * (Nat.gcd N D * d) := by rw [Nat.mul_left_comm]
      have a2 : Nat.gcd N D * (q * n) = q * (Nat.gcd N D * n) := by rw [Nat.mul_left_comm]
      rw [a1, a2, ← hd, ← hn]; exact h
    exact Nat.eq_of_mul_eq_mul_left hg this
  have k1 : d ∣ q := by
    have : d ∣ q * n := ⟨p, by rw [← h2, Nat.mul_comm]⟩
    exact (Nat.Coprime.dvd_of_dvd_mul_right (show Nat.Coprime d n by rw [Nat.Coprime, Nat.gcd_comm]; exact hnd) this)
  have k2 : q ∣ d := by
    have : q ∣ d * p := ⟨n, by rw [← h2, Nat.mul_comm]⟩
    exact (Nat.Coprime.dvd_of_dvd_mul_right (show Nat.Coprime q p by rw [Nat.Coprime, Nat.gcd_comm]; exact hc) this)
  have hqd : q = d := Nat.dvd_antisymm k2 k1
  subst hqd
  refine ⟨?_, rfl⟩
  rw [Nat.mul_comm] at h2
  exact Nat.eq_of_mul_eq_mul_left hq h2

def P3 (x : Nat → Nat) : Nat := x 0 * x 1 * x 2
def setN (f : Nat → Nat) (i : Nat) (v : Nat) : Nat → Nat := fun j => if j = i then v else f j
theorem P3_set {x : Nat → Nat} {i g : Nat} (hi : i < 3) (hg : g ∣ x i) : P3 (setN x i (x i / g)) * g = P3 x := by
  obtain ⟨c, hc⟩ := hg
  rcases Nat.eq_zero_or_pos g with h0 | h0
  · subst h0
    have hx : x i = 0 := by simpa using hc
    match i, hi with
    | 0, _ => simp [P3, hx]
    | 1, _ => simp [P3, hx]
    | 2, _ => simp [P3, hx]
  · have e : x i / g = c := by rw [Nat.div_eq_of_eq_mul_right h0 hc]
    rw [e]
    match i, hi with
    | 0, _ => simp only [P3, setN]; rw [hc]; simp; grind
    | 1, _ => simp only [P3, setN]; rw [hc]; simp; grind
    | 2, _ => simp only [P3, setN]; rw [hc]; simp; grind

/-- Halfway: pairs ahead of (i, j) have no common divisor left. -/
structure Half (N D B : Nat) (x y : Nat → Nat) (i j : Nat) : Prop where
  pos : ∀ k, k < 3 → 0 < y k
  px : ∀ k, 0 < k → k < 3 → 0 < x k
  bx : ∀ k, k < 3 → x k ≤ B
  by_ : ∀ k, k < 3 → y k ≤ B
  eq : P3 x * D = P3 y * N
  done : ∀ i' j', i' < 3 → j' < 3 → (i' < i ∨ i' = i ∧ j' < j) → Nat.gcd (x i') (y j') = 1

theorem gcd_one_of_dvd {a b c d : Nat} (h : Nat.gcd a b = 1) (h1 : c ∣ a) (h2 : d ∣ b) : Nat.gcd c d = 1 :=
  Nat.eq_one_of_dvd_one (h ▸ Nat.dvd_gcd (Nat.dvd_trans (Nat.gcd_dvd_left c d) h1) (Nat.dvd_trans (Nat.gcd_dvd_right c d) h2))

theorem Half.step {N D B : Nat} {x y : Nat → Nat} {i j : Nat} (h : Half N D B x y i j) (hi : i < 3) (hj : j < 3) : Half N D B (setN x i (x i / Nat.gcd (x i) (y j))) (setN y j (y j / Nat.gcd (x i) (y j))) i (j + 1) := by
  have hg : 0 < Nat.gcd (x i) (y j) := Nat.gcd_pos_of_pos_right _ (h.pos j hj)
  have dx : ∀ k, setN x i (x i / Nat.gcd (x i) (y j)) k ∣ x k := fun k => by
    unfold setN
    split
    · rename_i e; subst e; exact Nat.div_dvd_of_dvd (Nat.gcd_dvd_left _ _)
    · exact Nat.dvd_refl _
  have dy : ∀ k, setN y j (y j / Nat.gcd (x i) (y j)) k ∣ y k := fun k => by
    unfold setN
    split
    · rename_i e; subst e; exact Nat.div_dvd_of_dvd (Nat.gcd_dvd_right _ _)
    · exact Nat.dvd_refl _
  refine ⟨fun k hk => Nat.pos_of_dvd_of_pos (dy k) (h.pos k hk), fun k h0 hk => Nat.pos_of_dvd_of_pos (dx k) (h.px k h0 hk), fun k hk => ?_, fun k hk => Nat.le_trans (Nat.le_of_dvd (h.pos k hk) (dy k)) (h.by_ k hk), ?_, fun i' j' hi' hj' hlt => ?_⟩
  · unfold setN
    split
    · rename_i e; subst e; exact Nat.le_trans (Nat.div_le_self _ _) (h.bx k hk)
    · exact h.bx k hk
  · have e1 := P3_set hi (Nat.gcd_dvd_left (x i) (y j))
    have e2 := P3_set hj (Nat.gcd_dvd_right (x i) (y j))
    have := h.eq
    rw [← e1, ← e2] at this
    generalize P3 (setN x i (x i / Nat.gcd (x i) (y j))) = a at *
    generalize P3 (setN y j (y j / Nat.gcd (x i) (y j))) = b at *
    generalize Nat.gcd (x i) (y j) = g at *
    refine Nat.eq_of_mul_eq_mul_left hg ?_
    rw [Nat.mul_right_comm, Nat.mul_right_comm b] at this
    rw [Nat.mul_comm g, Nat.mul_comm g]
    exact this
  · by_cases hij : i' = i ∧ j' = j
    · obtain ⟨rfl, rfl⟩ := hij
      simp only [setN, if_true]
      rw [Nat.gcd_div (Nat.gcd_dvd_left _ _) (Nat.gcd_dvd_right _ _)]
      exact Nat.div_self hg
    · exact gcd_one_of_dvd (h.done i' j' hi' hj' (by omega)) (dx i') (dy j')
theorem Half.next {N D B : Nat} {x y : Nat → Nat} {i : Nat} (h : Half N D B x y i 3) : Half N D B x y (i + 1) 0 :=
  ⟨h.pos, h.px, h.bx, h.by_, h.eq, fun i' j' hi' hj' hlt => h.done i' j' hi' hj' (by omega)⟩
theorem Half.cop {N D B : Nat} {x y : Nat → Nat} (h : Half N D B x y 3 0) : Nat.gcd (P3 x) (P3 y) = 1 := by
  have hc : ∀ i j, i < 3 → j < 3 → Nat.Coprime (x i) (y j) := fun i j hi hj => h.done i j hi hj (by omega)
  have row : ∀ i, i < 3 → Nat.Coprime (x i) (P3 y) := fun i hi => Nat.Coprime.mul_right (Nat.Coprime.mul_right (hc i 0 hi (by omega)) (hc i 1 hi (by omega))) (hc i 2 hi (by omega))
  exact Nat.Coprime.mul_left (Nat.Coprime.mul_left (row 0 (by omega)) (row 1 (by omega))) (row 2 (by omega))
theorem Half.end_ {N D B : Nat} {x y : Nat → Nat} (h : Half N D B x y 3 0) (hD : 0 < D) : P3 x = N / Nat.gcd N D ∧ P3 y = D / Nat.gcd N D := by
  have hc : ∀ i j, i < 3 → j < 3 → Nat.Coprime (x i) (y j) := fun i j hi hj => h.done i j hi hj (by omega)
  have hpos : 0 < P3 y := Nat.mul_pos (Nat.mul_pos (h.pos 0 (by omega)) (h.pos 1 (by omega))) (h.pos 2 (by omega))
  refine frac_unique ?_ hpos hD h.eq
  have row : ∀ i, i < 3 → Nat.Coprime (x i) (P3 y) := fun i hi => Nat.Coprime.mul_right (Nat.Coprime.mul_right (hc i 0 hi (by omega)) (hc i 1 hi (by omega))) (hc i 2 hi (by omega))
  exact Nat.Coprime.mul_left (Nat.Coprime.mul_left (row 0 (by omega)) (row 1 (by omega))) (row 2 (by omega))

/-- What value returns: v * f / d in lowest terms. -/
def valN (v f : Q) (d : Q) : Nat := v.1.natAbs * f.1.toNat * d.2.toNat
def valD (v f : Q) (d : Q) : Nat := v.2.toNat * f.2.toNat * d.1.toNat
def valR (v f d : Q) : Q × Int := fracR (decide (v.1 < 0)) (valN v f d) (valD v f d)
/-- A factor. -/
def fOk (f : Q) : Prop := qOk f = true ∧ 0 < f.1
def three (a b c : Nat) : Nat → Nat := fun i => if i = 0 then a else if i = 1 then b else c
theorem three_all {p : Nat → Prop} {a b c : Nat} (ha : p a) (hb : p b) (hc : p c) (k : Nat) : p (three a b c k) := by
  unfold three
  split
  · exact ha
  · split
    · exact hb
    · exact hc
theorem Half.start {v f d : Q} (hv : qOk v = true) (hf : fOk f) (hd : fOk d) : Half (valN v f d) (valD v f d) 1000000000000 (three v.1.natAbs f.1.toNat d.2.toNat) (three v.2.toNat f.2.toNat d.1.toNat) 0 0 := by
  obtain ⟨v1, v2, v3, v4, _⟩ := qOk_iff.1 hv
  obtain ⟨hf, hf0⟩ := hf
  obtain ⟨f1, f2, f3, f4, _⟩ := qOk_iff.1 hf
  obtain ⟨hd, hd0⟩ := hd
  obtain ⟨d1, d2, d3, d4, _⟩ := qOk_iff.1 hd
  refine ⟨fun k _ => three_all (p := fun x => 0 < x) (by omega) (by omega) (by omega) k, fun k h0 hk => ?_, fun k _ => three_all (p := fun x => x ≤ 1000000000000) (by omega) (by omega) (by omega) k, fun k _ => three_all (p := fun x => x ≤ 1000000000000) (by omega) (by omega) (by omega) k, ?_, fun i' j' _ _ h => by omega⟩
  · match k, h0, hk with
    | 1, _, _ => show 0 < f.1.toNat; omega
    | 2, _, _ => show 0 < d.2.toNat; omega
  show valN v f d * valD v f d = valD v f d * valN v f d
  exact Nat.mul_comm _ _
theorem valD_pos {v f d : Q} (hv : qOk v = true) (hf : fOk f) (hd : fOk d) : 0 < valD v f d := by
  obtain ⟨v1, _⟩ := qOk_iff.1 hv
  obtain ⟨f1, _⟩ := qOk_iff.1 hf.1
  have := hd.2
  exact Nat.mul_pos (Nat.mul_pos (by omega) (by omega)) (by omega)
end Go.Proofs.Ytoeghbhlklnajaa
