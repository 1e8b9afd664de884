import Derived.Test.YtiiegpjpckkohaaPM
import Derived.Test.YtiiegpjpckkohaaPQ
section
/- The balance of damages without interest is the set-off. -/
namespace Go.Proofs.Ytiiegpjpckkohaa
open Go.Eng
set_option maxRecDepth 10000
set_option linter.unusedSimpArgs false
set_option linter.unusedVariables false
theorem day_lt {k : K} (hw : kW k) {l : List Int} (h : checkR k l = 0) : ∀ i, i < l.length → daysTo l i < k.days := by
  obtain ⟨h1, h2, h3, h4⟩ := checkR_ok hw h
  have hd := h1.facts.days
  have hne : ∀ i, i < l.length → daysTo l i ≠ k.days := by
    intro i hi he
    have g1 := stepErr_mono l.length (i + 1) hi h4
    have g2 := stepErr_mono l.length i (by omega) h4
    simp only [stepErr, g2, ne_eq, not_true_eq_false, if_false, he] at g1
    split at g1 <;> simp at g1
  intro i
  induction i with
  | zero => intro _; show (0 : Int) < _; omega
  | succ i ih =>
    intro hi
    have g1 := ih (by omega)
    have g2 := hne (i + 1) hi
    have g3 : daysTo l (i + 1) ≤ daysTo l i + 1 := by simp only [daysTo]; split <;> omega
    omega
/-- A clause's part in the balance is its part in the set-off. -/
theorem gX_sX {k : K} {l : List Int} {t : Tm} (hr : t.rate = (0, 1)) {out : Nat → Oc} {a b d : Int} (hab : a ≠ b) {i : Nat} (hd : (out i).status = 4 → daysTo l ((out i).to - 1).toNat < d) :
    gX k t (claimAt k l out a b d) i - gX k t (claimAt k l out b a d) i = sX k t.unit (setAt k l out a b) i := by
  have e0 : rt t.rate = 0 := by rw [hr]; exact rt_zero
  unfold gX sX claimAt setAt
  by_cases h1 : (out i).status ≠ 4 ∨ (clAt k i).unit = -1
  · rw [if_pos (by rcases h1 with h | h; exact .inl h; exact .inr (.inl h)), if_pos (by rcases h1 with h | h; exact .inl h; exact .inr (.inl h)), if_pos (by rcases h1 with h | h; exact .inl h; exact .inr (.inl h))]
    simp
    grind
  · have h4 : (out i).status = 4 := Decidable.not_not.1 fun h => h1 (.inl h)
    have hdd := hd h4
    have hnd : ¬ d ≤ daysTo l ((out i).to - 1).toNat := by omega
    have hu : ¬ (clAt k i).unit = -1 := fun h => h1 (.inr h)
    generalize (holdTo k l (clAt k i).to (out i).to.toNat).1 = hh
    generalize daysTo l ((out i).to - 1).toNat = dd at *
    generalize (out i).bearer = be at *
    have hba : ¬ b = a := fun h => hab h.symm
    have hda : dd < d := hdd
    by_cases ha : be = a
    · subst ha
      by_cases hb : hh = b
      · subst hb
        simp [h4, hu, hda, hab, hba, prX, e0]
        try grind
      · by_cases hc : hh = be
        · subst hc
          simp [h4, hu, hda, hab, hba, prX, e0]
          try grind
        · simp [h4, hu, hda, hab, hba, hb, hc, prX, e0]
          try grind
    · by_cases hb : be = b
      · subst hb
        by_cases hc : hh = a
        · subst hc
          simp [h4, hu, hda, hab, hba, prX, e0]
          try grind
        · by_cases hd2 : hh = be
          · subst hd2
            simp [h4, hu, hda, hab, hba, hc, prX, e0]
            try grind
          · simp [h4, hu, hda, hab, hba, hc, hd2, prX, e0]
            try grind
      · simp [h4, hu, hda, ha, hb, hab, hba, prX, e0]
        try grind
theorem S_sub {f g h : Nat → Rat} : ∀ {n : Nat}, (∀ i, i < n → f i - g i = h i) → S f n - S g n = S h n
  | 0, _ => by simp [S]; grind
  | n + 1, hh => by
    have h1 := S_sub (f := f) (g := g) (h := h) (n := n) fun i hi => hh i (by omega)
    have h2 := hh n (by omega)
    rw [S_succ, S_succ, S_succ, ← h1, ← h2]
    grind
theorem balance_zero {k : K} {l : List Int} {t : Tm} {a b u : Int} (h : (balanceR k l t a b u).2 = 0) : (damagesR k l t a b u).2 = 0 ∧ (damagesR k l t b a u).2 = 0 ∧ (subR (damagesR k l t a b u).1.val (damagesR k l t b a u).1.val).2 = 0 ∧ balanceR k l t a b u = (⟨t.unit, (subR (damagesR k l t a b u).1.val (damagesR k l t b a u).1.val).1⟩, 0) := by
  unfold balanceR at h ⊢
  split at h
  · exact absurd h ‹_›
  · rename_i h1
    rw [if_neg h1]
    split at h
    · exact absurd h ‹_›
    · rename_i h2
      rw [if_neg h2]
      split at h
      · exact absurd h ‹_›
      · rename_i h3
        rw [if_neg h3]
        exact ⟨by simpa using h1, by simpa using h2, by simpa using h3, rfl⟩
/-- On the last day, without interest and cap. -/
theorem bal_set {k : K} (hw : kW k) {l : List Int} {t : Tm} (hr : t.rate = (0, 1)) (hcap : t.cap.1 < 0) {a b : Int} (h1 : (balanceR k l t a b k.days).2 = 0) (h2 : (setOffR k l a b t.unit).2 = 0) : balanceR k l t a b k.days = setOffR k l a b t.unit := by
  obtain ⟨d1, d2, d3, d4⟩ := balance_zero h1
  obtain ⟨s1, s2, s3, s4⟩ := setOff_val h2
  obtain ⟨c1, c2, c3⟩ := damages_zero d1
  obtain ⟨_, q1, q2⟩ := subR_ok d3
  obtain ⟨g1, g2⟩ := checkR_ok hw c1
  refine Prod.ext (A.ext2 ?_ ?_) (by rw [h1, h2])
  · rw [d4, s1]
  · rw [d4]
    refine rt_inj q1 s2 ?_
    rw [q2, (dam_free d1 hcap).2, (dam_free d2 hcap).2, s3]
    refine S_sub fun i hi => gX_sX hr (asked_valid c2).2.2.2.2.1 fun h4 => ?_
    have hf := failed_to g1.facts g2.1 hi (Nat.le_refl _) (by have := g2.2.1; omega) h4
    exact day_lt hw c1 _ (by omega)
end Go.Proofs.Ytiiegpjpckkohaa
end
