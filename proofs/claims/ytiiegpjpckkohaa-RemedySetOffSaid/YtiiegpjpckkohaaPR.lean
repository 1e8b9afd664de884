import Derived.Test.YtiiegpjpckkohaaPM
import Derived.Test.YtiiegpjpckkohaaPQ
section
/- The balance of damages without interest is the set-off. -/
namespace Go.Proofs.Ytiiegpjpckkohaa
open Go.Eng
set_option maxRecDepth 10000
set_option linter.unusedSimpArgs false
set_option linter.unusedVariables false
theorem day_lt {k : K} (hw : kW k) {l : List Int} (h : checkR k l = 0) : ∀ i, i < l.length → daysTo l i < k.days := by
  obtain ⟨h1, h2, h3, h4⟩ := checkR_ok hw h
  have hd := h1.facts.days
  have hne : ∀ i, i < l.length → daysTo l i ≠ k.days := by
    intro i hi he
    have g1 := stepErr_mono l.length (i + 1) hi h4
    have g2 := stepErr_mono l.length i (by omega) h4
    simp only [stepErr, g2, ne_eq, not_true_eq_false, if_false, he] at g1
    split at g1 <;> simp at g1
  intro i
  induction i with
  | zero => intro _; show (0 : Int) < _; omega
  | succ i ih =>
    intro hi
    have g1 := ih (by omega)
    have g2 := hne (i + 1) hi
    have g3 : daysTo l (i + 1) ≤ daysTo l i + 1 := by simp only [daysTo]; split <;> omega
    omega
/-- A clause's part in the balance is its part in the set-off. -/
theorem gX_sX {k : K} {l : List Int} {t : Tm} (hr : t.rate = (0, 1)) {out : Nat → Oc} {a b d : Int} (hab : a ≠ b) {i : Nat} (hd : (out i).status = 4 → daysTo l ((out i).to - 1).toNat < d) :
    gX k t (claimAt k l out a b d) i - gX k t (claimAt k l out b a d) i = sX k t.unit (setAt k l out a b) i := by
  have e0 : rt t.rate = 0 := by rw [hr]; exact rt_zero
  unfold gX sX claimAt setAt
  by_cases h1 : (out i).status ≠ 4 ∨ (clAt k i).unit = -1
  · rw [if_pos (by rcases h1 with h | h; exact .inl h; exact .inr (.inl h)), if_pos (by rcases h1 with h | h; exact .inl h; exact .inr (.inl h)), if_pos (by rcases h1 with h | h; exact .inl h; exact .inr (.inl h))]
    simp
    grind
  · have h4 : (out i).status = 4 := Decidable.not_not.1 fun h => h1 (.inl h)
    have hdd := hd h4
    have hnd : ¬ d ≤ daysTo l ((out i).to - 1).toNat := by omega
    have hu : ¬ (clAt k i).unit = -1 := fun h => h1 (.inr h)
    generalize (holdTo k l (clAt k i).to (out i).to.toNat).1 = hh
    generalize daysTo l ((out i).to - 1).toNat = dd at *
    generalize (out i).bearer = be at *
    have hba : ¬ b = a := fun h => hab h.symm
    have hda : dd < d := hdd
    by_cases ha : be = a
    · subst ha
      by_cases hb : hh = b
      · subst hb
        simp [h4, hu, hda, hab, hba, prX, e0]
        try grind
      · by_cases hc : hh = be
        · subst hc
          simp [h4, hu, hda, hab, hba, prX, e0]
          try grind
        · simp [h4, hu, hda, hab, hba, hb, hc, prX, e0]
          try grind
    · by_cases hb : be = b
      · subst hb
        by_cases hc : hh = a
        · subst hc
          simp [h4, hu, hda, hab, hba, prX, e0]
          try grind
        · by_cases hd2 : hh = be
          · subst hd2
            simp [h4, hu, hda, hab, hba, hc, prX, e0]
            try grind
          · simp [h4, hu, hda, hab, hba, hc, hd2, prX, e0]
            try grind
      · simp [h4, hu, hda, ha, hb, hab, hba, prX, e0]
        try grind
theorem S_sub {f g h : Nat → Rat} : ∀ {n : Nat}, (∀ i, i < n → f i - g i = h i) → S f n - S g n = S h n
  | 0, _ => by simp [S]; grind
  | n + 1, hh => by
    have h1 := S_sub (f := f) (g := g) (h := h) (n := n) fun i hi => hh i (by omega)
    have h2 := hh n (by omega)
    rw [S_succ, S_succ, S_succ, ← h1, ← h2]
    grind
theorem balance_zero {k : K} {l : List Int} {t : Tm} {a b u : Int} (h : (balanceR k l t a b u).2 = 0) : (damagesR k l t a b u).2 = 0 ∧ (damagesR k l t b a u).2 = 0 ∧ (subR (damagesR k l t a b u).1.val (damagesR k l t b a u).1.val).2 = 0 ∧ balanceR k l t a b u = (⟨t.unit, (subR (damagesR k l t a b u).1.val (damagesR k l t b a u).1.val).1⟩, 0) := by
  unfold balanceR at h ⊢
  split at h
  · exact absurd h ‹_›
  · rename_i h1
    rw [if_neg h1]
    split at h
    · exact absurd h ‹_›
    · rename_i h2
      rw [if_neg h2]
      split at h
      · exact absurd h ‹_›
      · rename_i h3
        rw [if_neg h3]
        exact ⟨by simpa using h1, by simpa using h2, by simpa using h3, rfl⟩
/-- On the last day, without interest and cap. -/
theorem bal_set {k : K} (hw : kW k) {l : List Int} {t : Tm} (hr : t.rate = (0, 1)) (hcap : t.cap.1 < 0) {a b : Int} (h1 : (balanceR k l t a b k.days).2 = 0) (h2 : (setOffR k l a b t.unit).2 = 0) : balanceR k l t a b k.days = setOffR k l a b t.unit := by
  obtain ⟨d1, d2, d3, d4⟩ := balance_zero h1
  obtain ⟨s1, s2, s3, s4⟩ := setOff_val h2
  obtain ⟨c1, c2, c3⟩ := damages_zero d1
  obtain ⟨_, q1, q2⟩ := subR_ok d3
  obtain ⟨g1, g2⟩ := checkR_ok hw c1
  refine Prod.ext (A.ext2 ?_ ?_) (by rw [h1, h2])
  · rw [d4, s1]
  · rw [d4]
    refine rt_inj q1 s2 ?_
    rw [q2, (dam_free d1 hcap).2, (dam_free d2 hcap).2, s3]
    refine S_sub fun i hi => gX_sX hr (asked_valid c2).2.2.2.2.1 fun h4 => ?_
    have hf := failed_to g1.facts g2.1 hi (Nat.le_refl _) (by have := g2.2.1; omega) h4
    exact day_lt hw c1 _ (by omega)
end Go.Proofs.Ytiiegpjpckkohaa
end
section
/- The errors of damages and of the set-off. -/
namespace Go.Proofs.Ytiiegpjpckkohaa
open Go.Eng
set_option maxRecDepth 10000
set_option linter.unusedSimpArgs false
set_option linter.unusedVariables false
theorem kOk.tab {k : K} (h : kOk k) : (validR (fun j => k.units.getD j default) k.units.length).2 = true := by
  obtain ⟨hw, hv⟩ := h
  unfold kValid at hv
  split at hv
  · simp at hv
  · split at hv
    · simp at hv
    · rename_i h2
      have h2 : framedB k = true := by simpa using h2
      unfold framedB at h2
      split at h2
      · cases h2
      · split at h2
        · cases h2
        · rename_i h3; simpa using h3
/-- A valid amount, to a unit of the table. -/
def cvOk (k : K) (a : A) (to : Int) : Prop := (validR (fun j => k.units.getD j default) k.units.length).2 = true ∧ aOk k.units.length a = true ∧ 0 ≤ to ∧ to < k.units.length
theorem convK_code {k : K} {a : A} {to : Int} (h : cvOk k a to) : (convK k a to).2 = 0 ∨ (convK k a to).2 = 2 ∨ (convK k a to).2 = 11 := by
  obtain ⟨h1, h2, h3, h4⟩ := h
  have hu := aOk_and.1 h2
  unfold convK convR
  rw [if_pos (by rw [acceptsOne, h1, h2]; simp [h3, h4])]
  split
  · exact .inr (.inr rfl)
  · have f1 := (validR_ok h1 _ (toNat_lt hu.1)).fac
    have f2 := (validR_ok h1 _ (toNat_lt ⟨h3, h4⟩)).fac
    rw [valR_toQ hu.2 f1 f2]
    rcases toQ_code (rt a.val * rt (k.units.getD a.unit.toNat default).fac / rt (k.units.getD to.toNat default).fac) with h5 | h5
    · rw [if_neg (by simpa using h5)]; exact .inl rfl
    · rw [if_pos (by rw [h5]; simp)]; exact .inr (.inl h5)
theorem clause_cv {k : K} (h : kOk k) {i : Nat} (hi : i < k.clauses.length) (hu : (clAt k i).unit ≠ -1) {to : Int} (ht : 0 ≤ to ∧ to < k.units.length) : cvOk k ⟨(clAt k i).unit, (clAt k i).value⟩ to := by
  refine ⟨h.tab, ?_, ht⟩
  rcases (h.facts.clB hi).2.2.2.2.2.2 with h2 | h2
  · exact absurd h2.1 hu
  · have hp := h2.2.2.2.2.1
    simp only [posB, Bool.and_eq_true] at hp
    exact aOk_and.2 ⟨h2.2.2.1, hp.2⟩
theorem claim_amt {k : K} {l : List Int} {out : Nat → Oc} {a b u : Int} {i : Nat} {c : Clm} (h : claimAt k l out a b u i = some c) : c.1 = ⟨(clAt k i).unit, (clAt k i).value⟩ ∧ (clAt k i).unit ≠ -1 ∧ (out i).status = 4 ∧ (out i).bearer = a ∧ daysTo l ((out i).to - 1).toNat < u ∧ (holdTo k l (clAt k i).to (out i).to.toNat).1 = b := by
  unfold claimAt at h
  split at h
  · cases h
  · rename_i h1
    split at h
    · cases h
    · rename_i h2
      injection h with h
      subst h
      exact ⟨rfl, fun h => h1 (.inr (.inl h)), Decidable.not_not.1 fun h => h1 (.inl h), Decidable.not_not.1 fun h => h1 (.inr (.inr (.inl h))), Int.not_le.1 fun h => h1 (.inr (.inr (.inr h))), Decidable.not_not.1 h2⟩
theorem set_amt {k : K} {l : List Int} {out : Nat → Oc} {a b : Int} {i : Nat} {c : A × Bool} (h : setAt k l out a b i = some c) : c.1 = ⟨(clAt k i).unit, (clAt k i).value⟩ ∧ (clAt k i).unit ≠ -1 ∧ (out i).status = 4 := by
  unfold setAt at h
  split at h
  · cases h
  · rename_i h1
    split at h
    · cases h
    · injection h with h
      subst h
      exact ⟨rfl, fun h => h1 (.inr (.inl h)), Decidable.not_not.1 fun h => h1 (.inl h)⟩
/-- The set-off's claims are those of both parties. -/
theorem set_claim {k : K} {l : List Int} {out : Nat → Oc} {a b d : Int} (hab : a ≠ b) {i : Nat} (hd : (out i).status = 4 → daysTo l ((out i).to - 1).toNat < d) :
    (setAt k l out a b i = none ∧ claimAt k l out a b d i = none ∧ claimAt k l out b a d i = none) ∨ (∃ c, setAt k l out a b i = some c ∧ ((∃ e, claimAt k l out a b d i = some e ∧ e.1 = c.1) ∨ (∃ e, claimAt k l out b a d i = some e ∧ e.1 = c.1))) := by
  unfold claimAt setAt
  by_cases h1 : (out i).status ≠ 4 ∨ (clAt k i).unit = -1
  · left
    rw [if_pos (by rcases h1 with h | h; exact .inl h; exact .inr (.inl h)), if_pos (by rcases h1 with h | h; exact .inl h; exact .inr (.inl h)), if_pos (by rcases h1 with h | h; exact .inl h; exact .inr (.inl h))]
    exact ⟨rfl, rfl, rfl⟩
  · have h4 : (out i).status = 4 := Decidable.not_not.1 fun h => h1 (.inl h)
    have hda := hd h4
    have hu : ¬ (clAt k i).unit = -1 := fun h => h1 (.inr h)
    generalize (holdTo k l (clAt k i).to (out i).to.toNat).1 = hh
    generalize daysTo l ((out i).to - 1).toNat = dd at *
    generalize (out i).bearer = be at *
    have hba : ¬ b = a := fun h => hab h.symm
    by_cases ha : be = a
    · subst ha
      by_cases hb : hh = b
      · subst hb
        simp [h4, hu, hda, hab, hba]
      · by_cases hc : hh = be
        · subst hc
          simp [h4, hu, hda, hab, hba]
        · simp [h4, hu, hda, hab, hba, hb, hc]
    · by_cases hb : be = b
      · subst hb
        by_cases hc : hh = a
        · subst hc
          simp [h4, hu, hda, hab, hba]
        · by_cases hd2 : hh = be
          · subst hd2
            simp [h4, hu, hda, hab, hba, hc]
          · simp [h4, hu, hda, hab, hba, hc, hd2]
      · simp [h4, hu, hda, ha, hb, hab, hba]
/-- The codes of the parts. -/
theorem damT_code {k : K} {t : Tm} (hv : validT t = true) {cl : Nat → Option Clm} {n : Nat} (h : ∀ i, i < n → ∀ c, cl i = some c → cvOk k c.1 t.unit ∧ 0 ≤ c.2 ∧ c.2 ≤ 2000) :
    ((damT k t cl n).2.2 = 0 ∨ (damT k t cl n).2.2 = 2 ∨ (damT k t cl n).2.2 = 11) ∧ ((∀ i, i < n → ∀ c, cl i = some c → (convK k c.1 t.unit).2 = 0) → (damT k t cl n).2.2 = 0 ∨ (damT k t cl n).2.2 = 2) := by
  induction n with
  | zero => exact ⟨.inl rfl, fun _ => .inl rfl⟩
  | succ n ih =>
    obtain ⟨i1, i2⟩ := ih fun i hi => h i (by omega)
    by_cases h0 : (damT k t cl n).2.2 = 0
    · cases hc : cl n with
      | none => rw [damT_none hc]; exact ⟨i1, fun _ => .inl h0⟩
      | some c =>
        rw [damT_some hc h0]
        obtain ⟨g1, g2, g3⟩ := h n (by omega) c hc
        have hcc := convK_code g1
        unfold damF
        split
        · rename_i h1
          exact ⟨hcc, fun hh => absurd (hh n (by omega) c hc) h1⟩
        · rename_i h1
          have h1 : (convK k c.1 t.unit).2 = 0 := by simpa using h1
          have hip := interestR_pre (t := t) (a := (convK k c.1 t.unit).1.val) (d := c.2) ⟨hv, convK_ok h1, g2, g3⟩
          split
          · exact ⟨by rcases hip with h | h; exact .inl h; exact .inr (.inl h), fun _ => hip⟩
          · exact ⟨.inl h0, fun _ => .inl h0⟩
    · rw [damT_stop h0 (n + 1) (by omega)]
      exact ⟨i1, fun hh => i2 fun i hi c hc => hh i (by omega) c hc⟩
theorem damE_code {k : K} {t : Tm} (hv : validT t = true) {cl : Nat → Option Clm} {n : Nat} : (damE t (damT k t cl n)).2 = 0 ∨ (damE t (damT k t cl n)).2 = 2 ∨ (damE t (damT k t cl n)).2 = (damT k t cl n).2.2 := by
  unfold damE
  split
  · exact .inr (.inr rfl)
  · rename_i h1
    have h1 : (damT k t cl n).2.2 = 0 := by simpa using h1
    have hq := (damT_val h1).2.1
    have hc := collT_code (f := fun i => (damT k t cl n).1.getD i default) (m := (damT k t cl n).1.length) fun i hi => hq _ (getD_memA hi)
    split
    · rcases hc with h | h
      · exact absurd h ‹_›
      · exact .inr (.inl h)
    · rename_i h2
      have h2 : (collT ((0, 1), 0) (fun i => (damT k t cl n).1.getD i default) (damT k t cl n).1.length).2 = 0 := by simpa using h2
      have hv2 := (collT_val h2).1
      split
      · rename_i h3
        exfalso
        apply h3
        rw [cappedR_pre hv hv2]
        split <;> rfl
      · exact .inl rfl
theorem setT_code {k : K} {unit : Int} {sa : Nat → Option (A × Bool)} {n : Nat} (h : ∀ i, i < n → ∀ c, sa i = some c → cvOk k c.1 unit) :
    ((setT k unit sa n).2 = 0 ∨ (setT k unit sa n).2 = 2 ∨ (setT k unit sa n).2 = 11) ∧ ((∀ i, i < n → ∀ c, sa i = some c → (convK k c.1 unit).2 = 0) → (setT k unit sa n).2 = 0) := by
  induction n with
  | zero => exact ⟨.inl rfl, fun _ => rfl⟩
  | succ n ih =>
    obtain ⟨i1, i2⟩ := ih fun i hi => h i (by omega)
    by_cases h0 : (setT k unit sa n).2 = 0
    · cases hc : sa n with
      | none => rw [setT_none hc]; exact ⟨i1, fun _ => h0⟩
      | some c =>
        rw [setT_some hc h0]
        have hcc := convK_code (h n (by omega) c hc)
        split
        · rename_i h1
          exact ⟨hcc, fun hh => absurd (hh n (by omega) c hc) h1⟩
        · exact ⟨.inl rfl, fun _ => rfl⟩
    · rw [setT_stop h0 (n + 1) (by omega)]
      exact ⟨i1, fun hh => i2 fun i hi c hc => hh i (by omega) c hc⟩
theorem setE_code (unit : Int) (s : Sf) : (setE unit s).2 = 0 ∨ (setE unit s).2 = 2 ∨ (setE unit s).2 = s.2 := by
  unfold setE
  split
  · exact .inr (.inr rfl)
  · split
    · exact .inr (.inl rfl)
    · exact .inl rfl
theorem asked_set {k : K} {t : Tm} {a b : Int} (hv : validT t = true) (hd : 0 ≤ k.days) : askedB k t a b k.days = !setB k a b t.unit := by
  unfold askedB setB
  rw [hv, decide_eq_true hd, decide_eq_true (Int.le_refl _)]
  generalize decide (t.unit < 0) = x1
  generalize decide ((k.units.length : Int) ≤ t.unit) = x2
  generalize ((unitAt k t.unit).kind != 2) = x3
  generalize decide (a < 0) = x4
  generalize decide (k.parties ≤ a) = x5
  generalize decide (b < 0) = x6
  generalize decide (k.parties ≤ b) = x7
  generalize (a == b) = x8
  cases x1 <;> cases x2 <;> cases x3 <;> cases x4 <;> cases x5 <;> cases x6 <;> cases x7 <;> cases x8 <;> rfl
theorem bal_arith {ba x y s so : Int} (h : ba = if x ≠ 0 then x else if y ≠ 0 then y else s) (hs : x = 0 → y = 0 → s = 0 ∨ s = 2) (hx : x = 0 ∨ x = 2 ∨ x = 11) (hy : y = 0 ∨ y = 2 ∨ y = 11) (ho : so = 0 ∨ so = 2 ∨ so = 11)
    (g1 : x = 0 → y = 0 → so ≠ 11) (g2 : so = 0 → x ≠ 11 ∧ y ≠ 11) : (ba = 0 ∨ ba = 2 ∨ ba = 11) ∧ (so = 0 ∨ so = 2 ∨ so = 11) ∧ (ba = 0 → so ≠ 11) ∧ (so = 0 → ba ≠ 11) := by
  by_cases h1 : x = 0
  · by_cases h2 : y = 0
    · rw [if_neg (by simpa using h1), if_neg (by simpa using h2)] at h; omega
    · rw [if_neg (by simpa using h1), if_pos h2] at h; omega
  · rw [if_pos h1] at h; omega
theorem bal_code (k : K) (l : List Int) (t : Tm) (a b u : Int) : (balanceR k l t a b u).2 = if (damagesR k l t a b u).2 ≠ 0 then (damagesR k l t a b u).2 else if (damagesR k l t b a u).2 ≠ 0 then (damagesR k l t b a u).2
    else (subR (damagesR k l t a b u).1.val (damagesR k l t b a u).1.val).2 := by
  unfold balanceR
  split
  · rfl
  · split
    · rfl
    · split
      · rfl
      · rename_i h; exact (by simpa using h : _ = _).symm
/-- The errors of both. -/
theorem bal_codes {k : K} (hw : kW k) {l : List Int} {t : Tm} (hv : validT t = true) {a b : Int} : (balanceR k l t a b k.days).2 = (setOffR k l a b t.unit).2 ∨ (((balanceR k l t a b k.days).2 = 0 ∨ (balanceR k l t a b k.days).2 = 2 ∨ (balanceR k l t a b k.days).2 = 11) ∧ ((setOffR k l a b t.unit).2 = 0 ∨ (setOffR k l a b t.unit).2 = 2 ∨ (setOffR k l a b t.unit).2 = 11) ∧
    ((balanceR k l t a b k.days).2 = 0 → (setOffR k l a b t.unit).2 ≠ 11) ∧ ((setOffR k l a b t.unit).2 = 0 → (balanceR k l t a b k.days).2 ≠ 11)) := by
  by_cases hc : checkR k l = 0
  · obtain ⟨h2, h3, h4, _⟩ := checkR_ok hw hc
    have hF := h2.facts
    have hdd := hF.days
    have has := asked_set (k := k) (t := t) (a := a) (b := b) hv (by omega)
    have has2 := asked_set (k := k) (t := t) (a := b) (b := a) hv (by omega)
    have hB : setB k b a t.unit = setB k a b t.unit := by
      unfold setB
      rw [show (b == a) = (a == b) by rw [Bool.eq_iff_iff, beq_iff_eq, beq_iff_eq]; exact ⟨Eq.symm, Eq.symm⟩]
      generalize decide (a < 0) = x1
      generalize decide (b < 0) = x2
      generalize decide (k.parties ≤ a) = x3
      generalize decide (k.parties ≤ b) = x4
      cases x1 <;> cases x2 <;> cases x3 <;> cases x4 <;> rfl
    by_cases hs : setB k a b t.unit = true
    · left
      have hd1 : (damagesR k l t a b k.days).2 = 1 := by
        unfold damagesR
        rw [if_neg (by simpa using hc), has, hs]
        rfl
      have e1 : (balanceR k l t a b k.days).2 = 1 := by
        rw [bal_code, if_pos (by rw [hd1]; decide), hd1]
      have e2 : (setOffR k l a b t.unit).2 = 1 := by
        unfold setOffR
        rw [if_neg (by simpa using hc), if_pos hs]
      rw [e1, e2]
    · right
      have hs : setB k a b t.unit = false := by simpa using hs
      have ha : askedB k t a b k.days = true := by rw [has, hs]; rfl
      have ha2 : askedB k t b a k.days = true := by rw [has2, hB, hs]; rfl
      obtain ⟨_, hun, _, _, hab, _⟩ := asked_valid ha
      have hdl : ∀ i, i < k.clauses.length → ((followR k l l.length).out i).status = 4 → daysTo l (((followR k l l.length).out i).to - 1).toNat < k.days := fun i hi h4' => by
        have := failed_to hF h3 hi (Nat.le_refl _) (by omega) h4'
        exact day_lt hw hc _ (by omega)
      have e1 : damagesR k l t a b k.days = damE t (damT k t (claimAt k l (followR k l l.length).out a b k.days) k.clauses.length) := by
        unfold damagesR; rw [if_neg (by simpa using hc), if_neg (by rw [ha]; simp)]
      have e2 : damagesR k l t b a k.days = damE t (damT k t (claimAt k l (followR k l l.length).out b a k.days) k.clauses.length) := by
        unfold damagesR; rw [if_neg (by simpa using hc), if_neg (by rw [ha2]; simp)]
      have e3 : setOffR k l a b t.unit = setE t.unit (setT k t.unit (setAt k l (followR k l l.length).out a b) k.clauses.length) := by
        unfold setOffR; rw [if_neg (by simpa using hc), if_neg (by rw [hs]; simp)]
      have p1 : ∀ (x y : Int), ∀ i, i < k.clauses.length → ∀ c, claimAt k l (followR k l l.length).out x y k.days i = some c → cvOk k c.1 t.unit ∧ 0 ≤ c.2 ∧ c.2 ≤ 2000 := fun x y i hi c h => by
        have hh := claim_amt h
        have hw' := claimAt_W hF h4 (by omega) hi (fun h4' => failed_to hF h3 hi (Nat.le_refl _) (by omega) h4') h
        have hd0 := daysTo_le l (((followR k l l.length).out i).to - 1).toNat
        rw [hh.1]
        exact ⟨clause_cv h2 hi hh.2.1 hun, hw'.2.2.2.2.1, by have := hw'.2.2.2.2.2.1; omega⟩
      have p3 : ∀ i, i < k.clauses.length → ∀ c, setAt k l (followR k l l.length).out a b i = some c → cvOk k c.1 t.unit := fun i hi c h => by
        have hh := set_amt h
        rw [hh.1]
        exact clause_cv h2 hi hh.2.1 hun
      obtain ⟨a1, a2⟩ := damT_code hv (p1 a b)
      obtain ⟨b1, b2⟩ := damT_code hv (p1 b a)
      obtain ⟨s1, s2⟩ := setT_code p3
      have ae := damE_code (k := k) (cl := claimAt k l (followR k l l.length).out a b k.days) (n := k.clauses.length) hv
      have be := damE_code (k := k) (cl := claimAt k l (followR k l l.length).out b a k.days) (n := k.clauses.length) hv
      have se := setE_code t.unit (setT k t.unit (setAt k l (followR k l l.length).out a b) k.clauses.length)
      have qa := fun h => (damages_qOk (k := k) (l := l) (t := t) (a := a) (b := b) (u := k.days) h).1
      have qb := fun h => (damages_qOk (k := k) (l := l) (t := t) (a := b) (b := a) (u := k.days) h).1
      have za := fun h => (damages_sum (k := k) (l := l) (t := t) (a := a) (b := b) (u := k.days) h)
      have zb := fun h => (damages_sum (k := k) (l := l) (t := t) (a := b) (b := a) (u := k.days) h)
      have hsc := fun i hi => set_claim (k := k) (l := l) (out := (followR k l l.length).out) hab (i := i) (hdl i hi)
      have g1 : (damagesR k l t a b k.days).2 = 0 → (damagesR k l t b a k.days).2 = 0 → (setOffR k l a b t.unit).2 ≠ 11 := by
        intro x1 x2
        obtain ⟨_, _, _, _, _, _, _, z1⟩ := za x1
        obtain ⟨_, _, _, _, _, _, _, z2⟩ := zb x2
        have v1 := (damT_val z1).2.2
        have v2 := (damT_val z2).2.2
        have := s2 fun i hi c hci => by
          rcases hsc i hi with ⟨h, _⟩ | ⟨c', h, ⟨e, he, hec⟩ | ⟨e, he, hec⟩⟩
          · rw [h] at hci; cases hci
          · rw [h] at hci; cases hci; rw [← hec]; exact (v1 i hi e he).1
          · rw [h] at hci; cases hci; rw [← hec]; exact (v2 i hi e he).1
        rw [e3]
        omega
      have g2 : (setOffR k l a b t.unit).2 = 0 → (damagesR k l t a b k.days).2 ≠ 11 ∧ (damagesR k l t b a k.days).2 ≠ 11 := by
        intro x1
        obtain ⟨_, _, _, z1⟩ := setOff_val x1
        have v1 := (setT_val z1).2
        have w1 := a2 fun i hi c hci => by
          rcases hsc i hi with ⟨_, h, _⟩ | ⟨c', h, _⟩
          · rw [h] at hci; cases hci
          · have q1 := (set_amt h).1
            have q2 := (claim_amt hci).1
            rw [q2, ← q1]; exact v1 i hi c' h
        have w2 := b2 fun i hi c hci => by
          rcases hsc i hi with ⟨_, _, h⟩ | ⟨c', h, _⟩
          · rw [h] at hci; cases hci
          · have q1 := (set_amt h).1
            have q2 := (claim_amt hci).1
            rw [q2, ← q1]; exact v1 i hi c' h
        rw [e1, e2]
        omega
      rw [← e1] at ae
      rw [← e2] at be
      rw [← e3] at se
      have hcode : (damagesR k l t a b k.days).2 = 0 → (damagesR k l t b a k.days).2 = 0 → (subR (damagesR k l t a b k.days).1.val (damagesR k l t b a k.days).1.val).2 = 0 ∨ (subR (damagesR k l t a b k.days).1.val (damagesR k l t b a k.days).1.val).2 = 2 := fun hx hy => by
        rw [subR_toQ (qa hx) (qb hy)]; exact toQ_code _
      have a3 : (damagesR k l t a b k.days).2 = 0 ∨ (damagesR k l t a b k.days).2 = 2 ∨ (damagesR k l t a b k.days).2 = 11 := by
        rcases ae with h | h | h
        · exact .inl h
        · exact .inr (.inl h)
        · rw [h]; exact a1
      have b3 : (damagesR k l t b a k.days).2 = 0 ∨ (damagesR k l t b a k.days).2 = 2 ∨ (damagesR k l t b a k.days).2 = 11 := by
        rcases be with h | h | h
        · exact .inl h
        · exact .inr (.inl h)
        · rw [h]; exact b1
      have s3 : (setOffR k l a b t.unit).2 = 0 ∨ (setOffR k l a b t.unit).2 = 2 ∨ (setOffR k l a b t.unit).2 = 11 := by
        rcases se with h | h | h
        · exact .inl h
        · exact .inr (.inl h)
        · rw [h]; exact s1
      exact bal_arith (bal_code k l t a b k.days) hcode a3 b3 s3 g1 g2
  · left
    have e1 : (balanceR k l t a b k.days).2 = checkR k l := by
      have hd1 : (damagesR k l t a b k.days).2 = checkR k l := by
        unfold damagesR; rw [if_pos hc]
      rw [bal_code, if_pos (by rw [hd1]; exact hc), hd1]
    have e2 : (setOffR k l a b t.unit).2 = checkR k l := by
      unfold setOffR
      rw [if_pos hc]
    rw [e1, e2]
end Go.Proofs.Ytiiegpjpckkohaa
end
