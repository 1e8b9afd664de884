/- The law VersionChanges: the plain law. -/
import Derived.Test.YtofdehlikigonaaVU
namespace Go.Proofs.Ytofdehlikigonaa
open Go.Eng
set_option maxRecDepth 10000
set_option linter.unusedSimpArgs false
set_option linter.unusedVariables false
/-- The contract in force on a day. -/
noncomputable def onDay (k : K) (P : List Am) (d : Int) : K := val k (P.filter (fun a => decide (a.day ≤ d)))
theorem onDay_pred (k : K) (P : List Am) (d : Int) : onDay k P (d - 1) = val k (P.filter (fun a => decide (a.day < d))) := by
  unfold onDay
  congr 2
  funext a
  rw [Bool.eq_iff_iff]; simp only [decide_eq_true_eq]; omega
theorem onDay_low (k : K) (P : List Am) : ∃ b : Int, ∀ d, d ≤ b → onDay k P d = k := by
  have : ∀ P : List Am, ∃ b : Int, ∀ a ∈ P, b < a.day := fun P => by
    induction P with
    | nil => exact ⟨0, fun _ h => nomatch h⟩
    | cons a P ih =>
      obtain ⟨b, hb⟩ := ih
      refine ⟨min b (a.day - 1), fun c hc => ?_⟩
      rcases List.mem_cons.1 hc with rfl | hc
      · omega
      · have := hb c hc; omega
  obtain ⟨b, hb⟩ := this P
  refine ⟨b, fun d hd => ?_⟩
  unfold onDay
  rw [List.filter_eq_nil_iff.2 fun a ha => by have := hb a ha; simp only [decide_eq_true_eq]; omega]
  rfl
variable {k : K} {P : List Am} {D : List Int}
theorem FinI.to_ (h : FinI k P D) : ∀ (n : Nat) (x : Int), (∀ d ∈ D, ¬ (x < d ∧ d ≤ x + n)) → onDay k P (x + n) = onDay k P x
  | 0, x, _ => by simp
  | n + 1, x, hd => by
    have ih := FinI.to_ h n x fun d hd' h2 => hd d hd' ⟨h2.1, by omega⟩
    rw [← ih]
    have h1 := h.same (x + ((n + 1 : Nat) : Int)) fun hm => hd _ hm ⟨by omega, Int.le_refl _⟩
    have h2 := onDay_pred k P (x + ((n + 1 : Nat) : Int))
    rw [← h1, show x + ((n + 1 : Nat) : Int) - 1 = x + n by omega] at h2
    exact h2.symm
/-- No change between. -/
theorem FinI.between (h : FinI k P D) {x y : Int} (hxy : x ≤ y) (hd : ∀ d ∈ D, ¬ (x < d ∧ d ≤ y)) : onDay k P y = onDay k P x := by
  obtain ⟨n, hn⟩ := Int.eq_ofNat_of_zero_le (show 0 ≤ y - x by omega)
  have := h.to_ n x (by rw [show x + (n : Int) = y by omega]; exact hd)
  rwa [show x + (n : Int) = y by omega] at this
theorem FinI.below (h : FinI k P D) {y : Int} (hd : ∀ d ∈ D, ¬ d ≤ y) : onDay k P y = k := by
  obtain ⟨b, hb⟩ := onDay_low k P
  rw [h.between (show min b y ≤ y by omega) fun d hd' h2 => hd d hd' h2.2]
  exact hb _ (by omega)
noncomputable def lastF (k : K) (P : List Am) (D : List Int) : Nat → K
  | 0 => k
  | i + 1 => onDay k P (D.getD i default)
noncomputable def nowF (k : K) (P : List Am) (D : List Int) (day : Int) : Nat → K
  | 0 => k
  | i + 1 => if D.getD i default ≤ day then onDay k P (D.getD i default) else nowF k P D day i
theorem FinI.at_lt (h : FinI k P D) {i j : Nat} (hij : i < j) (hj : j < D.length) : D.getD i default < D.getD j default := by
  have := List.pairwise_iff_getElem.1 h.inc i j (by omega) hj hij
  simpa [List.getD, hj, show i < D.length by omega] using this
theorem mem_at {d : Int} (hd : d ∈ D) : ∃ i, i < D.length ∧ D.getD i default = d := by
  obtain ⟨i, hi, rfl⟩ := List.getElem_of_mem hd
  exact ⟨i, hi, by simp [List.getD, hi]⟩
theorem at_mem {i : Nat} (hi : i < D.length) : D.getD i default ∈ D := by
  have : D.getD i default = D[i] := by simp [List.getD, hi]
  rw [this]; exact List.getElem_mem hi
theorem FinI.no_mid (h : FinI k P D) {i : Nat} (hi : i + 1 < D.length) {y : Int} (hy : y < D.getD (i + 1) default) : ∀ d ∈ D, ¬ (D.getD i default < d ∧ d ≤ y) := fun d hd h2 => by
  obtain ⟨j, hj, rfl⟩ := mem_at hd
  rcases Nat.lt_or_ge j (i + 1) with h3 | h3
  · rcases Nat.lt_or_ge j i with h4 | h4
    · have := h.at_lt h4 (by omega); omega
    · have : j = i := by omega
      subst this; omega
  · rcases Nat.lt_or_ge (i + 1) j with h4 | h4
    · have := h.at_lt h4 hj; omega
    · have : j = i + 1 := by omega
      subst this; omega
theorem FinI.no_low (h : FinI k P D) (h0 : 0 < D.length) {y : Int} (hy : y < D.getD 0 default) : ∀ d ∈ D, ¬ d ≤ y := fun d hd h2 => by
  obtain ⟨j, hj, rfl⟩ := mem_at hd
  rcases Nat.eq_zero_or_pos j with h3 | h3
  · subst h3; omega
  · have := h.at_lt h3 hj; omega
/-- On each of the days another contract than before. -/
theorem FinI.new (h : FinI k P D) : ∀ {i : Nat}, i < D.length → onDay k P (D.getD i default) ≠ lastF k P D i
  | i, hi => by
    have h1 := h.diff _ (at_mem hi)
    rw [← onDay_pred] at h1
    have h2 : onDay k P (D.getD i default - 1) = lastF k P D i := by
      cases i with
      | zero => exact h.below (h.no_low hi (by omega))
      | succ i =>
        have := h.at_lt (show i < i + 1 by omega) hi
        exact h.between (by omega) (h.no_mid hi (by omega))
    rw [← h2]; exact h1
def upTo (D : List Int) (day : Int) (i : Nat) : Int := if i < D.length then min day (D.getD i default - 1) else day
theorem FinI.now_at (h : FinI k P D) (day : Int) : ∀ {i : Nat}, i ≤ D.length → nowF k P D day i = onDay k P (upTo D day i)
  | 0, _ => by
    refine (h.below fun d hd h2 => ?_).symm
    unfold upTo at h2
    by_cases h0 : 0 < D.length
    · rw [if_pos h0] at h2; exact h.no_low h0 (y := min day (D.getD 0 default - 1)) (by omega) d hd h2
    · have : D = [] := List.length_eq_zero_iff.1 (by omega)
      subst this; cases hd
  | i + 1, hi => by
    have ih := h.now_at day (show i ≤ D.length by omega)
    have hmid : ∀ y, (i + 1 < D.length → y < D.getD (i + 1) default) → ∀ d ∈ D, ¬ (D.getD i default < d ∧ d ≤ y) := fun y hy d hd h2 => by
      by_cases h1 : i + 1 < D.length
      · exact h.no_mid h1 (hy h1) d hd h2
      · obtain ⟨j, hj, rfl⟩ := mem_at hd
        rcases Nat.lt_or_ge j i with h4 | h4
        · have := h.at_lt h4 (show i < D.length by omega); omega
        · have : j = i := by omega
          subst this; omega
    have hup : i + 1 < D.length → upTo D day (i + 1) < D.getD (i + 1) default := fun h1 => by unfold upTo; rw [if_pos h1]; omega
    rw [nowF]
    by_cases hle : D.getD i default ≤ day
    · rw [if_pos hle]
      refine (h.between ?_ (hmid _ hup)).symm
      unfold upTo
      split
      · rename_i h1
        have := h.at_lt (show i < i + 1 by omega) h1
        omega
      · exact hle
    · rw [if_neg hle, ih]
      have e1 : upTo D day i = day := by unfold upTo; rw [if_pos (by omega)]; omega
      have e2 : upTo D day (i + 1) = day := by
        unfold upTo
        split
        · rename_i h1
          have := h.at_lt (show i < i + 1 by omega) h1
          omega
        · rfl
      rw [e1, e2]
theorem FinI.now_all (h : FinI k P D) (day : Int) : nowF k P D day D.length = onDay k P day := by
  rw [h.now_at day (Nat.le_refl _)]
  unfold upTo
  rw [if_neg (Nat.lt_irrefl _)]
end Go.Proofs.Ytofdehlikigonaa
