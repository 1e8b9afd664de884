/- The law TraceDays: the walk. -/
import Derived.Test.YtiiegpjpckkohaaTF
namespace Go.Proofs.Ytiiegpjpckkohaa
open Go.Eng
set_option maxRecDepth 10000
set_option linter.unusedSimpArgs false
set_option linter.unusedVariables false
theorem daysTo_mono (l : List Int) {a b : Nat} (h : a ≤ b) : daysTo l a ≤ daysTo l b := by
  induction b with
  | zero => cases Nat.le_zero.1 h; exact Int.le_refl _
  | succ n ih =>
    by_cases h1 : a = n + 1
    · subst h1; exact Int.le_refl _
    · have := ih (by omega)
      simp only [daysTo]
      split <;> omega
theorem days_a {k : K} {x : Cl} (hx : ClOk k x) {l : List Int} {n : Nat} {o : Oc} {c : Int × Bool} (h : CInv k x l n o c) (h1 : 0 ≤ o.from_) : ∃ f t : Nat, o.from_ = f ∧ (if o.to < 0 then (n : Int) else o.to) = t ∧ f ≤ t ∧ t ≤ n ∧ o.to ≠ 0 ∧
    (0 ≤ o.to → 0 < t) ∧
    (0 ≤ o.to ∧ l.getD (t - 1) default = -1 → x.after + x.grace ≤ daysTo l t - daysTo l f ∧ (plainC k x → daysTo l t - daysTo l f = x.after + x.grace)) ∧
    (¬ (0 ≤ o.to ∧ l.getD (t - 1) default = -1) → plainC k x → daysTo l t - daysTo l f < x.after + x.grace ∧ (o.to < 0 → (o.status = 2 ↔ x.kind = 1 ∧ 0 < x.grace ∧ x.after ≤ daysTo l t - daysTo l f))) ∧
    (o.status = 2 → x.kind = 1 ∧ 0 < x.grace ∧ x.after ≤ daysTo l t - daysTo l f) := by
  have hk := hx.kind
  have ha := hx.act
  have hgk := hx.graceK
  have hg := hx.grace
  have haf := hx.after
  cases h with
  | waived hw ho => subst ho; simp at h1
  | idle hw ho => subst ho; simp at h1
  | run f hw hf hfn ht hst h2 hc0 hc1 hg1 hg hd hp =>
    refine ⟨f, n, hf, by rw [if_pos (by omega)], hfn, Nat.le_refl _, by omega, fun h => by omega, fun h => by omega, fun _ hpl => ?_, fun h => ?_⟩
    · have := (hp hpl).1
      refine ⟨by omega, fun _ => ⟨fun h => ?_, fun h => ?_⟩⟩
      · have h3 := h2.1 h
        refine ⟨?_, by omega, by omega⟩
        by_cases k1 : x.kind = 1
        · exact k1
        · have := hgk k1; omega
      · exact h2.2 (by omega)
    · have h3 := h2.1 h
      refine ⟨?_, by omega, by omega⟩
      by_cases k1 : x.kind = 1
      · exact k1
      · have := hgk k1; omega
  | fin f t hw hf ht hft htn hd hp he =>
    refine ⟨f, t + 1, hf, by rw [if_neg (by omega), ht], by omega, by omega, by omega, fun h => by omega, fun h => ?_, fun h hpl => ?_, fun h => ?_⟩
    · rcases he with ⟨h3, h4, h5, h6, h7⟩ | ⟨h3, h4, h5, h6, h7⟩
      · exact ⟨by omega, fun hpl => by have := hp hpl; omega⟩
      · have := h.2
        simp only [Nat.add_sub_cancel] at this
        omega
    · rcases he with ⟨h3, h4, h5, h6, h7⟩ | ⟨h3, h4, h5, h6, h7⟩
      · exact absurd ⟨by omega, h3⟩ h
      · have := hp hpl
        exact ⟨by omega, fun h => by omega⟩
    · rcases he with ⟨h3, h4, h5, h6, h7⟩ | ⟨h3, h4, h5, h6, h7⟩ <;> rw [h] at h4 <;> (repeat' split at h4) <;> omega
end Go.Proofs.Ytiiegpjpckkohaa
