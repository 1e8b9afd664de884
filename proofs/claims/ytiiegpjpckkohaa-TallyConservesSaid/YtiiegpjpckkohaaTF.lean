/- The law TraceEnds: the walk. -/
import Derived.Test.YtiiegpjpckkohaaPF
namespace Go.Proofs.Ytiiegpjpckkohaa
open Go.Eng
set_option maxRecDepth 10000
set_option linter.unusedSimpArgs false
set_option linter.unusedVariables false
theorem ends_a {k : K} {x : Cl} (hx : ClOk k x) {l : List Int} {n : Nat} {o : Oc} {c : Int × Bool} (h : CInv k x l n o c) : 0 ≤ o.got ∧ (x.kind ≠ 1 → o.got = 0) ∧ (x.kind = 1 → o.got ≤ x.need ∧ (o.got = x.need ↔ o.status = 3)) := by
  have hn := hx.need
  cases h with
  | waived hw ho => subst ho; simp; omega
  | idle hw ho => subst ho; simp; omega
  | run f hw hf hfn ht hst h2 hc0 hc1 hg1 hg =>
    by_cases h1 : x.kind = 1
    · have := hg1 h1
      exact ⟨this.1, fun h => absurd h1 h, fun _ => ⟨by omega, by omega⟩⟩
    · have := hg h1
      exact ⟨by omega, fun _ => this, fun h => absurd h h1⟩
  | fin f t hw hf ht hft htn hd hp he =>
    by_cases h1 : x.kind = 1
    · rcases he with ⟨_, h2, h3, _, _⟩ | ⟨_, h2, h3, _, _⟩
      · have := h3 h1
        rw [if_pos h1] at h2
        exact ⟨this.1, fun h => absurd h1 h, fun _ => ⟨by omega, by omega⟩⟩
      · have := h3 h1
        rw [if_neg (by omega)] at h2
        exact ⟨by omega, fun h => absurd h1 h, fun _ => ⟨by omega, by omega⟩⟩
    · rcases he with ⟨_, _, _, h3, _⟩ | ⟨_, _, _, h3, _⟩ <;> exact ⟨by have := h3 h1; omega, fun _ => h3 h1, fun h => absurd h h1⟩
theorem ends_b {k : K} {x : Cl} (hx : ClOk k x) {l : List Int} {n : Nat} {o : Oc} {c : Int × Bool} (h : CInv k x l n o c) (h1 : 0 ≤ o.from_) (h2 : 0 ≤ o.to) : o.from_ < o.to ∧ o.to ≤ n ∧
    ((o.status = 4 ∧ x.kind = 1 ∨ o.status = 3 ∧ x.kind = 2 ∨ o.status = 5) ↔ l.getD (o.to - 1).toNat default = -1) ∧ (l.getD (o.to - 1).toNat default ≠ -1 → l.getD (o.to - 1).toNat default = x.act) ∧ ¬ (o.status = 5 ∧ x.kind ≤ 2) ∧ ¬ (o.status = 4 ∧ 2 < x.kind) := by
  have hk := hx.kind
  have ha := hx.act
  cases h with
  | waived hw ho => subst ho; simp at h1
  | idle hw ho => subst ho; simp at h1
  | run f hw hf hfn ht => omega
  | fin f t hw hf ht hft htn hd hp he =>
    have e : (o.to - 1).toNat = t := by omega
    rw [e]
    refine ⟨by omega, by omega, ?_⟩
    rcases he with ⟨h3, h4, _⟩ | ⟨h3, h4, _⟩
    · rw [h3]
      by_cases k1 : x.kind = 1
      · rw [if_pos k1] at h4; exact ⟨⟨fun _ => rfl, fun _ => .inl ⟨h4, k1⟩⟩, fun h => absurd rfl h, by omega, by omega⟩
      · rw [if_neg k1] at h4
        by_cases k2 : x.kind = 2
        · rw [if_pos k2] at h4; exact ⟨⟨fun _ => rfl, fun _ => .inr (.inl ⟨h4, k2⟩)⟩, fun h => absurd rfl h, by omega, by omega⟩
        · rw [if_neg k2] at h4; exact ⟨⟨fun _ => rfl, fun _ => .inr (.inr h4)⟩, fun h => absurd rfl h, by omega, by omega⟩
    · rw [h3]
      by_cases k2 : x.kind = 2
      · rw [if_pos k2] at h4; exact ⟨⟨fun h => by omega, fun h => by omega⟩, fun _ => rfl, by omega, by omega⟩
      · rw [if_neg k2] at h4; exact ⟨⟨fun h => by omega, fun h => by omega⟩, fun _ => rfl, by omega, by omega⟩
theorem bne_bool {a b : Bool} : (a != b) = true ↔ ¬ (a = true ↔ b = true) := by cases a <;> cases b <;> simp
theorem small_len {k : K} {m : Nat} (hs : (!smallK k m) = false) : m ≤ 120 ∧ k.off.length ≤ 100 := by
  have hs : smallK k m = true := by simpa using hs
  unfold smallK at hs
  split at hs
  · cases hs
  · rename_i h; simp at h; omega
end Go.Proofs.Ytiiegpjpckkohaa
