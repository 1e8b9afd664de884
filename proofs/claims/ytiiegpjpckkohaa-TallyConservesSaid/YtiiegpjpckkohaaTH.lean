/- The law TraceHolders: the walk. -/
import Derived.Test.YtiiegpjpckkohaaTG
import Derived.Test.YtiiegpjpckkohaaP6
namespace Go.Proofs.Ytiiegpjpckkohaa
open Go.Eng
set_option maxRecDepth 10000
set_option linter.unusedSimpArgs false
set_option linter.unusedVariables false
theorem tmod_len0 (u m : Nat) : Int.tmod (u : Int) (m : Int) = ((u % m : Nat) : Int) := rfl
theorem act_kind {k : K} {a : Act} (h : actB k a = true) : a.kind = 1 ∨ a.kind = 2 ∨ a.kind = 3 := by
  unfold actB at h
  split at h
  · simp only [Bool.and_eq_true, beq_iff_eq] at h; omega
  · split at h
    · exact .inl (by assumption)
    · split at h
      · omega
      · cases h
theorem holdTo_tick {k : K} {l : List Int} {r : Int} {i : Nat} (h : l.getD i default = -1) : holdTo k l r (i + 1) = holdTo k l r i := by
  rw [holdTo, if_pos (.inl h)]
theorem holdTo_act {k : K} {l : List Int} {r : Int} {i : Nat} (h : l.getD i default ≠ -1) :
    (holdTo k l r (i + 1)).1 = (if (acAt k (l.getD i default).toNat).kind ≠ 1 ∧ (acAt k (l.getD i default).toNat).give = r ∧ (holdTo k l r i).2 (l.getD i default).toNat = false then (acAt k (l.getD i default).toNat).to else (holdTo k l r i).1) ∧
    ∀ j, (holdTo k l r (i + 1)).2 j = if j = (l.getD i default).toNat then true else (holdTo k l r i).2 j := by
  rw [holdTo]
  by_cases h1 : (holdTo k l r i).2 (l.getD i default).toNat = true
  · rw [if_pos (.inr h1)]
    refine ⟨by rw [if_neg (fun h2 => by rw [h1] at h2; exact absurd h2.2.2 (by simp))], fun j => ?_⟩
    split
    · rename_i hj; rw [hj]; exact h1
    · rfl
  · rw [if_neg (by rintro (h' | h'); exact h h'; exact h1 h')]
    have h1 : (holdTo k l r i).2 (l.getD i default).toNat = false := by simpa using h1
    refine ⟨?_, fun _ => rfl⟩
    simp only [h1, and_true]
theorem row_set (f : Nat → Bool) (z j : Nat) : [AV.c (.bool (if j = z then true else f j))] = setRowF (fun j => [AV.c (.bool (f j))]) z 0 [AV.c (.bool true)] j := by
  by_cases hji : j = z
  · subst hji; simp [setRowF, setL]
  · simp [setRowF, beq_false hji, hji]
end Go.Proofs.Ytiiegpjpckkohaa
