import Derived.Test.YtiiegpjpckkohaaPD
section
/- Contracts: estoppellaw14: example, head. -/
namespace Go.Proofs.Ytiiegpjpckkohaa
open Go.Eng
set_option maxRecDepth 10000
set_option linter.unusedSimpArgs false
set_option linter.unusedVariables false
noncomputable def cU16 : Codec Try.prog 73 Int := Codec.int .u16 (show Try.prog.underlying 73 = some (.int .u16) from by kernel_rfl) (by kernel_rfl)
def exK : K :=
  { parties := 2, holders := [0, 1], units := [], acts := [⟨1, 0, 0, -1, -1, (0, 1)⟩, ⟨1, 1, 0, -1, -1, (0, 1)⟩],
    clauses := [⟨1, 0, 0, 1, [], 2, 1, false, false, -1, -1, (0, 1), -1, -1, false⟩, ⟨2, 1, 1, 1, [⟨0, 2⟩], 3, 0, false, false, -1, -1, (0, 1), -1, -1, false⟩], days := 5, off := [] }
theorem exK_W : kW exK := by
  simp [kW, exK, inK, uW, actW, clW, cndW, qW]
end Go.Proofs.Ytiiegpjpckkohaa
end
section
/- The law TracePrefix: the walk. -/
namespace Go.Proofs.Ytiiegpjpckkohaa
open Go.Eng
set_option maxRecDepth 10000
set_option linter.unusedSimpArgs false
set_option linter.unusedVariables false
theorem take_getD (l : List Int) {i n : Nat} (h : i < n) : (l.take n).getD i default = l.getD i default := by
  simp only [List.getD_eq_getElem?_getD, List.getElem?_take]
  rw [if_pos h]
theorem daysTo_take (l : List Int) (m : Nat) : ∀ n, n ≤ m → daysTo (l.take m) n = daysTo l n
  | 0, _ => rfl
  | n + 1, h => by simp only [daysTo]; rw [take_getD l (by omega), daysTo_take l m n (by omega)]
theorem stepErr_take (k : K) (l : List Int) (m : Nat) : ∀ n, n ≤ m → stepErr k (l.take m) n = stepErr k l n
  | 0, _ => rfl
  | n + 1, h => by simp only [stepErr]; rw [take_getD l (by omega), stepErr_take k l m n (by omega), daysTo_take l m n (by omega)]
theorem checkR_take {k : K} {l : List Int} (h : checkR k l = 0) {n : Nat} (hn : n ≤ l.length) : checkR k (l.take n) = 0 := by
  unfold checkR at h ⊢
  split at h
  · cases h
  · rename_i h1
    split at h
    · cases h
    · rw [if_neg h1, if_neg (by simp; omega)]
      have : (l.take n).length = n := by simp; omega
      rw [this, stepErr_take k l n n (Nat.le_refl _)]
      exact stepErr_mono l.length n hn h
theorem holdTo_take (k : K) (l : List Int) (role : Int) (m : Nat) : ∀ n, n ≤ m → holdTo k (l.take m) role n = holdTo k l role n
  | 0, _ => rfl
  | n + 1, h => by simp only [holdTo]; rw [take_getD l (by omega), holdTo_take k l role m n (by omega)]
theorem tmod_len (u m : Nat) : Int.tmod (u : Int) ((m : Int) + 1) = ((u % (m + 1) : Nat) : Int) := rfl
theorem outcomeR_at {k : K} {l : List Int} (h : checkR k l = 0) {i n : Nat} (hi : i < k.clauses.length) (hn : n ≤ l.length) : outcomeR k l i n = ((followR k l n).out i, 0) := by
  rw [outcomeR, if_neg (by simpa using h), if_neg (by omega)]
  rfl
theorem holderR_at {k : K} {l : List Int} (h : checkR k l = 0) {i n : Nat} (hi : i < k.holders.length) (hn : n ≤ l.length) : holderR k l i n = ((holdTo k l i n).1, 0) := by
  rw [holderR, if_neg (by simpa using h), if_neg (by omega)]
  rfl
end Go.Proofs.Ytiiegpjpckkohaa
end
