import Derived.Test.YtiiegpjpckkohaaPP
import Derived.Test.YtiiegpjpckkohaaPM
import Derived.Test.YtiiegpjpckkohaaU3
section
/- A contract without its clauses moves the same. -/
namespace Go.Proofs.Ytiiegpjpckkohaa
open Go.Eng
set_option maxRecDepth 10000
set_option linter.unusedSimpArgs false
set_option linter.unusedVariables false
def bareK (k : K) : K := { k with clauses := [] }
theorem bareK_W {k : K} (h : kW k) : kW (bareK k) := ⟨h.1, h.2.1, h.2.2.1, h.2.2.2.1, fun x hx => absurd hx (by simp [bareK]), h.2.2.2.2.2.1, h.2.2.2.2.2.2⟩
theorem bareK_step (k : K) (l : List Int) : ∀ n, stepErr (bareK k) l n = stepErr k l n
  | 0 => rfl
  | n + 1 => by
    simp only [stepErr, bareK_step k l n]
    rfl
theorem bareK_valid {k : K} (h : (kValid k).1 = 0) : (kValid (bareK k)).1 = 0 := by
  unfold kValid at h ⊢
  split at h
  · simp at h
  · rename_i h1
    split at h
    · simp at h
    · rename_i h2
      have e : framedB (bareK k) = framedB k := rfl
      rw [if_neg (by simp only [Bool.or_eq_true, decide_eq_true_eq, not_or] at h1 ⊢; refine ⟨h1.1, ?_⟩; simp [bareK]), if_neg (by rw [e]; exact h2)]
      rfl
theorem bareK_check {k : K} {l : List Int} (h : checkR k l = 0) : checkR (bareK k) l = 0 := by
  unfold checkR at h ⊢
  split at h
  · simp at h
  · rename_i h1
    split at h
    · simp at h
    · rename_i h2
      rw [if_neg (by rw [bareK_valid (by simpa using h1)]; simp), if_neg h2, bareK_step]
      exact h
theorem holdTo_bare (k : K) (l : List Int) (r : Int) : ∀ n, holdTo (bareK k) l r n = holdTo k l r n
  | 0 => rfl
  | n + 1 => by
    simp only [holdTo, holdTo_bare k l r n]
    rfl
/-- What a step moves, by the trace's holders. -/
theorem mvAt_hold {k : K} {l : List Int} (hk : kW k) (hc : checkR k l = 0) {i : Nat} (hi : i < l.length) : mvAt k l i = if l.getD i default = -1 ∨ (acAt k (l.getD i default).toNat).unit = -1 then none
  else some ⟨(acAt k (l.getD i default).toNat).unit, (acAt k (l.getD i default).toNat).lot, (holdTo k l (acAt k (l.getD i default).toNat).role.toNat i).1,
    if (acAt k (l.getD i default).toNat).to ≠ -1 then (holdTo k l (acAt k (l.getD i default).toNat).to.toNat i).1 else -1⟩ := by
  obtain ⟨h2, h3, h4, _⟩ := checkR_ok hk hc
  cases hm : mvAt k l i with
  | none =>
    unfold mvAt at hm
    split at hm
    · rename_i h1
      rw [if_pos h1]
    · cases hm
  | some m =>
    obtain ⟨ac, a1, a2, a3, a4, a5, a6, a7, a8, a9, a10⟩ := mv_facts h2.facts h3 hi hm
    have hlink := (hold_link h2.facts h3 i (by omega) (by omega)).1
    have hu : ¬ ac.unit = -1 := by omega
    rw [if_neg (by rw [← a2]; omega), ← a2]
    obtain ⟨u, v, g, r⟩ := m
    simp only at a5 a6 a9 a10
    have e1 := hlink ac.role.toNat (by omega)
    rw [a5, a6, a9, a10]
    rcases a8 with a8 | a8
    · rw [if_neg (by rw [a8]; simp), if_neg (by rw [a8]; simp), e1]
    · have e2 := hlink ac.to.toNat (by omega)
      rw [if_pos (by omega), if_pos (by omega), e1, e2]
theorem tlT_congr {ch : Mv → Int} {party : Int} {mv mv' : Nat → Option Mv} : ∀ {n : Nat}, (∀ i, i < n → mv i = mv' i) → tlT ch party mv n = tlT ch party mv' n
  | 0, _ => rfl
  | n + 1, h => by
    simp only [tlT, tlT_congr (n := n) fun i hi => h i (by omega), h n (by omega)]
theorem sumsR_bare {k : K} (hk : kW k) {l : List Int} (hc : checkR k l = 0) (party : Int) (ch : Mv → Int) : sumsR (bareK k) l party ch = sumsR k l party ch := by
  have hb := bareK_check hc
  have e : tlT ch party (mvAt (bareK k) l) l.length = tlT ch party (mvAt k l) l.length := tlT_congr fun i hi => by
    rw [mvAt_hold hk hc hi, mvAt_hold (bareK_W hk) hb hi, holdTo_bare, holdTo_bare]
    rfl
  unfold sumsR
  rw [hc, hb, e]
  rfl
theorem bareK_V (k : K) : AvSL [.c (.int .i64 k.parties), intsV k.holders, unitsV k.units, actsV k.acts, .c (.slice none 0 0), .c (.int .i64 k.days), intsV k.off] (kC (bareK k)) :=
  ⟨AvS.refl _, AvS.refl _, AvS.refl _, AvS.refl _, AvS.nil, AvS.refl _, AvS.refl _, trivial⟩
theorem bareK_V' (k : K) : AvS (.agg [.c (.int .i64 k.parties), intsV k.holders, unitsV k.units, actsV k.acts, .c (.slice none 0 0), .c (.int .i64 k.days), intsV k.off]) (kV (bareK k)) := AvS.agg (bareK_V k)
end Go.Proofs.Ytiiegpjpckkohaa
end
section
/- What the last step moves. -/
namespace Go.Proofs.Ytiiegpjpckkohaa
open Go.Eng
set_option maxRecDepth 10000
set_option linter.unusedSimpArgs false
set_option linter.unusedVariables false
theorem mvAt_take {k : K} {l : List Int} {n i : Nat} (hi : i < n) : mvAt k (l.take n) i = mvAt k l i := by
  unfold mvAt
  rw [take_getD l hi, followR_take k l n i (by omega)]
/-- The last step's part. -/
def lastR (p : Int) (ch : Mv → Int) (q : Nat → Q) (m : Option Mv) : Nat → Q := match m with
  | none => q
  | some m => if ch m ≠ p then q else setQ q m.unit.toNat (addR (q m.unit.toNat) m.val).1
theorem sumsR_last {k : K} (hk : kW k) {l : List Int} {n : Nat} (hn : l.length = n + 1) {p : Int} {ch : Mv → Int} (h : (sumsR k l p ch).2 = 0) :
    checkR k l = 0 ∧ (sumsR k (l.take n) p ch).2 = 0 ∧ (sumsR k l p ch).1 = lastR p ch (sumsR k (l.take n) p ch).1 (mvAt k l n) := by
  by_cases hc : checkR k l = 0
  · by_cases hp : p < 0 ∨ k.parties ≤ p
    · exfalso
      unfold sumsR at h
      rw [if_neg (by simpa using hc), if_pos hp] at h
      cases h
    · have ht := checkR_take hc (n := n) (by omega)
      have hlen : (l.take n).length = n := by simp; omega
      have e1 : sumsR k (l.take n) p ch = ((tlT ch p (mvAt k l) n).1, (tlT ch p (mvAt k l) n).2.1) := by
        unfold sumsR
        rw [if_neg (by simpa using ht), if_neg hp, hlen, tlT_congr (mv' := mvAt k l) fun i hi => mvAt_take hi]
      have e2 : sumsR k l p ch = ((tlT ch p (mvAt k l) (n + 1)).1, (tlT ch p (mvAt k l) (n + 1)).2.1) := by
        unfold sumsR
        rw [if_neg (by simpa using hc), if_neg hp, hn]
      rw [e2] at h
      refine ⟨hc, ?_⟩
      rw [e1, e2]
      by_cases h0 : (tlT ch p (mvAt k l) n).2.1 = 0
      · refine ⟨h0, ?_⟩
        cases hm : mvAt k l n with
        | none => rw [tlT_none hm h0]; rfl
        | some m =>
          rw [tlT_some hm h0] at h ⊢
          simp only [lastR]
          unfold stepS at h ⊢
          split
          · rfl
          · rename_i h1
            rw [if_neg h1] at h
            split
            · rename_i h2
              rw [if_pos h2] at h
              cases h
            · rfl
      · rw [tlT_stop h0 (n + 1) (by omega)] at h
        exact absurd h h0
  · exfalso
    unfold sumsR at h
    rw [if_pos hc] at h
    exact hc h
theorem sumsR_W (k : K) (l : List Int) (p : Int) (ch : Mv → Int) (u : Nat) : qW ((sumsR k l p ch).1 u) := by
  unfold sumsR
  split
  · exact ⟨by simp [inK], by simp [inK]⟩
  · split
    · exact ⟨by simp [inK], by simp [inK]⟩
    · exact tlT_W _ _
theorem sumsR_range {k : K} {l : List Int} {p : Int} {ch : Mv → Int} (h : (sumsR k l p ch).2 = 0) : 0 ≤ p := by
  unfold sumsR at h
  split at h
  · exact absurd h ‹_›
  · split at h
    · cases h
    · omega
end Go.Proofs.Ytiiegpjpckkohaa
end
