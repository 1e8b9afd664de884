/- Tables with names changed, and tables turned. -/
import Derived.Test.YtoeghbhlklnajaaM8
namespace Go.Proofs.Ytoeghbhlklnajaa
open Go.Eng

theorem validR_iff {t : Nat → U} {n : Nat} : (validR t n).2 = true ↔ ∀ i, i < n → uOk t n i := by
  refine ⟨validR_ok, fun h => ?_⟩
  unfold validR
  have : (List.range n).find? (fun i => !uOkB t n i) = none := by
    rw [List.find?_eq_none]
    intro i hi
    rw [List.mem_range] at hi
    simp [uOkB_iff.2 (h i hi)]
  rw [this]
/-- A unit with a text behind its name, if it has a name. -/
def nmU (text : ByteArray) (u : U) : U := if u.name = emptyName then u else { u with name := u.name ++ text }
/-- The unit that comes to the place k. -/
def inv (n s k : Nat) : Nat := (k + (n - s)) % n
/-- A unit with its base turned. -/
def tuU (n s : Nat) (u : U) : U := if 0 ≤ u.base ∧ u.base < n then { u with base := (u.base + s).tmod n } else u
def zU : U := ⟨emptyName, 0, 0, (0, 0)⟩
theorem mod_two {x n : Nat} (h : x < 2 * n) : x % n = if x < n then x else x - n := by
  split
  · exact Nat.mod_eq_of_lt (by assumption)
  · rw [Nat.mod_eq_sub_mod (by omega), Nat.mod_eq_of_lt (by omega)]
theorem inv_of {n s i : Nat} (hs : s < n) (hi : i < n) : inv n s ((i + s) % n) = i := by
  unfold inv
  rw [mod_two (x := i + s) (by omega)]
  split
  · rw [mod_two (by omega)]; split <;> omega
  · rw [mod_two (by omega)]; split <;> omega
theorem of_inv {n s k : Nat} (hs : s < n) (hk : k < n) : (inv n s k + s) % n = k := by
  unfold inv
  rw [mod_two (x := k + (n - s)) (by omega)]
  split
  · rw [mod_two (by omega)]; split <;> omega
  · rw [mod_two (by omega)]; split <;> omega
theorem inv_lt {n s k : Nat} (hk : k < n) : inv n s k < n := Nat.mod_lt _ (by omega)
theorem app_right {a b c : ByteArray} (h : a ++ c = b ++ c) : a = b := by
  have h := congrArg (fun x => x.data.toList) h
  simp only [ByteArray.data_append, Array.toList_append] at h
  have h := List.append_cancel_right h
  obtain ⟨x⟩ := a
  obtain ⟨y⟩ := b
  simp only at h
  congr 1
  exact Array.toList_inj.1 h
theorem app_empty {a c : ByteArray} (h : a ++ c = emptyName) : a = emptyName := by
  have h := congrArg (fun x => x.data.toList) h
  simp only [ByteArray.data_append, Array.toList_append, emptyName] at h
  have h := (List.append_eq_nil_iff.1 h).1
  obtain ⟨x⟩ := a
  unfold emptyName
  simp only at h
  congr 1
  exact Array.toList_inj.1 h
theorem nmU_kind {c : ByteArray} {u : U} : (nmU c u).kind = u.kind ∧ (nmU c u).base = u.base ∧ (nmU c u).fac = u.fac := by
  unfold nmU
  split <;> exact ⟨rfl, rfl, rfl⟩
theorem nmU_name {c : ByteArray} {u : U} (h : u.name ≠ emptyName) : (nmU c u).name = u.name ++ c := by
  unfold nmU
  rw [if_neg h]
theorem nmU_none {c : ByteArray} {u : U} (h : (nmU c u).name ≠ emptyName) : u.name ≠ emptyName := by
  intro e
  unfold nmU at h
  rw [if_pos e] at h
  exact h e
/-- The names changed. -/
theorem named_valid {t t' : Nat → U} {n : Nat} {c : ByteArray} (ht : ∀ j, j < n → t' j = nmU c (t j)) : (validR t' n).2 = (validR t n).2 := by
  rw [Bool.eq_iff_iff, validR_iff, validR_iff]
  constructor
  · intro h i hi
    obtain ⟨⟨a1, a2, a3⟩, ⟨b1, b2, b3⟩, ⟨c1, c2, c3⟩, d⟩ := h i hi
    rw [ht i hi] at a2 b1 b2 b3 c1 c2 c3 d
    obtain ⟨e1, e2, e3⟩ := nmU_kind (c := c) (u := t i)
    rw [e1] at b1 c2
    rw [e2] at c1 c2 c3 d
    rw [e3] at b2 b3 d
    rw [ht _ (toNat_lt c1)] at c2 c3
    rw [nmU_kind.1] at c2
    rw [nmU_kind.2.1] at c3
    have hn := nmU_none a2
    refine ⟨⟨a1, hn, fun j hj e => ?_⟩, ⟨b1, b2, b3⟩, ⟨c1, c2, c3⟩, d⟩
    have h1 := a3 j hj
    rw [ht j (by omega), ht i hi, nmU_name hn, nmU_name (by rw [e]; exact hn), e] at h1
    exact h1 rfl
  · intro h i hi
    obtain ⟨⟨a1, a2, a3⟩, ⟨b1, b2, b3⟩, ⟨c1, c2, c3⟩, d⟩ := h i hi
    obtain ⟨e1, e2, e3⟩ := nmU_kind (c := c) (u := t i)
    refine ⟨⟨a1, ?_, fun j hj e => ?_⟩, ⟨?_, ?_, ?_⟩, ⟨?_, ?_, ?_⟩, ?_⟩
    · rw [ht i hi, nmU_name a2]
      exact fun e => a2 (app_empty e)
    · have hj' := (h j (by omega)).1.2.1
      rw [ht i hi, ht j (by omega), nmU_name a2, nmU_name hj'] at e
      exact a3 j hj (app_right e)
    · rw [ht i hi, e1]; exact b1
    · rw [ht i hi, e3]; exact b2
    · rw [ht i hi, e3]; exact b3
    · rw [ht i hi, e2]; exact c1
    · rw [ht i hi, e1, e2, ht _ (toNat_lt c1), nmU_kind.1]; exact c2
    · rw [ht i hi, e2, ht _ (toNat_lt c1), nmU_kind.2.1]; exact c3
    · rw [ht i hi, e2, e3]; exact d
theorem tuU_kind {n s : Nat} {u : U} : (tuU n s u).kind = u.kind ∧ (tuU n s u).name = u.name ∧ (tuU n s u).fac = u.fac := by
  unfold tuU
  split <;> exact ⟨rfl, rfl, rfl⟩
theorem tuU_base {n s b : Nat} {u : U} (hb : u.base = b) (h : b < n) : (tuU n s u).base = (((b + s) % n : Nat) : Int) := by
  unfold tuU
  rw [if_pos (by omega), hb]
  rfl
theorem tuU_out {n s : Nat} {u : U} (h : 0 ≤ (tuU n s u).base ∧ (tuU n s u).base < n) : ∃ b : Nat, u.base = b ∧ b < n := by
  by_cases h1 : 0 ≤ u.base ∧ u.base < n
  · exact ⟨u.base.toNat, by omega, by omega⟩
  · unfold tuU at h
    rw [if_neg h1] at h
    exact absurd h h1
/-- The units turned. -/
theorem turned_valid {t t' : Nat → U} {n s : Nat} (h20 : n ≤ 20) (hs : s < n) (ht : ∀ k, k < n → t' k = tuU n s (t (inv n s k))) : (validR t' n).2 = (validR t n).2 := by
  have hn : 0 < n := by omega
  have hσ : ∀ i, i < n → (i + s) % n < n := fun i _ => Nat.mod_lt _ hn
  have hts : ∀ i, i < n → t' ((i + s) % n) = tuU n s (t i) := fun i hi => by rw [ht _ (hσ i hi), inv_of hs hi]
  have hinj : ∀ i j, i < n → j < n → (i + s) % n = (j + s) % n → i = j := fun i j hi hj e => by
    rw [← inv_of hs hi, e, inv_of hs hj]
  rw [Bool.eq_iff_iff, validR_iff, validR_iff]
  constructor
  · intro h i hi
    have hd : ∀ j k, j < n → k < n → j ≠ k → (t' j).name ≠ (t' k).name := by
      intro j k hj hk hjk e
      rcases Nat.lt_or_gt_of_ne hjk with h1 | h1
      · exact (h k hk).1.2.2 j h1 e
      · exact (h j hj).1.2.2 k h1 e.symm
    obtain ⟨⟨a1, a2, a3⟩, ⟨b1, b2, b3⟩, ⟨c1, c2, c3⟩, d⟩ := h _ (hσ i hi)
    rw [hts i hi] at a2 b1 b2 b3 c1 c2 c3 d
    obtain ⟨e1, e2, e3⟩ := tuU_kind (n := n) (s := s) (u := t i)
    obtain ⟨b, hb, hbn⟩ := tuU_out c1
    have hbb := tuU_base (s := s) hb hbn
    rw [hbb] at c2 c3 d
    rw [Int.toNat_natCast, hts b hbn] at c2 c3
    rw [e1] at b1 c2
    rw [e2] at a2
    rw [e3] at b2 b3 d
    rw [tuU_kind.1] at c2
    have c3' : 0 ≤ (tuU n s (t b)).base ∧ (tuU n s (t b)).base < n := by rw [c3]; have := hσ b hbn; omega
    obtain ⟨b', hb', hbn'⟩ := tuU_out c3'
    rw [tuU_base hb' hbn'] at c3
    have hbb' : b' = b := hinj b' b hbn' hbn (by omega)
    subst hbb'
    refine ⟨⟨by omega, a2, fun j hj e => ?_⟩, ⟨b1, b2, b3⟩, ⟨by omega, ?_, ?_⟩, ?_⟩
    · refine hd _ _ (hσ j (by omega)) (hσ i hi) (fun e' => ?_) ?_
      · have := hinj j i (by omega) hi e'
        omega
      · rw [hts j (by omega), hts i hi, tuU_kind.2.1, tuU_kind.2.1]; exact e
    · rw [hb, Int.toNat_natCast]; exact c2
    · rw [hb, Int.toNat_natCast]; exact hb'
    · rw [hb]
      rcases d with d | d
      · left
        intro e
        have : b' = i := by omega
        subst this
        exact d rfl
      · exact .inr d
  · intro h k hk
    have hd : ∀ j k, j < n → k < n → j ≠ k → (t j).name ≠ (t k).name := by
      intro j k hj hk hjk e
      rcases Nat.lt_or_gt_of_ne hjk with h1 | h1
      · exact (h k hk).1.2.2 j h1 e
      · exact (h j hj).1.2.2 k h1 e.symm
    have hi := inv_lt (s := s) hk
    have hik := of_inv hs hk
    obtain ⟨⟨a1, a2, a3⟩, ⟨b1, b2, b3⟩, ⟨c1, c2, c3⟩, d⟩ := h _ hi
    obtain ⟨b, hb, hbn⟩ : ∃ b : Nat, (t (inv n s k)).base = b ∧ b < n := ⟨(t (inv n s k)).base.toNat, by omega, by omega⟩
    rw [hb, Int.toNat_natCast] at c2 c3
    rw [hb] at d
    obtain ⟨e1, e2, e3⟩ := tuU_kind (n := n) (s := s) (u := t (inv n s k))
    have hbb := tuU_base (s := s) hb hbn
    have hσb := hσ b hbn
    refine ⟨⟨by omega, ?_, fun j hj e => ?_⟩, ⟨?_, ?_, ?_⟩, ⟨?_, ?_, ?_⟩, ?_⟩
    · rw [ht k hk, e2]; exact a2
    · rw [ht k hk, ht j (by omega), tuU_kind.2.1, tuU_kind.2.1] at e
      refine hd _ _ (inv_lt (s := s) (k := j) (by omega)) hi (fun e' => ?_) e
      have h1 := of_inv (k := j) hs (by omega)
      rw [e', hik] at h1
      omega
    · rw [ht k hk, e1]; exact b1
    · rw [ht k hk, e3]; exact b2
    · rw [ht k hk, e3]; exact b3
    · rw [ht k hk, hbb]; omega
    · rw [ht k hk, hbb, Int.toNat_natCast, hts b hbn, tuU_kind.1, e1]; exact c2
    · rw [ht k hk, hbb, Int.toNat_natCast, hts b hbn, tuU_base c3 hbn]
    · rw [ht k hk, hbb, e3]
      rcases d with d | d
      · left
        intro e
        have h1 : (b + s) % n = k := by omega
        have : b = inv n s k := hinj _ _ hbn hi (by rw [h1, hik])
        exact d (by omega)
      · exact .inr d
end Go.Proofs.Ytoeghbhlklnajaa
