/- The steps of a clause's outcome; the holders of a reading: plain laws. -/
import Derived.Test.YtiiegpjpckkohaaTH
namespace Go.Proofs.Ytiiegpjpckkohaa
open Go.Eng
set_option maxRecDepth 10000
set_option linter.unusedSimpArgs false
set_option linter.unusedVariables false
/-- A novating act gives the role to b. -/
def NovB (k : K) (role b : Int) : Prop := ∃ s, s < k.acts.length ∧ (acAt k s).kind = 3 ∧ (acAt k s).give = role ∧ (acAt k s).to = b
/-- What a step makes of an outcome, before clauses start. -/
structure Mid (k : K) (x : Cl) (n : Nat) (o o' : Oc) : Prop where
  still : runsB o = false → o' = o
  from_ : o'.from_ = o.from_
  to : o'.to = o.to ∨ o'.to = (n + 1 : Nat)
  got : o.got ≤ o'.got
  late : o.status = 2 → o'.status ≠ 1
  bearer : o'.bearer = o.bearer ∨ (x.kind ≠ 4 ∧ NovB k x.role o'.bearer)
theorem Mid.refl (k : K) (x : Cl) (n : Nat) (o : Oc) : Mid k x n o o := ⟨fun _ => rfl, rfl, .inl rfl, Int.le_refl _, fun h => by omega, .inl rfl⟩
theorem tickOne_mid (k : K) (x : Cl) (free : Bool) (n : Nat) (o : Oc) (c : Int × Bool) : Mid k x n o (tickOne x free (n + 1 : Nat) o c).1 := by
  unfold tickOne
  split
  · exact Mid.refl k x n o
  · rename_i h
    have hr : runsB o = true := by
      cases hr : runsB o
      · simp [hr] at h
      · rfl
    split
    · exact Mid.refl k x n o
    · split
      · exact ⟨fun h => absurd (hr.symm.trans h) (by simp), rfl, .inl rfl, Int.le_refl _, fun _ => by simp, .inl rfl⟩
      · refine ⟨fun h => absurd (hr.symm.trans h) (by simp), rfl, .inr rfl, Int.le_refl _, fun _ => ?_, .inl rfl⟩
        simp only
        (repeat' split) <;> decide
theorem actOne_mid (k : K) (x : Cl) (s : Int) (takes : Bool) (doer : Int) (n : Nat) (o : Oc) (p : Bool) : Mid k x n o (actOne x s takes doer (n + 1 : Nat) o p).1 := by
  unfold actOne
  split
  · rename_i hr
    have hst : ∀ o' : Oc, o'.from_ = o.from_ → (o'.to = o.to ∨ o'.to = (n + 1 : Nat)) → o.got ≤ o'.got → (o.status = 2 → o'.status ≠ 1) → o'.bearer = o.bearer → Mid k x n o o' := fun o' a b c d e => ⟨fun h => absurd (hr.symm.trans h) (by simp), a, b, c, d, .inl e⟩
    simp only
    split
    · unfold countOne
      split
      · exact Mid.refl k x n o
      · split
        · split
          · exact hst _ rfl (.inl rfl) (by simp only; omega) (fun h => by simp only; omega) rfl
          · exact hst _ rfl (.inr rfl) (by simp only; omega) (fun h => by simp) rfl
        · split
          · split
            · exact Mid.refl k x n o
            · exact hst _ rfl (.inr rfl) (by simp) (fun h => by simp) rfl
          · exact hst _ rfl (.inr rfl) (by simp) (fun h => by simp) rfl
    · exact Mid.refl k x n o
  · exact Mid.refl k x n o
/-- What a step makes of an outcome. -/
structure StepO (k : K) (x : Cl) (n : Nat) (h : Int) (o o' : Oc) : Prop where
  ended : 0 ≤ o.to → o' = o
  from_ : 0 ≤ o.from_ → o'.from_ = o.from_
  start : o.from_ < 0 → o' = o ∨ o'.from_ = (n + 1 : Nat)
  to : o.to < 0 → o'.to < 0 ∨ o'.to = (n + 1 : Nat)
  got : o.got ≤ o'.got
  late : 0 ≤ o.from_ → o.status = 2 → o'.status ≠ 1
  bearer : 0 ≤ o.from_ → o'.bearer = o.bearer ∨ (x.kind ≠ 4 ∧ NovB k x.role o'.bearer)
  bearerS : o.from_ < 0 → 0 ≤ o'.from_ → x.kind ≠ 4 → o'.bearer = h
  bearer4 : x.kind = 4 → o'.bearer = o.bearer
theorem step_rel {k : K} (hk : KFacts k) {l : List Int} (hl : stepsOk k l) {j : Nat} (hj : j < k.clauses.length) {n : Nat} (hn : n < l.length) (hn2 : n < 900000) :
    StepO k (clAt k j) n ((followR k l (n + 1)).hold (clAt k j).role.toNat) ((followR k l n).out j) ((followR k l (n + 1)).out j) := by
  have hc := clause_inv hk hl hj n (by omega) hn2
  obtain ⟨hok, hst⟩ := followR_ok hk l n hn2
  have hnw := followR_nw hk l n hn2
  have hs := hl n hn
  show StepO k (clAt k j) n ((stepR k (followR k l n) (l.getD n default)).hold (clAt k j).role.toNat) ((followR k l n).out j) ((stepR k (followR k l n) (l.getD n default)).out j)
  obtain ⟨-, h2⟩ := step_out hok hnw (l.getD n default) hj
  generalize l.getD n default = s at hs h2 ⊢
  generalize followR k l n = r at hc hok hst hnw h2 ⊢
  have hm : Mid k (clAt k j) n (r.out j) (preOut k r s j).1 := by
    unfold preOut
    split
    · simp only [tickAt, hst]
      exact tickOne_mid k (clAt k j) (freeB k r.day) n (r.out j) (r.cnt j)
    · rename_i h3
      have hs0 : 0 ≤ s ∧ s < k.acts.length := hs.resolve_left h3
      have h4 := actOne_mid k (clAt k j) s (takesB k { r with steps := r.steps + 1 } s.toNat) (doerOf k { r with steps := r.steps + 1 } s.toNat) n (r.out j) (r.cnt j).2
      have h5 : (actTo k { r with steps := r.steps + 1 } s.toNat k.clauses.length).out j = (actAt1 k { r with steps := r.steps + 1 } s.toNat j).1 := by simp [actTo, hj]
      have h6 : actAt1 k { r with steps := r.steps + 1 } s.toNat j = actOne (clAt k j) s (takesB k { r with steps := r.steps + 1 } s.toNat) (doerOf k { r with steps := r.steps + 1 } s.toNat) (n + 1 : Nat) (r.out j) (r.cnt j).2 := by
        simp only [actAt1, hst]
        rw [Int.toNat_of_nonneg hs0.1]
        rfl
      rw [h6] at h5
      rcases actR_out k { r with steps := r.steps + 1 } s.toNat j with h7 | ⟨h7, _, h9, h10, h11, h8⟩
      · simp only
        rw [h7, h5]; exact h4
      · simp only
        rw [h8, h5]
        rw [h5] at h7
        refine ⟨fun h => ?_, h4.from_, h4.to, h4.got, h4.late, .inr ⟨h11, s.toNat, by omega, h9, h10.symm, rfl⟩⟩
        rw [h4.still h] at h7
        rw [h] at h7
        cases h7
  generalize (preOut k r s j).1 = o1 at hm h2
  have hst1 : (r.steps + 1 : Int) = ((n + 1 : Nat) : Int) := by rw [hst]; rfl
  rw [hst1] at h2
  generalize stepR k r s = r' at h2 ⊢
  generalize r.out j = o at hm hc ⊢
  generalize clAt k j = x at *
  have hrun : runsB o = true ↔ 0 ≤ o.from_ ∧ o.to < 0 := runsB_iff
  have hstill : ¬ (0 ≤ o.from_ ∧ o.to < 0) → o1 = o := fun h => hm.still (by rw [← Bool.not_eq_true, hrun]; exact h)
  rcases h2 with h2 | ⟨hw, h3, h4⟩
  · rw [h2]
    refine ⟨fun h => hstill (by omega), fun _ => hm.from_, fun h => .inl (hstill (by omega)), fun h => ?_, hm.got, fun _ => hm.late, fun _ => hm.bearer, fun h h' => ?_, fun h => ?_⟩
    · rcases hm.to with h5 | h5
      · exact .inl (by omega)
      · exact .inr h5
    · have := hm.from_; omega
    · rcases hm.bearer with h5 | ⟨h5, _⟩
      · exact h5
      · exact absurd h h5
  · have hf := hm.from_
    have h5 : o1 = o := hstill (by omega)
    subst h5
    have hto : o1.to < 0 := by
      cases hc with
      | waived hw' => rw [hw] at hw'; cases hw'
      | idle _ ho => subst ho; decide
      | run f hw' hf' => omega
      | fin f t hw' hf' => omega
    rw [h4]
    refine ⟨fun h => by omega, fun h => by omega, fun _ => .inr rfl, fun _ => .inl hto, Int.le_refl _, fun h => by omega, fun h => by omega, fun _ _ h => ?_, fun h => ?_⟩
    · simp only; rw [if_pos h]
    · simp only; rw [if_neg (by simpa using h)]
/-- From the outcome after n steps to the one after m. -/
structure Later (n m : Nat) (a b : Oc) : Prop where
  ended : 0 ≤ a.to → b = a
  from_ : 0 ≤ a.from_ → b.from_ = a.from_
  start : a.from_ < 0 → b.from_ < 0 ∨ n < b.from_
  to : a.to < 0 → b.to < 0 ∨ n < b.to
  got : a.got ≤ b.got
  late : 0 ≤ a.from_ → a.status = 2 → b.status ≠ 1
theorem later {k : K} (hk : KFacts k) {l : List Int} (hl : stepsOk k l) {j : Nat} (hj : j < k.clauses.length) (n : Nat) : ∀ d, n + d ≤ l.length → l.length < 900000 → Later n (n + d) ((followR k l n).out j) ((followR k l (n + d)).out j)
  | 0, _, _ => ⟨fun _ => rfl, fun _ => rfl, fun h => .inl h, fun h => .inl h, Int.le_refl _, fun _ h => by rw [Nat.add_zero, h]; decide⟩
  | d + 1, hd, h9 => by
    have ih := later hk hl hj n d (by omega) h9
    have hs := step_rel hk hl hj (n := n + d) (by omega) (by omega)
    have hc := clause_inv hk hl hj (n + d) (by omega) (by omega)
    rw [show n + (d + 1) = n + d + 1 from rfl]
    generalize (followR k l n).out j = a at *
    generalize (followR k l (n + d)).out j = b at *
    generalize (followR k l (n + d + 1)).hold (clAt k j).role.toNat = h at *
    generalize (followR k l (n + d + 1)).out j = c at *
    refine ⟨fun h => ?_, fun h => ?_, fun h => ?_, fun h => ?_, ?_, fun h h' => ?_⟩
    · have e := ih.ended h; subst e; exact hs.ended h
    · rw [hs.from_ (by rw [ih.from_ h]; exact h), ih.from_ h]
    · rcases ih.start h with h1 | h1
      · rcases hs.start h1 with h2 | h2
        · rw [h2]; exact .inl h1
        · right; omega
      · have := hs.from_ (by omega); right; omega
    · rcases ih.to h with h1 | h1
      · rcases hs.to h1 with h2 | h2
        · exact .inl h2
        · right; omega
      · have := hs.ended (by omega); right; rw [this]; exact h1
    · have := ih.got; have := hs.got; omega
    · have h1 := ih.late h h'
      have h2 := ih.from_ h
      by_cases h3 : 0 ≤ b.to
      · rw [hs.ended h3]; exact h1
      · refine hs.late (by omega) ?_
        cases hc with
        | waived hw ho => subst ho; simp at h2; omega
        | idle hw ho => subst ho; simp at h2; omega
        | run f hw hf hfn ht hst => omega
        | fin f t hw hf ht => omega
/-- A reading's holders are the trace's. -/
theorem hold_link {k : K} (hk : KFacts k) {l : List Int} (hl : stepsOk k l) : ∀ n, n ≤ l.length → l.length < 900000 → (∀ i : Nat, i < k.holders.length → (followR k l n).hold i = (holdTo k l i n).1) ∧ ∀ i : Nat, ∀ s, (followR k l n).hap s = (holdTo k l i n).2 s
  | 0, _, _ => by
    have h0 := begin0_ok hk
    have h1 := startR_kept (k := k) (r := begin0 k) (kn := knownTo k k.clauses.length) (by simp [begin0]) h0.wait
    refine ⟨fun i hi => ?_, fun i s => ?_⟩
    · show (beginR k).hold i = _
      rw [beginR, h1.hold]
      rfl
    · show (beginR k).hap s = _
      rw [beginR, h1.hap]
      rfl
  | n + 1, hn, h9 => by
    obtain ⟨ih1, ih2⟩ := hold_link hk hl n (by omega) h9
    obtain ⟨hok, hst⟩ := followR_ok hk l n (by omega)
    have h0 := hok.steps
    have hs := hl n (by omega)
    have e : followR k l (n + 1) = stepR k (followR k l n) (l.getD n default) := rfl
    by_cases h3 : l.getD n default = -1
    · have hw : WaitOk k (tickTo k { followR k l n with steps := (followR k l n).steps + 1 } (freeB k (followR k l n).day) k.clauses.length) := hok.wait
      have h1 := startR_kept (kn := endedT k { followR k l n with steps := (followR k l n).steps + 1 } (freeB k (followR k l n).day) k.clauses.length) (by simp only [tickTo]; omega) hw
      rw [e, stepR, if_pos h3]
      refine ⟨fun i hi => ?_, fun i s => ?_⟩
      · rw [holdTo_tick h3, h1.hold]; exact ih1 i hi
      · rw [holdTo_tick h3, h1.hap]; exact ih2 i s
    · have hs0 := hs.resolve_left h3
      have hsm := actR_same k { followR k l n with steps := (followR k l n).steps + 1 } (l.getD n default).toNat
      have hw : WaitOk k (actR k { followR k l n with steps := (followR k l n).steps + 1 } (l.getD n default).toNat) := by unfold WaitOk; rw [hsm.1]; exact hok.wait
      have h1 := startR_kept (kn := endedA k { followR k l n with steps := (followR k l n).steps + 1 } (l.getD n default).toNat k.clauses.length) (by rw [hsm.2.1]; simp only; omega) hw
      rw [e, stepR, if_neg h3]
      have hact := hk.act (l.getD n default).toNat (by omega)
      have hk3 := act_kind hact
      refine ⟨fun i hi => ?_, fun i s => ?_⟩
      · obtain ⟨hq1, -⟩ := holdTo_act (k := k) (r := i) h3
        rw [h1.hold, hq1, ← ih2 i, ← ih1 i hi]
        have hg : (acAt k (l.getD n default).toNat).kind ≠ 1 → 0 ≤ (acAt k (l.getD n default).toNat).give := by
          intro h
          generalize acAt k (l.getD n default).toNat = a at hact h
          unfold actB at hact
          split at hact
          · simp only [Bool.and_eq_true, beq_iff_eq] at hact; omega
          · try rw [if_neg h] at hact
            split at hact
            · simp only [Bool.and_eq_true, movB, decide_eq_true_eq] at hact; omega
            · cases hact
        unfold actR takesB
        simp only
        generalize acAt k (l.getD n default).toNat = a at *
        have hr : (followR k l n).hap (l.getD n default).toNat = true ∨ (followR k l n).hap (l.getD n default).toNat = false := by cases (followR k l n).hap (l.getD n default).toNat <;> simp
        by_cases k1 : a.kind = 1
        · rw [if_pos (.inr k1), if_neg (fun h => h.1 k1)]
          rfl
        · rcases hr with hr | hr
          · rw [if_pos (.inl (by rw [hr]; simp [k1])), if_neg (fun h => by rw [hr] at h; exact absurd h.2.2 (by simp))]
            rfl
          · rw [if_neg (by rw [hr]; simp [k1])]
            have := hg k1
            simp only [novTo, hr, and_true]
            by_cases h5 : i = a.give.toNat
            · rw [if_pos h5, if_pos ⟨k1, by omega⟩]
            · rw [if_neg h5, if_neg (fun h => h5 (by omega))]
              rfl
      · obtain ⟨-, hq2⟩ := holdTo_act (k := k) (r := i) h3
        rw [h1.hap, hq2, ← ih2 i]
        unfold actR
        simp only
        split <;> rfl
end Go.Proofs.Ytiiegpjpckkohaa
