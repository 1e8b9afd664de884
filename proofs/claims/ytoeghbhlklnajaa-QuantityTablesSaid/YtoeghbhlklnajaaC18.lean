/- Contracts: small. -/
import Derived.Test.YtoeghbhlklnajaaC17
namespace Go.Proofs.Ytoeghbhlklnajaa
open Go.Eng
set_option maxRecDepth 10000
set_option linter.unusedSimpArgs false
set_option linter.unusedVariables false
def smallR (t : Nat → U) (n m : Nat) : Bool := (List.range n).all (fun i => decide (i < 25) && decide ((t i).name.size ≤ 100)) && decide (m ≤ 60)
theorem small_ok (n : Nat) (t : Nat → U) (m : Nat) (l : Nat → A) : Does Try.prog 12 [tabV n t, amtV m l] (.c (.bool (smallR t n m))) := by
  refine Does.mk (fun _ => false) TT_ok Try.func12 rfl (by kernel_rfl) Try.ntmps12 rfl rfl fun E hT hE hN => ?_
  have hm : E.P.follows .mixedOrders = true := by rw [hE]; kernel_rfl
  refine XK.fact (Sat.rs_len (j := 0) rfl) fun hlen => ?_
  have hm' := hlen.1
  refine XK.fact (Sat.rs_len (j := 1) rfl) fun hlen => ?_
  have hm'' := hlen.1
  (repeat (first | refine XK.seq ?_ | refine XK.skip ?_ | refine XK.block ?_ | refine XK.pop ?_ | ((refine XK.rgn hT rfl rfl rfl ?_ ?_); focus (first | exact trivial | (refine ⟨by omega, by (simp <;> omega), fun i hi => ?_⟩; obtain rfl : i = 0 := (by omega); rfl) | (simp [AllP, impG]; done) | (simp only [AllP, List.append, List.nil_append, List.cons_append, inK, tdiv_nn, tmod_nn]; omega) | (simp [AllP, impG, inK, tdiv_nn, tmod_nn]; omega) | (simp only [AllP, impG, inK]; grind))) | ((refine XK.rgnD hT hm rfl rfl rfl (by kernel_rfl) ?_ ?_); focus (first | exact trivial | (refine ⟨by omega, by (simp <;> omega), fun i hi => ?_⟩; obtain rfl : i = 0 := (by omega); rfl) | (simp [AllP, impG]; done) | (simp only [AllP, List.append, List.nil_append, List.cons_append, inK, tdiv_nn, tmod_nn]; omega) | (simp [AllP, impG, inK, tdiv_nn, tmod_nn]; omega) | (simp only [AllP, impG, inK]; grind))) | refine XK.exit rfl ?_))
  refine XK.loop (ι := Nat) (fun i => ST.of [(0, tabV n t), (1, amtV m l), (5, .c (.int .i64 i))] [] 1000 26 (fun _ => false))
      (fun i => i ≤ n ∧ ∀ j, j < i → j < 25 ∧ (t j).name.size ≤ 100) (fun i => n - i) 0 ⟨Nat.zero_le _, fun j hj => absurd hj (Nat.not_lt_zero _)⟩
      (Weak.of hN rfl rfl rfl ⟨AvIs.refl _, AvIs.refl _, rfl⟩ trivial) fun i hi => ?_
  obtain ⟨hi1, hi2⟩ := hi
  (repeat (first | refine XK.seq ?_ | refine XK.skip ?_ | refine XK.block ?_ | refine XK.pop ?_ | ((refine XK.rgn hT rfl rfl rfl ?_ ?_); focus (first | exact trivial | (refine ⟨by omega, by (simp <;> omega), fun i hi => ?_⟩; obtain rfl : i = 0 := (by omega); rfl) | (simp [AllP, impG]; done) | (simp only [AllP, List.append, List.nil_append, List.cons_append, inK, tdiv_nn, tmod_nn]; omega) | (simp [AllP, impG, inK, tdiv_nn, tmod_nn]; omega) | (simp only [AllP, impG, inK]; grind))) | ((refine XK.rgnD hT hm rfl rfl rfl (by kernel_rfl) ?_ ?_); focus (first | exact trivial | (refine ⟨by omega, by (simp <;> omega), fun i hi => ?_⟩; obtain rfl : i = 0 := (by omega); rfl) | (simp [AllP, impG]; done) | (simp only [AllP, List.append, List.nil_append, List.cons_append, inK, tdiv_nn, tmod_nn]; omega) | (simp [AllP, impG, inK, tdiv_nn, tmod_nn]; omega) | (simp only [AllP, impG, inK]; grind))) | refine XK.exit rfl ?_)); refine XK.cond rfl (fun hlt => ?_) (fun hlt => ?_) <;> (try simp at hlt)
  · (repeat (first | refine XK.seq ?_ | refine XK.skip ?_ | refine XK.block ?_ | refine XK.pop ?_ | ((refine XK.rgn hT rfl rfl rfl ?_ ?_); focus (first | exact trivial | (refine ⟨by omega, by (simp <;> omega), fun i hi => ?_⟩; obtain rfl : i = 0 := (by omega); rfl) | (simp [AllP, impG]; done) | (simp only [AllP, List.append, List.nil_append, List.cons_append, inK, tdiv_nn, tmod_nn]; omega) | (simp [AllP, impG, inK, tdiv_nn, tmod_nn]; omega) | (simp only [AllP, impG, inK]; grind))) | ((refine XK.rgnD hT hm rfl rfl rfl (by kernel_rfl) ?_ ?_); focus (first | exact trivial | (refine ⟨by omega, by (simp <;> omega), fun i hi => ?_⟩; obtain rfl : i = 0 := (by omega); rfl) | (simp [AllP, impG]; done) | (simp only [AllP, List.append, List.nil_append, List.cons_append, inK, tdiv_nn, tmod_nn]; omega) | (simp [AllP, impG, inK, tdiv_nn, tmod_nn]; omega) | (simp only [AllP, impG, inK]; grind))) | refine XK.exit rfl ?_)); refine XK.cond rfl (fun hx => ?_) (fun hx => ?_) <;> (try simp at hx)
    · (repeat (first | refine XK.seq ?_ | refine XK.skip ?_ | refine XK.block ?_ | refine XK.pop ?_ | ((refine XK.rgn hT rfl rfl rfl ?_ ?_); focus (first | exact trivial | (refine ⟨by omega, by (simp <;> omega), fun i hi => ?_⟩; obtain rfl : i = 0 := (by omega); rfl) | (simp [AllP, impG]; done) | (simp only [AllP, List.append, List.nil_append, List.cons_append, inK, tdiv_nn, tmod_nn]; omega) | (simp [AllP, impG, inK, tdiv_nn, tmod_nn]; omega) | (simp only [AllP, impG, inK]; grind))) | ((refine XK.rgnD hT hm rfl rfl rfl (by kernel_rfl) ?_ ?_); focus (first | exact trivial | (refine ⟨by omega, by (simp <;> omega), fun i hi => ?_⟩; obtain rfl : i = 0 := (by omega); rfl) | (simp [AllP, impG]; done) | (simp only [AllP, List.append, List.nil_append, List.cons_append, inK, tdiv_nn, tmod_nn]; omega) | (simp [AllP, impG, inK, tdiv_nn, tmod_nn]; omega) | (simp only [AllP, impG, inK]; grind))) | refine XK.exit rfl ?_))
      (first | refine XK.out rfl rfl rfl ?_ | refine XK.outN rfl rfl rfl ?_)
      refine cB ?_
      symm
      simp only [smallR, Bool.and_eq_false_iff]
      left
      rw [List.all_eq_false]
      refine ⟨i, by simpa using hlt, ?_⟩
      simp
      omega
    · (repeat (first | refine XK.seq ?_ | refine XK.skip ?_ | refine XK.block ?_ | refine XK.pop ?_ | ((refine XK.rgn hT rfl rfl rfl ?_ ?_); focus (first | exact trivial | (refine ⟨by omega, by (simp <;> omega), fun i hi => ?_⟩; obtain rfl : i = 0 := (by omega); rfl) | (simp [AllP, impG]; done) | (simp only [AllP, List.append, List.nil_append, List.cons_append, inK, tdiv_nn, tmod_nn]; omega) | (simp [AllP, impG, inK, tdiv_nn, tmod_nn]; omega) | (simp only [AllP, impG, inK]; grind))) | ((refine XK.rgnD hT hm rfl rfl rfl (by kernel_rfl) ?_ ?_); focus (first | exact trivial | (refine ⟨by omega, by (simp <;> omega), fun i hi => ?_⟩; obtain rfl : i = 0 := (by omega); rfl) | (simp [AllP, impG]; done) | (simp only [AllP, List.append, List.nil_append, List.cons_append, inK, tdiv_nn, tmod_nn]; omega) | (simp [AllP, impG, inK, tdiv_nn, tmod_nn]; omega) | (simp only [AllP, impG, inK]; grind))) | refine XK.exit rfl ?_))
      refine XK.inv ⟨i + 1, ⟨hlt, fun j hj => ?_⟩, Weak.of hN rfl rfl rfl ⟨AvIs.refl _, AvIs.refl _, rfl⟩ trivial, by omega⟩
      by_cases h : j = i
      · subst h; omega
      · exact hi2 j (by omega)
  · (repeat (first | refine XK.seq ?_ | refine XK.skip ?_ | refine XK.block ?_ | refine XK.pop ?_ | ((refine XK.rgn hT rfl rfl rfl ?_ ?_); focus (first | exact trivial | (refine ⟨by omega, by (simp <;> omega), fun i hi => ?_⟩; obtain rfl : i = 0 := (by omega); rfl) | (simp [AllP, impG]; done) | (simp only [AllP, List.append, List.nil_append, List.cons_append, inK, tdiv_nn, tmod_nn]; omega) | (simp [AllP, impG, inK, tdiv_nn, tmod_nn]; omega) | (simp only [AllP, impG, inK]; grind))) | ((refine XK.rgnD hT hm rfl rfl rfl (by kernel_rfl) ?_ ?_); focus (first | exact trivial | (refine ⟨by omega, by (simp <;> omega), fun i hi => ?_⟩; obtain rfl : i = 0 := (by omega); rfl) | (simp [AllP, impG]; done) | (simp only [AllP, List.append, List.nil_append, List.cons_append, inK, tdiv_nn, tmod_nn]; omega) | (simp [AllP, impG, inK, tdiv_nn, tmod_nn]; omega) | (simp only [AllP, impG, inK]; grind))) | refine XK.exit rfl ?_))
    (first | refine XK.out rfl rfl rfl ?_ | refine XK.outN rfl rfl rfl ?_)
    refine cB ?_
    have : i = n := by omega
    subst this
    have : (List.range i).all (fun i => decide (i < 25) && decide ((t i).name.size ≤ 100)) = true := by
      simp only [List.all_eq_true, List.mem_range, Bool.and_eq_true, decide_eq_true_eq]
      exact hi2
    simp only [smallR, this, Bool.true_and]
    rw [Bool.eq_iff_iff]
    simp
    omega
end Go.Proofs.Ytoeghbhlklnajaa
