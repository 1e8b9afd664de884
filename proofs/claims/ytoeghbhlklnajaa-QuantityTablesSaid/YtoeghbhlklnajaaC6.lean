/- Contracts: package quantity, values. -/
import Derived.Test.YtoeghbhlklnajaaC5
import Derived.Test.YtoeghbhlklnajaaEngT
import Derived.Test.YtoeghbhlklnajaaM3
namespace Go.Proofs.Ytoeghbhlklnajaa
open Go.Eng
set_option maxRecDepth 10000
set_option linter.unusedSimpArgs false
set_option linter.unusedVariables false

def arr3 (f : Nat → Nat) : Ob := .vec 71 1 0 3 (fun i => [.c (.int .i64 (f i))])

theorem setRowF_int (x : Nat → Nat) (i v k : Nat) (z : Int) (hz : z = (v : Int)) : [AV.c (.int .i64 (setN x i v k : Nat))] = setRowF (fun i => [AV.c (.int .i64 (x i : Nat))]) i 0 [AV.c (.int .i64 z)] k := by
  subst hz
  unfold setRowF setN
  by_cases h : k = i
  · subst h; simp [setL]
  · have : Nat.beq k i = false := by
      cases hb : Nat.beq k i with
      | false => rfl
      | true => exact absurd (Nat.eq_of_beq_eq_true hb) h
    simp [h, this]
theorem reduce_ok (x y : Nat → Nat) (i j : Nat) (hi : i < 3) (hj : j < 3) (hx : ∀ k, k < 3 → x k ≤ 9223372036854775807) (hy : ∀ k, k < 3 → 0 < y k ∧ y k ≤ 9223372036854775807) :
    DoesM Try.prog 49 [.vptr 0 0 1 i 0, .vptr 1 0 1 j 0] [arr3 x, arr3 y] (.tup []) [arr3 (setN x i (x i / Nat.gcd (x i) (y j))), arr3 (setN y j (y j / Nat.gcd (x i) (y j)))] := by
  refine DoesM.mk (fun _ => false) 100 TT_ok Try.func49 rfl (by kernel_rfl) Try.ntmps49 rfl rfl rfl fun E hT hE hN => ?_
  have hm : E.P.follows .mixedOrders = true := by rw [hE]; kernel_rfl
  have hxi := hx i hi
  have hyj := hy j hj
  (repeat (first | refine XK.seq ?_ | refine XK.skip ?_ | refine XK.block ?_ | refine XK.pop ?_ | ((refine XK.rgn hT rfl rfl rfl ?_ ?_); focus (first | exact trivial | (refine ⟨by omega, by (simp <;> omega), fun i hi => ?_⟩; obtain rfl : i = 0 := (by omega); rfl) | (simp [AllP, impG]; done) | (simp only [AllP, List.append, List.nil_append, List.cons_append, inK, tdiv_nn, tmod_nn]; omega) | (simp [AllP, impG, inK, tdiv_nn, tmod_nn]; omega) | (simp only [AllP, impG, inK]; grind))) | ((refine XK.rgnD hT hm rfl rfl rfl (by kernel_rfl) ?_ ?_); focus (first | exact trivial | (refine ⟨by omega, by (simp <;> omega), fun i hi => ?_⟩; obtain rfl : i = 0 := (by omega); rfl) | (simp [AllP, impG]; done) | (simp only [AllP, List.append, List.nil_append, List.cons_append, inK, tdiv_nn, tmod_nn]; omega) | (simp [AllP, impG, inK, tdiv_nn, tmod_nn]; omega) | (simp only [AllP, impG, inK]; grind))) | refine XK.exit rfl ?_))
  refine XK.loop (ι := Nat × Nat) (fun p => ST.of [(0, .vptr 0 0 1 i 0), (1, .vptr 1 0 1 j 0), (4, .c (.int .i64 p.1)), (5, .c (.int .i64 p.2))] [(0, arr3 x), (1, arr3 y)] 1000 32 (fun _ => false))
    (fun p => p.1 ≤ 9223372036854775807 ∧ p.2 ≤ 9223372036854775807 ∧ Nat.gcd p.1 p.2 = Nat.gcd (x i) (y j)) (fun p => p.2) (y j, x i) ⟨by omega, by omega, Nat.gcd_comm _ _⟩ (Weak.of hN rfl rfl rfl ⟨rfl, rfl, rfl, rfl⟩ ⟨⟨⟨rfl, rfl, rfl⟩, rfl, fun _ _ => rfl⟩, ⟨rfl, rfl, rfl⟩, rfl, fun _ _ => rfl⟩) fun p hp => ?_
  obtain ⟨u, v⟩ := p
  obtain ⟨g1, g2, g3⟩ := hp
  simp only at g1 g2 g3
  (repeat (first | refine XK.seq ?_ | refine XK.skip ?_ | refine XK.block ?_ | refine XK.pop ?_ | ((refine XK.rgn hT rfl rfl rfl ?_ ?_); focus (first | exact trivial | (refine ⟨by omega, by (simp <;> omega), fun i hi => ?_⟩; obtain rfl : i = 0 := (by omega); rfl) | (simp [AllP, impG]; done) | (simp only [AllP, List.append, List.nil_append, List.cons_append, inK, tdiv_nn, tmod_nn]; omega) | (simp [AllP, impG, inK, tdiv_nn, tmod_nn]; omega) | (simp only [AllP, impG, inK]; grind))) | ((refine XK.rgnD hT hm rfl rfl rfl (by kernel_rfl) ?_ ?_); focus (first | exact trivial | (refine ⟨by omega, by (simp <;> omega), fun i hi => ?_⟩; obtain rfl : i = 0 := (by omega); rfl) | (simp [AllP, impG]; done) | (simp only [AllP, List.append, List.nil_append, List.cons_append, inK, tdiv_nn, tmod_nn]; omega) | (simp [AllP, impG, inK, tdiv_nn, tmod_nn]; omega) | (simp only [AllP, impG, inK]; grind))) | refine XK.exit rfl ?_)); refine XK.cond rfl (fun hb => ?_) (fun hb => ?_)
  · have hv : v ≠ 0 := by simpa using hb
    (repeat (first | refine XK.seq ?_ | refine XK.skip ?_ | refine XK.block ?_ | refine XK.pop ?_ | ((refine XK.rgn hT rfl rfl rfl ?_ ?_); focus (first | exact trivial | (refine ⟨by omega, by (simp <;> omega), fun i hi => ?_⟩; obtain rfl : i = 0 := (by omega); rfl) | (simp [AllP, impG]; done) | (simp only [AllP, List.append, List.nil_append, List.cons_append, inK, tdiv_nn, tmod_nn]; omega) | (simp [AllP, impG, inK, tdiv_nn, tmod_nn]; omega) | (simp only [AllP, impG, inK]; grind))) | ((refine XK.rgnD hT hm rfl rfl rfl (by kernel_rfl) ?_ ?_); focus (first | exact trivial | (refine ⟨by omega, by (simp <;> omega), fun i hi => ?_⟩; obtain rfl : i = 0 := (by omega); rfl) | (simp [AllP, impG]; done) | (simp only [AllP, List.append, List.nil_append, List.cons_append, inK, tdiv_nn, tmod_nn]; omega) | (simp [AllP, impG, inK, tdiv_nn, tmod_nn]; omega) | (simp only [AllP, impG, inK]; grind))) | refine XK.exit rfl ?_))
    refine XK.inv ⟨(v, u % v), ⟨g2, ?_, ?_⟩, Weak.of hN rfl rfl rfl ⟨rfl, rfl, rfl, rfl⟩ ⟨⟨⟨rfl, rfl, rfl⟩, rfl, fun _ _ => rfl⟩, ⟨rfl, rfl, rfl⟩, rfl, fun _ _ => rfl⟩, ?_⟩
    · exact Nat.le_trans (Nat.le_of_lt (Nat.mod_lt _ (Nat.pos_of_ne_zero hv))) g2
    · rw [← g3, Nat.gcd_comm u v, Nat.gcd_rec v u, Nat.gcd_comm]
    · exact Nat.mod_lt _ (Nat.pos_of_ne_zero hv)
  · have hv : v = 0 := by simpa using hb
    subst hv
    have g3 : u = Nat.gcd (x i) (y j) := by rw [← g3, Nat.gcd_zero_right]
    have hu : u ≠ 0 := by
      have := Nat.gcd_pos_of_pos_right (x i) hyj.1
      omega
    have q1 := Nat.div_le_self (x i) u
    have q2 := Nat.div_le_self (y j) u
    (repeat (first | refine XK.seq ?_ | refine XK.skip ?_ | refine XK.block ?_ | refine XK.pop ?_ | ((refine XK.rgn hT rfl rfl rfl ?_ ?_); focus (first | exact trivial | (refine ⟨by omega, by (simp <;> omega), fun i hi => ?_⟩; obtain rfl : i = 0 := (by omega); rfl) | (simp [AllP, impG]; done) | (simp only [AllP, List.append, List.nil_append, List.cons_append, inK, tdiv_nn, tmod_nn]; omega) | (simp [AllP, impG, inK, tdiv_nn, tmod_nn]; omega) | (simp only [AllP, impG, inK]; grind))) | ((refine XK.rgnD hT hm rfl rfl rfl (by kernel_rfl) ?_ ?_); focus (first | exact trivial | (refine ⟨by omega, by (simp <;> omega), fun i hi => ?_⟩; obtain rfl : i = 0 := (by omega); rfl) | (simp [AllP, impG]; done) | (simp only [AllP, List.append, List.nil_append, List.cons_append, inK, tdiv_nn, tmod_nn]; omega) | (simp [AllP, impG, inK, tdiv_nn, tmod_nn]; omega) | (simp only [AllP, impG, inK]; grind))) | refine XK.exit rfl ?_))
    (first | refine XK.outR [0, 1] hN rfl rfl rfl ?_ rfl rfl ?_ | refine XK.outRN [0, 1] hN rfl rfl rfl ?_ rfl rfl ?_)
    · refine ⟨⟨⟨rfl, rfl, rfl⟩, rfl, fun k hk => ?_⟩, ⟨rfl, rfl, rfl⟩, rfl, fun k hk => ?_⟩
      · rw [← g3]; exact setRowF_int x i _ k _ rfl
      · rw [← g3]; exact setRowF_int y j _ k _ rfl
    · exact AvIs.refl _
end Go.Proofs.Ytoeghbhlklnajaa
