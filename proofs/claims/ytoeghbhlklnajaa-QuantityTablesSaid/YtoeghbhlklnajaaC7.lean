/- Contracts: package quantity, values of amounts. -/
import Derived.Test.YtoeghbhlklnajaaC6
namespace Go.Proofs.Ytoeghbhlklnajaa
open Go.Eng
set_option maxRecDepth 10000
set_option linter.unusedSimpArgs false
set_option linter.unusedVariables false

theorem cL {k : IntKind} {a b : Int} (h : a = b) : [AV.c (.int k a)] = [AV.c (.int k b)] := by rw [h]
theorem prodR_eq {a b c lim : Nat} (hb : 0 < b) (hc : 0 < c) : prodR a b c lim = if lim < a * b * c then ((0 : Int), false) else (((a * b * c : Nat) : Int), true) := by
  have h1 := Nat.le_mul_of_pos_right a hb
  have h2 := Nat.le_mul_of_pos_right (a * b) hc
  unfold prodR
  by_cases h : lim < a * b * c
  · simp only [if_pos h]
    split
    · rfl
    · split <;> rfl
  · rw [if_neg h, if_neg (by omega), if_neg (by omega)]
theorem value_ok (n : Nat) (t : Nat → U) (a : A) (to : Int) (hu : 0 ≤ a.unit ∧ a.unit < n) (ht : 0 ≤ to ∧ to < n) (hv : qOk a.val = true) (hf : fOk (t a.unit.toNat).fac) (hd : fOk (t to.toNat).fac) :
    Does Try.prog 35 [tabV n t, av a, .c (.int .i64 to)] (qr (valR a.val (t a.unit.toNat).fac (t to.toNat).fac)) := by
  refine Does.mk (fun _ => false) TT_ok Try.func35 rfl (by kernel_rfl) Try.ntmps35 rfl rfl fun E hT hE hN => ?_
  have hm : E.P.follows .mixedOrders = true := by rw [hE]; kernel_rfl
  obtain ⟨u, v⟩ := a
  simp only at hu hv hf
  have hst := Half.start hv hf hd
  have hDp := valD_pos hv hf hd
  obtain ⟨v1, v2, v3, v4, v5⟩ := qOk_iff.1 hv
  obtain ⟨f1, f2, f3, f4, f5⟩ := qOk_iff.1 hf.1
  obtain ⟨d1, d2, d3, d4, d5⟩ := qOk_iff.1 hd.1
  have hf0 := hf.2
  have hd0 := hd.2
  (repeat (first | refine XK.seq ?_ | refine XK.skip ?_ | refine XK.block ?_ | refine XK.pop ?_ | ((refine XK.rgn hT rfl rfl rfl ?_ ?_); focus (first | exact trivial | (refine ⟨by omega, by (simp <;> omega), fun i hi => ?_⟩; obtain rfl : i = 0 := (by omega); rfl) | (simp [AllP, impG]; done) | (simp only [AllP, List.append, List.nil_append, List.cons_append, inK, tdiv_nn, tmod_nn]; omega) | (simp [AllP, impG, inK, tdiv_nn, tmod_nn]; omega) | (simp only [AllP, impG, inK]; grind))) | ((refine XK.rgnD hT hm rfl rfl rfl (by kernel_rfl) ?_ ?_); focus (first | exact trivial | (refine ⟨by omega, by (simp <;> omega), fun i hi => ?_⟩; obtain rfl : i = 0 := (by omega); rfl) | (simp [AllP, impG]; done) | (simp only [AllP, List.append, List.nil_append, List.cons_append, inK, tdiv_nn, tmod_nn]; omega) | (simp [AllP, impG, inK, tdiv_nn, tmod_nn]; omega) | (simp only [AllP, impG, inK]; grind))) | refine XK.exit rfl ?_))
  generalize hF : (t u.toNat).fac = f at *
  generalize hD : (t to.toNat).fac = d at *
  refine XK.loop (ι := (Nat → Nat) × (Nat → Nat) × Nat) (fun s => ST.of [(6, .ptr 6 0), (10, .c (.bool (decide (v.1 < 0)))), (11, .vptr 284 0 1 0 0), (12, .vptr 376 0 1 0 0), (55, .c (.int .i64 s.2.2))] [(6, .cells 31 [.c (.int .i64 0), .c (.int .i64 0)]), (284, arr3 s.1), (376, arr3 s.2.1)] 1000 91 (fun _ => false))
    (fun s => s.2.2 ≤ 3 ∧ Half (valN v f d) (valD v f d) 1000000000000 s.1 s.2.1 s.2.2 0) (fun s => 3 - s.2.2)
    (three v.1.natAbs f.1.toNat d.2.toNat, three v.2.toNat f.2.toNat d.1.toNat, 0) ⟨Nat.zero_le _, hst⟩ (Weak.of hN rfl rfl rfl ⟨rfl, rfl, rfl, rfl, rfl⟩ ⟨⟨rfl, rfl⟩, ⟨⟨rfl, rfl, rfl⟩, rfl, fun i hi => ?_⟩, ⟨rfl, rfl, rfl⟩, rfl, fun i hi => ?_⟩) fun s hs => ?_
  · match i, hi with
    | 0, _ => exact cL (by simp only [three]; show ((v.1.natAbs : Nat) : Int) = if v.1 < 0 - v.1 then 0 - v.1 else v.1; split <;> omega)
    | 1, _ => exact cL (Int.toNat_of_nonneg (by omega))
    | 2, _ => exact cL (Int.toNat_of_nonneg (by omega))
  · match i, hi with
    | 0, _ => exact cL (Int.toNat_of_nonneg (by omega))
    | 1, _ => exact cL (Int.toNat_of_nonneg (by omega))
    | 2, _ => exact cL (Int.toNat_of_nonneg (by omega))
  clear hst
  obtain ⟨x, y, i⟩ := s
  obtain ⟨hi3, hh⟩ := hs
  simp only at hi3 hh
  (repeat (first | refine XK.seq ?_ | refine XK.skip ?_ | refine XK.block ?_ | refine XK.pop ?_ | ((refine XK.rgn hT rfl rfl rfl ?_ ?_); focus (first | exact trivial | (refine ⟨by omega, by (simp <;> omega), fun i hi => ?_⟩; obtain rfl : i = 0 := (by omega); rfl) | (simp [AllP, impG]; done) | (simp only [AllP, List.append, List.nil_append, List.cons_append, inK, tdiv_nn, tmod_nn]; omega) | (simp [AllP, impG, inK, tdiv_nn, tmod_nn]; omega) | (simp only [AllP, impG, inK]; grind))) | ((refine XK.rgnD hT hm rfl rfl rfl (by kernel_rfl) ?_ ?_); focus (first | exact trivial | (refine ⟨by omega, by (simp <;> omega), fun i hi => ?_⟩; obtain rfl : i = 0 := (by omega); rfl) | (simp [AllP, impG]; done) | (simp only [AllP, List.append, List.nil_append, List.cons_append, inK, tdiv_nn, tmod_nn]; omega) | (simp [AllP, impG, inK, tdiv_nn, tmod_nn]; omega) | (simp only [AllP, impG, inK]; grind))) | refine XK.exit rfl ?_)); refine XK.cond rfl (fun hb => ?_) (fun hb => ?_)
  · have hi : i < 3 := by simp at hb; omega
    (repeat (first | refine XK.seq ?_ | refine XK.skip ?_ | refine XK.block ?_ | refine XK.pop ?_ | ((refine XK.rgn hT rfl rfl rfl ?_ ?_); focus (first | exact trivial | (refine ⟨by omega, by (simp <;> omega), fun i hi => ?_⟩; obtain rfl : i = 0 := (by omega); rfl) | (simp [AllP, impG]; done) | (simp only [AllP, List.append, List.nil_append, List.cons_append, inK, tdiv_nn, tmod_nn]; omega) | (simp [AllP, impG, inK, tdiv_nn, tmod_nn]; omega) | (simp only [AllP, impG, inK]; grind))) | ((refine XK.rgnD hT hm rfl rfl rfl (by kernel_rfl) ?_ ?_); focus (first | exact trivial | (refine ⟨by omega, by (simp <;> omega), fun i hi => ?_⟩; obtain rfl : i = 0 := (by omega); rfl) | (simp [AllP, impG]; done) | (simp only [AllP, List.append, List.nil_append, List.cons_append, inK, tdiv_nn, tmod_nn]; omega) | (simp [AllP, impG, inK, tdiv_nn, tmod_nn]; omega) | (simp only [AllP, impG, inK]; grind))) | refine XK.exit rfl ?_))
    refine XK.loop (ι := (Nat → Nat) × (Nat → Nat) × Nat) (fun s => ST.of [(6, .ptr 6 0), (10, .c (.bool (decide (v.1 < 0)))), (11, .vptr 284 0 1 0 0), (12, .vptr 376 0 1 0 0), (13, .c (.int .i64 i)), (55, .c (.int .i64 i)), (58, .c (.int .i64 s.2.2))] [(6, .cells 31 [.c (.int .i64 0), .c (.int .i64 0)]), (284, arr3 s.1), (376, arr3 s.2.1)] 2000 91 (fun _ => false))
      (fun s => s.2.2 ≤ 3 ∧ Half (valN v f d) (valD v f d) 1000000000000 s.1 s.2.1 i s.2.2) (fun s => 3 - s.2.2)
      (x, y, 0) ⟨Nat.zero_le _, hh⟩ (Weak.of hN rfl rfl rfl ⟨rfl, rfl, rfl, rfl, rfl, rfl, rfl⟩ ⟨⟨rfl, rfl⟩, ⟨⟨rfl, rfl, rfl⟩, rfl, fun i hi => rfl⟩, ⟨rfl, rfl, rfl⟩, rfl, fun i hi => rfl⟩) fun s hs => ?_
    clear hh
    obtain ⟨x, y, j⟩ := s
    obtain ⟨hj3, hh⟩ := hs
    simp only at hj3 hh
    (repeat (first | refine XK.seq ?_ | refine XK.skip ?_ | refine XK.block ?_ | refine XK.pop ?_ | ((refine XK.rgn hT rfl rfl rfl ?_ ?_); focus (first | exact trivial | (refine ⟨by omega, by (simp <;> omega), fun i hi => ?_⟩; obtain rfl : i = 0 := (by omega); rfl) | (simp [AllP, impG]; done) | (simp only [AllP, List.append, List.nil_append, List.cons_append, inK, tdiv_nn, tmod_nn]; omega) | (simp [AllP, impG, inK, tdiv_nn, tmod_nn]; omega) | (simp only [AllP, impG, inK]; grind))) | ((refine XK.rgnD hT hm rfl rfl rfl (by kernel_rfl) ?_ ?_); focus (first | exact trivial | (refine ⟨by omega, by (simp <;> omega), fun i hi => ?_⟩; obtain rfl : i = 0 := (by omega); rfl) | (simp [AllP, impG]; done) | (simp only [AllP, List.append, List.nil_append, List.cons_append, inK, tdiv_nn, tmod_nn]; omega) | (simp [AllP, impG, inK, tdiv_nn, tmod_nn]; omega) | (simp only [AllP, impG, inK]; grind))) | refine XK.exit rfl ?_)); refine XK.cond rfl (fun hb => ?_) (fun hb => ?_)
    · have hj : j < 3 := by simp at hb; omega
      (repeat (first | refine XK.seq ?_ | refine XK.skip ?_ | refine XK.block ?_ | refine XK.pop ?_ | ((refine XK.rgn hT rfl rfl rfl ?_ ?_); focus (first | exact trivial | (refine ⟨by omega, by (simp <;> omega), fun i hi => ?_⟩; obtain rfl : i = 0 := (by omega); rfl) | (simp [AllP, impG]; done) | (simp only [AllP, List.append, List.nil_append, List.cons_append, inK, tdiv_nn, tmod_nn]; omega) | (simp [AllP, impG, inK, tdiv_nn, tmod_nn]; omega) | (simp only [AllP, impG, inK]; grind))) | ((refine XK.rgnD hT hm rfl rfl rfl (by kernel_rfl) ?_ ?_); focus (first | exact trivial | (refine ⟨by omega, by (simp <;> omega), fun i hi => ?_⟩; obtain rfl : i = 0 := (by omega); rfl) | (simp [AllP, impG]; done) | (simp only [AllP, List.append, List.nil_append, List.cons_append, inK, tdiv_nn, tmod_nn]; omega) | (simp [AllP, impG, inK, tdiv_nn, tmod_nn]; omega) | (simp only [AllP, impG, inK]; grind))) | refine XK.exit rfl ?_))
      refine XK.drawn hm ?_
      ((refine XD.go hT rfl rfl rfl rfl ?_ ?_); focus (first | exact trivial | (refine ⟨by omega, by (simp <;> omega), fun i hi => ?_⟩; obtain rfl : i = 0 := (by omega); rfl) | (simp [AllP, impG]; done) | (simp only [AllP, List.append, List.nil_append, List.cons_append, inK, tdiv_nn, tmod_nn]; omega) | (simp [AllP, impG, inK, tdiv_nn, tmod_nn]; omega) | (simp only [AllP, impG, inK]; grind)))
      refine XD.callM [284, 376] hE rfl rfl rfl rfl trivial (reduce_ok x y i j hi hj (fun k hk => Nat.le_trans (hh.bx k hk) (by omega)) (fun k hk => ⟨hh.pos k hk, Nat.le_trans (hh.by_ k hk) (by omega)⟩)) rfl ?_ rfl ?_ rfl rfl rfl ?_
      · exact ⟨rfl, rfl⟩
      · exact ⟨⟨⟨rfl, rfl, rfl⟩, rfl, fun i hi => rfl⟩, ⟨rfl, rfl, rfl⟩, rfl, fun i hi => rfl⟩
      ((refine XD.go hT rfl rfl rfl rfl ?_ ?_); focus (first | exact trivial | (refine ⟨by omega, by (simp <;> omega), fun i hi => ?_⟩; obtain rfl : i = 0 := (by omega); rfl) | (simp [AllP, impG]; done) | (simp only [AllP, List.append, List.nil_append, List.cons_append, inK, tdiv_nn, tmod_nn]; omega) | (simp [AllP, impG, inK, tdiv_nn, tmod_nn]; omega) | (simp only [AllP, impG, inK]; grind))); refine XD.fin (by kernel_rfl) ?_; (repeat (first | refine XK.seq ?_ | refine XK.skip ?_ | refine XK.block ?_ | refine XK.pop ?_ | ((refine XK.rgn hT rfl rfl rfl ?_ ?_); focus (first | exact trivial | (refine ⟨by omega, by (simp <;> omega), fun i hi => ?_⟩; obtain rfl : i = 0 := (by omega); rfl) | (simp [AllP, impG]; done) | (simp only [AllP, List.append, List.nil_append, List.cons_append, inK, tdiv_nn, tmod_nn]; omega) | (simp [AllP, impG, inK, tdiv_nn, tmod_nn]; omega) | (simp only [AllP, impG, inK]; grind))) | ((refine XK.rgnD hT hm rfl rfl rfl (by kernel_rfl) ?_ ?_); focus (first | exact trivial | (refine ⟨by omega, by (simp <;> omega), fun i hi => ?_⟩; obtain rfl : i = 0 := (by omega); rfl) | (simp [AllP, impG]; done) | (simp only [AllP, List.append, List.nil_append, List.cons_append, inK, tdiv_nn, tmod_nn]; omega) | (simp [AllP, impG, inK, tdiv_nn, tmod_nn]; omega) | (simp only [AllP, impG, inK]; grind))) | refine XK.exit rfl ?_))
      refine XK.inv ⟨(setN x i (x i / Nat.gcd (x i) (y j)), setN y j (y j / Nat.gcd (x i) (y j)), j + 1), ⟨hj, hh.step hi hj⟩, Weak.of hN rfl rfl rfl ⟨rfl, rfl, rfl, rfl, rfl, rfl, rfl⟩ ⟨⟨rfl, rfl⟩, ⟨⟨rfl, rfl, rfl⟩, rfl, fun i hi => rfl⟩, ⟨rfl, rfl, rfl⟩, rfl, fun i hi => rfl⟩, ?_⟩
      show 3 - (j + 1) < 3 - j
      omega
    · have hj : j = 3 := by simp at hb; omega
      subst hj
      (repeat (first | refine XK.seq ?_ | refine XK.skip ?_ | refine XK.block ?_ | refine XK.pop ?_ | ((refine XK.rgn hT rfl rfl rfl ?_ ?_); focus (first | exact trivial | (refine ⟨by omega, by (simp <;> omega), fun i hi => ?_⟩; obtain rfl : i = 0 := (by omega); rfl) | (simp [AllP, impG]; done) | (simp only [AllP, List.append, List.nil_append, List.cons_append, inK, tdiv_nn, tmod_nn]; omega) | (simp [AllP, impG, inK, tdiv_nn, tmod_nn]; omega) | (simp only [AllP, impG, inK]; grind))) | ((refine XK.rgnD hT hm rfl rfl rfl (by kernel_rfl) ?_ ?_); focus (first | exact trivial | (refine ⟨by omega, by (simp <;> omega), fun i hi => ?_⟩; obtain rfl : i = 0 := (by omega); rfl) | (simp [AllP, impG]; done) | (simp only [AllP, List.append, List.nil_append, List.cons_append, inK, tdiv_nn, tmod_nn]; omega) | (simp [AllP, impG, inK, tdiv_nn, tmod_nn]; omega) | (simp only [AllP, impG, inK]; grind))) | refine XK.exit rfl ?_))
      refine XK.inv ⟨(x, y, i + 1), ⟨hi, hh.next⟩, Weak.of hN rfl rfl rfl ⟨rfl, rfl, rfl, rfl, rfl⟩ ⟨⟨rfl, rfl⟩, ⟨⟨rfl, rfl, rfl⟩, rfl, fun i hi => rfl⟩, ⟨rfl, rfl, rfl⟩, rfl, fun i hi => rfl⟩, ?_⟩
      show 3 - (i + 1) < 3 - i
      omega
  · have hi : i = 3 := by simp at hb; omega
    subst hi
    obtain ⟨e1, e2⟩ := hh.end_ hDp
    have b : ∀ k, k < 3 → x k ≤ 9223372036854775807 ∧ y k ≤ 9223372036854775807 := fun k hk => ⟨Nat.le_trans (hh.bx k hk) (by omega), Nat.le_trans (hh.by_ k hk) (by omega)⟩
    (repeat (first | refine XK.seq ?_ | refine XK.skip ?_ | refine XK.block ?_ | refine XK.pop ?_ | ((refine XK.rgn hT rfl rfl rfl ?_ ?_); focus (first | exact trivial | (refine ⟨by omega, by (simp <;> omega), fun i hi => ?_⟩; obtain rfl : i = 0 := (by omega); rfl) | (simp [AllP, impG]; done) | (simp only [AllP, List.append, List.nil_append, List.cons_append, inK, tdiv_nn, tmod_nn]; omega) | (simp [AllP, impG, inK, tdiv_nn, tmod_nn]; omega) | (simp only [AllP, impG, inK]; grind))) | ((refine XK.rgnD hT hm rfl rfl rfl (by kernel_rfl) ?_ ?_); focus (first | exact trivial | (refine ⟨by omega, by (simp <;> omega), fun i hi => ?_⟩; obtain rfl : i = 0 := (by omega); rfl) | (simp [AllP, impG]; done) | (simp only [AllP, List.append, List.nil_append, List.cons_append, inK, tdiv_nn, tmod_nn]; omega) | (simp [AllP, impG, inK, tdiv_nn, tmod_nn]; omega) | (simp only [AllP, impG, inK]; grind))) | refine XK.exit rfl ?_)); refine XK.region ?_; ((refine XL.go hT rfl rfl rfl rfl ?_ ?_); focus (first | exact trivial | (refine ⟨by omega, by (simp <;> omega), fun i hi => ?_⟩; obtain rfl : i = 0 := (by omega); rfl) | (simp [AllP, impG]; done) | (simp only [AllP, List.append, List.nil_append, List.cons_append, inK, tdiv_nn, tmod_nn]; omega) | (simp [AllP, impG, inK, tdiv_nn, tmod_nn]; omega) | (simp only [AllP, impG, inK]; grind)))
    refine XL.callL hE rfl rfl rfl rfl trivial rfl (product_ok (x 0) (x 1) (x 2) 1000000000000 (b 0 (by omega)).1 (b 1 (by omega)).1 (b 2 (by omega)).1 (by omega)) ?_ rfl ?_
    · exact ⟨rfl, rfl⟩
    ((refine XL.go hT rfl rfl rfl rfl ?_ ?_); focus (first | exact trivial | (refine ⟨by omega, by (simp <;> omega), fun i hi => ?_⟩; obtain rfl : i = 0 := (by omega); rfl) | (simp [AllP, impG]; done) | (simp only [AllP, List.append, List.nil_append, List.cons_append, inK, tdiv_nn, tmod_nn]; omega) | (simp [AllP, impG, inK, tdiv_nn, tmod_nn]; omega) | (simp only [AllP, impG, inK]; grind))); refine XL.fin ?_; (repeat (first | refine XK.seq ?_ | refine XK.skip ?_ | refine XK.block ?_ | refine XK.pop ?_ | ((refine XK.rgn hT rfl rfl rfl ?_ ?_); focus (first | exact trivial | (refine ⟨by omega, by (simp <;> omega), fun i hi => ?_⟩; obtain rfl : i = 0 := (by omega); rfl) | (simp [AllP, impG]; done) | (simp only [AllP, List.append, List.nil_append, List.cons_append, inK, tdiv_nn, tmod_nn]; omega) | (simp [AllP, impG, inK, tdiv_nn, tmod_nn]; omega) | (simp only [AllP, impG, inK]; grind))) | ((refine XK.rgnD hT hm rfl rfl rfl (by kernel_rfl) ?_ ?_); focus (first | exact trivial | (refine ⟨by omega, by (simp <;> omega), fun i hi => ?_⟩; obtain rfl : i = 0 := (by omega); rfl) | (simp [AllP, impG]; done) | (simp only [AllP, List.append, List.nil_append, List.cons_append, inK, tdiv_nn, tmod_nn]; omega) | (simp [AllP, impG, inK, tdiv_nn, tmod_nn]; omega) | (simp only [AllP, impG, inK]; grind))) | refine XK.exit rfl ?_))
    (repeat (first | refine XK.seq ?_ | refine XK.skip ?_ | refine XK.block ?_ | refine XK.pop ?_ | ((refine XK.rgn hT rfl rfl rfl ?_ ?_); focus (first | exact trivial | (refine ⟨by omega, by (simp <;> omega), fun i hi => ?_⟩; obtain rfl : i = 0 := (by omega); rfl) | (simp [AllP, impG]; done) | (simp only [AllP, List.append, List.nil_append, List.cons_append, inK, tdiv_nn, tmod_nn]; omega) | (simp [AllP, impG, inK, tdiv_nn, tmod_nn]; omega) | (simp only [AllP, impG, inK]; grind))) | ((refine XK.rgnD hT hm rfl rfl rfl (by kernel_rfl) ?_ ?_); focus (first | exact trivial | (refine ⟨by omega, by (simp <;> omega), fun i hi => ?_⟩; obtain rfl : i = 0 := (by omega); rfl) | (simp [AllP, impG]; done) | (simp only [AllP, List.append, List.nil_append, List.cons_append, inK, tdiv_nn, tmod_nn]; omega) | (simp [AllP, impG, inK, tdiv_nn, tmod_nn]; omega) | (simp only [AllP, impG, inK]; grind))) | refine XK.exit rfl ?_)); refine XK.region ?_; ((refine XL.go hT rfl rfl rfl rfl ?_ ?_); focus (first | exact trivial | (refine ⟨by omega, by (simp <;> omega), fun i hi => ?_⟩; obtain rfl : i = 0 := (by omega); rfl) | (simp [AllP, impG]; done) | (simp only [AllP, List.append, List.nil_append, List.cons_append, inK, tdiv_nn, tmod_nn]; omega) | (simp [AllP, impG, inK, tdiv_nn, tmod_nn]; omega) | (simp only [AllP, impG, inK]; grind)))
    refine XL.callL hE rfl rfl rfl rfl trivial rfl (product_ok (y 0) (y 1) (y 2) 1000000 (b 0 (by omega)).2 (b 1 (by omega)).2 (b 2 (by omega)).2 (by omega)) ?_ rfl ?_
    · exact ⟨rfl, rfl⟩
    ((refine XL.go hT rfl rfl rfl rfl ?_ ?_); focus (first | exact trivial | (refine ⟨by omega, by (simp <;> omega), fun i hi => ?_⟩; obtain rfl : i = 0 := (by omega); rfl) | (simp [AllP, impG]; done) | (simp only [AllP, List.append, List.nil_append, List.cons_append, inK, tdiv_nn, tmod_nn]; omega) | (simp [AllP, impG, inK, tdiv_nn, tmod_nn]; omega) | (simp only [AllP, impG, inK]; grind))); refine XL.fin ?_; (repeat (first | refine XK.seq ?_ | refine XK.skip ?_ | refine XK.block ?_ | refine XK.pop ?_ | ((refine XK.rgn hT rfl rfl rfl ?_ ?_); focus (first | exact trivial | (refine ⟨by omega, by (simp <;> omega), fun i hi => ?_⟩; obtain rfl : i = 0 := (by omega); rfl) | (simp [AllP, impG]; done) | (simp only [AllP, List.append, List.nil_append, List.cons_append, inK, tdiv_nn, tmod_nn]; omega) | (simp [AllP, impG, inK, tdiv_nn, tmod_nn]; omega) | (simp only [AllP, impG, inK]; grind))) | ((refine XK.rgnD hT hm rfl rfl rfl (by kernel_rfl) ?_ ?_); focus (first | exact trivial | (refine ⟨by omega, by (simp <;> omega), fun i hi => ?_⟩; obtain rfl : i = 0 := (by omega); rfl) | (simp [AllP, impG]; done) | (simp only [AllP, List.append, List.nil_append, List.cons_append, inK, tdiv_nn, tmod_nn]; omega) | (simp [AllP, impG, inK, tdiv_nn, tmod_nn]; omega) | (simp only [AllP, impG, inK]; grind))) | refine XK.exit rfl ?_))
    have p1 := prodR_eq (a := x 0) (lim := 1000000000000) (hh.px 1 (by omega) (by omega)) (hh.px 2 (by omega) (by omega))
    have p2 := prodR_eq (a := y 0) (lim := 1000000) (hh.pos 1 (by omega)) (hh.pos 2 (by omega))
    rw [show x 0 * x 1 * x 2 = _ from e1] at p1
    rw [show y 0 * y 1 * y 2 = _ from e2] at p2
    (repeat (first | refine XK.seq ?_ | refine XK.skip ?_ | refine XK.block ?_ | refine XK.pop ?_ | ((refine XK.rgn hT rfl rfl rfl ?_ ?_); focus (first | exact trivial | (refine ⟨by omega, by (simp <;> omega), fun i hi => ?_⟩; obtain rfl : i = 0 := (by omega); rfl) | (simp [AllP, impG]; done) | (simp only [AllP, List.append, List.nil_append, List.cons_append, inK, tdiv_nn, tmod_nn]; omega) | (simp [AllP, impG, inK, tdiv_nn, tmod_nn]; omega) | (simp only [AllP, impG, inK]; grind))) | ((refine XK.rgnD hT hm rfl rfl rfl (by kernel_rfl) ?_ ?_); focus (first | exact trivial | (refine ⟨by omega, by (simp <;> omega), fun i hi => ?_⟩; obtain rfl : i = 0 := (by omega); rfl) | (simp [AllP, impG]; done) | (simp only [AllP, List.append, List.nil_append, List.cons_append, inK, tdiv_nn, tmod_nn]; omega) | (simp [AllP, impG, inK, tdiv_nn, tmod_nn]; omega) | (simp only [AllP, impG, inK]; grind))) | refine XK.exit rfl ?_)); refine XK.cond rfl (fun hb => ?_) (fun hb => ?_)
    · (repeat (first | refine XK.seq ?_ | refine XK.skip ?_ | refine XK.block ?_ | refine XK.pop ?_ | ((refine XK.rgn hT rfl rfl rfl ?_ ?_); focus (first | exact trivial | (refine ⟨by omega, by (simp <;> omega), fun i hi => ?_⟩; obtain rfl : i = 0 := (by omega); rfl) | (simp [AllP, impG]; done) | (simp only [AllP, List.append, List.nil_append, List.cons_append, inK, tdiv_nn, tmod_nn]; omega) | (simp [AllP, impG, inK, tdiv_nn, tmod_nn]; omega) | (simp only [AllP, impG, inK]; grind))) | ((refine XK.rgnD hT hm rfl rfl rfl (by kernel_rfl) ?_ ?_); focus (first | exact trivial | (refine ⟨by omega, by (simp <;> omega), fun i hi => ?_⟩; obtain rfl : i = 0 := (by omega); rfl) | (simp [AllP, impG]; done) | (simp only [AllP, List.append, List.nil_append, List.cons_append, inK, tdiv_nn, tmod_nn]; omega) | (simp [AllP, impG, inK, tdiv_nn, tmod_nn]; omega) | (simp only [AllP, impG, inK]; grind))) | refine XK.exit rfl ?_))
      (first | refine XK.out rfl rfl rfl ?_ | refine XK.outN rfl rfl rfl ?_)
      have : 1000000000000 < valN v f d / (valN v f d).gcd (valD v f d) ∨ 1000000 < valD v f d / (valN v f d).gcd (valD v f d) := by
        rw [p1, p2] at hb
        by_cases c1 : 1000000000000 < valN v f d / (valN v f d).gcd (valD v f d)
        · exact .inl c1
        · by_cases c2 : 1000000 < valD v f d / (valN v f d).gcd (valD v f d)
          · exact .inr c2
          · simp [c1, c2] at hb
      simp only [valR, fracR, if_pos this]
      rfl
    · have hc : ¬ (1000000000000 < valN v f d / (valN v f d).gcd (valD v f d) ∨ 1000000 < valD v f d / (valN v f d).gcd (valD v f d)) := by
        rw [p1, p2] at hb
        by_cases c1 : 1000000000000 < valN v f d / (valN v f d).gcd (valD v f d)
        · simp [c1] at hb
        · by_cases c2 : 1000000 < valD v f d / (valN v f d).gcd (valD v f d)
          · simp [c2] at hb
          · simp [c1, c2]
      rw [if_neg (fun h => hc (.inl h))] at p1
      rw [if_neg (fun h => hc (.inr h))] at p2
      rw [p1, p2]
      have b1 : valN v f d / (valN v f d).gcd (valD v f d) ≤ 1000000000000 := by
        simp only [not_or, Nat.not_lt] at hc; exact hc.1
      (repeat (first | refine XK.seq ?_ | refine XK.skip ?_ | refine XK.block ?_ | refine XK.pop ?_ | ((refine XK.rgn hT rfl rfl rfl ?_ ?_); focus (first | exact trivial | (refine ⟨by omega, by (simp <;> omega), fun i hi => ?_⟩; obtain rfl : i = 0 := (by omega); rfl) | (simp [AllP, impG]; done) | (simp only [AllP, List.append, List.nil_append, List.cons_append, inK, tdiv_nn, tmod_nn]; omega) | (simp [AllP, impG, inK, tdiv_nn, tmod_nn]; omega) | (simp only [AllP, impG, inK]; grind))) | ((refine XK.rgnD hT hm rfl rfl rfl (by kernel_rfl) ?_ ?_); focus (first | exact trivial | (refine ⟨by omega, by (simp <;> omega), fun i hi => ?_⟩; obtain rfl : i = 0 := (by omega); rfl) | (simp [AllP, impG]; done) | (simp only [AllP, List.append, List.nil_append, List.cons_append, inK, tdiv_nn, tmod_nn]; omega) | (simp [AllP, impG, inK, tdiv_nn, tmod_nn]; omega) | (simp only [AllP, impG, inK]; grind))) | refine XK.exit rfl ?_)); refine XK.cond rfl (fun hb => ?_) (fun hb => ?_)
      · (repeat (first | refine XK.seq ?_ | refine XK.skip ?_ | refine XK.block ?_ | refine XK.pop ?_ | ((refine XK.rgn hT rfl rfl rfl ?_ ?_); focus (first | exact trivial | (refine ⟨by omega, by (simp <;> omega), fun i hi => ?_⟩; obtain rfl : i = 0 := (by omega); rfl) | (simp [AllP, impG]; done) | (simp only [AllP, List.append, List.nil_append, List.cons_append, inK, tdiv_nn, tmod_nn]; omega) | (simp [AllP, impG, inK, tdiv_nn, tmod_nn]; omega) | (simp only [AllP, impG, inK]; grind))) | ((refine XK.rgnD hT hm rfl rfl rfl (by kernel_rfl) ?_ ?_); focus (first | exact trivial | (refine ⟨by omega, by (simp <;> omega), fun i hi => ?_⟩; obtain rfl : i = 0 := (by omega); rfl) | (simp [AllP, impG]; done) | (simp only [AllP, List.append, List.nil_append, List.cons_append, inK, tdiv_nn, tmod_nn]; omega) | (simp [AllP, impG, inK, tdiv_nn, tmod_nn]; omega) | (simp only [AllP, impG, inK]; grind))) | refine XK.exit rfl ?_))
        (first | refine XK.out rfl rfl rfl ?_ | refine XK.outN rfl rfl rfl ?_)
        simp only [qr, valR, fracR, if_neg hc, qv, hb, if_true, Int.zero_sub]
      · (repeat (first | refine XK.seq ?_ | refine XK.skip ?_ | refine XK.block ?_ | refine XK.pop ?_ | ((refine XK.rgn hT rfl rfl rfl ?_ ?_); focus (first | exact trivial | (refine ⟨by omega, by (simp <;> omega), fun i hi => ?_⟩; obtain rfl : i = 0 := (by omega); rfl) | (simp [AllP, impG]; done) | (simp only [AllP, List.append, List.nil_append, List.cons_append, inK, tdiv_nn, tmod_nn]; omega) | (simp [AllP, impG, inK, tdiv_nn, tmod_nn]; omega) | (simp only [AllP, impG, inK]; grind))) | ((refine XK.rgnD hT hm rfl rfl rfl (by kernel_rfl) ?_ ?_); focus (first | exact trivial | (refine ⟨by omega, by (simp <;> omega), fun i hi => ?_⟩; obtain rfl : i = 0 := (by omega); rfl) | (simp [AllP, impG]; done) | (simp only [AllP, List.append, List.nil_append, List.cons_append, inK, tdiv_nn, tmod_nn]; omega) | (simp [AllP, impG, inK, tdiv_nn, tmod_nn]; omega) | (simp only [AllP, impG, inK]; grind))) | refine XK.exit rfl ?_))
        (first | refine XK.out rfl rfl rfl ?_ | refine XK.outN rfl rfl rfl ?_)
        simp only [qr, valR, fracR, if_neg hc, qv, hb]
        rfl
end Go.Proofs.Ytoeghbhlklnajaa
