/- Contracts: the reference of package quantity: scaled. -/
import Derived.Test.YtoeghbhlklnajaaC13
namespace Go.Proofs.Ytoeghbhlklnajaa
open Go.Eng
set_option maxRecDepth 10000
set_option linter.unusedSimpArgs false
set_option linter.unusedVariables false
def ups (neg : Bool) (x : Nat → Nat) (i : Nat) : Int := if i = 0 then sg neg (x i) else (x i : Int)
theorem ups_abs (neg : Bool) (x : Nat → Nat) (i : Nat) : (ups neg x i).natAbs = x i := by
  unfold ups; split
  · exact sg_abs _ _
  · rfl
theorem ups_bd (neg : Bool) (x : Nat → Nat) (i B : Nat) (h : x i ≤ B) : -(B : Int) ≤ ups neg x i ∧ ups neg x i ≤ B := by
  unfold ups; split
  · exact sg_bd _ _ _ h
  · omega
theorem ups_div (neg : Bool) (x : Nat → Nat) (i g : Nat) : (ups neg x i).tdiv (g : Int) = ups neg (setN x i (x i / g)) i := by
  unfold ups setN
  split
  · rename_i h; simp [sg_tdiv]
  · simp
theorem ups_set (neg : Bool) (x : Nat → Nat) (i j v : Nat) (h : j ≠ i) : ups neg (setN x i v) j = ups neg x j := by
  unfold ups setN
  simp [h]
def arrS (neg : Bool) (x : Nat → Nat) : Ob := .vec 71 1 0 3 (fun i => [.c (.int .i64 (ups neg x i))])

theorem makeR_low (neg : Bool) (p q : Nat) (h : Nat.gcd p q = 1) (hq : 0 < q) (h1 : p ≤ 1000000000000) (h2 : q ≤ 1000000) : makeR (sg neg p) q = ((sg neg p, (q : Int)), 0) := by
  have hq' : (q : Int) ≠ 0 := by omega
  unfold makeR
  rw [if_neg hq', sg_abs, Int.natAbs_natCast]
  unfold fracR
  rw [h, Nat.div_one, Nat.div_one, if_neg (by omega)]
  have : decide ((q : Int) < 0) = false := by simp
  rw [this]
  cases neg
  · have : decide (sg false p < 0) = false := by simp [sg]
    rw [this]; rfl
  · by_cases hp : p = 0
    · subst hp; rfl
    · have : decide (sg true p < 0) = true := by simp [sg]; omega
      rw [this]; rfl
theorem scaled_ok (v f d : Q) (hv : qOk v = true) (hf : fOk f) (hd : fOk d) : Does Try.prog 37 [qv v, qv f, qv d] (qr (valR v f d)) := by
  refine Does.mk (fun _ => false) TT_ok Try.func37 rfl (by kernel_rfl) Try.ntmps37 rfl rfl fun E hT hE hN => ?_
  have hm : E.P.follows .mixedOrders = true := by rw [hE]; kernel_rfl
  have hst := Half.start hv hf hd
  have hDp := valD_pos hv hf hd
  obtain ⟨v1, v2, v3, v4, v5⟩ := qOk_iff.1 hv
  obtain ⟨f1, f2, f3, f4, f5⟩ := qOk_iff.1 hf.1
  obtain ⟨d1, d2, d3, d4, d5⟩ := qOk_iff.1 hd.1
  have hf0 := hf.2
  have hd0 := hd.2
  (repeat (first | refine XK.seq ?_ | refine XK.skip ?_ | refine XK.block ?_ | refine XK.pop ?_ | ((refine XK.rgn hT rfl rfl rfl ?_ ?_); focus (first | exact trivial | (refine ⟨by omega, by (simp <;> omega), fun i hi => ?_⟩; obtain rfl : i = 0 := (by omega); rfl) | (simp [AllP, impG]; done) | (simp only [AllP, List.append, List.nil_append, List.cons_append, inK, tdiv_nn, tmod_nn]; omega) | (simp [AllP, impG, inK, tdiv_nn, tmod_nn]; omega) | (simp only [AllP, impG, inK]; grind))) | ((refine XK.rgnD hT hm rfl rfl rfl (by kernel_rfl) ?_ ?_); focus (first | exact trivial | (refine ⟨by omega, by (simp <;> omega), fun i hi => ?_⟩; obtain rfl : i = 0 := (by omega); rfl) | (simp [AllP, impG]; done) | (simp only [AllP, List.append, List.nil_append, List.cons_append, inK, tdiv_nn, tmod_nn]; omega) | (simp [AllP, impG, inK, tdiv_nn, tmod_nn]; omega) | (simp only [AllP, impG, inK]; grind))) | refine XK.exit rfl ?_))
  refine XK.loop (ι := (Nat → Nat) × (Nat → Nat) × Nat) (fun s => ST.of [(6, .ptr 6 0), (8, .vptr 94 0 1 0 0), (9, .vptr 181 0 1 0 0), (10, .c (.int .i64 s.2.2))] [(6, .cells 31 [.c (.int .i64 0), .c (.int .i64 0)]), (94, arrS (decide (v.1 < 0)) s.1), (181, arr3 s.2.1)] 1000 86 (fun _ => false))
    (fun s => s.2.2 ≤ 3 ∧ Half (valN v f d) (valD v f d) 1000000000000 s.1 s.2.1 s.2.2 0) (fun s => 3 - s.2.2)
    (three v.1.natAbs f.1.toNat d.2.toNat, three v.2.toNat f.2.toNat d.1.toNat, 0) ⟨Nat.zero_le _, hst⟩ (Weak.of hN rfl rfl rfl ⟨rfl, rfl, rfl, rfl⟩ ⟨⟨rfl, rfl⟩, ⟨⟨rfl, rfl, rfl⟩, rfl, fun i hi => ?_⟩, ⟨rfl, rfl, rfl⟩, rfl, fun i hi => ?_⟩) fun s hs => ?_
  · match i, hi with
    | 0, _ => exact cL (by show sg (decide (v.1 < 0)) v.1.natAbs = v.1; unfold sg; by_cases h : v.1 < 0 <;> simp [h] <;> omega)
    | 1, _ => exact cL (Int.toNat_of_nonneg (by omega))
    | 2, _ => exact cL (Int.toNat_of_nonneg (by omega))
  · match i, hi with
    | 0, _ => exact cL (Int.toNat_of_nonneg (by omega))
    | 1, _ => exact cL (Int.toNat_of_nonneg (by omega))
    | 2, _ => exact cL (Int.toNat_of_nonneg (by omega))
  clear hst
  generalize hng : decide (v.1 < 0) = neg
  obtain ⟨x, y, i⟩ := s
  obtain ⟨hi3, hh⟩ := hs
  simp only at hi3 hh
  (repeat (first | refine XK.seq ?_ | refine XK.skip ?_ | refine XK.block ?_ | refine XK.pop ?_ | ((refine XK.rgn hT rfl rfl rfl ?_ ?_); focus (first | exact trivial | (refine ⟨by omega, by (simp <;> omega), fun i hi => ?_⟩; obtain rfl : i = 0 := (by omega); rfl) | (simp [AllP, impG]; done) | (simp only [AllP, List.append, List.nil_append, List.cons_append, inK, tdiv_nn, tmod_nn]; omega) | (simp [AllP, impG, inK, tdiv_nn, tmod_nn]; omega) | (simp only [AllP, impG, inK]; grind))) | ((refine XK.rgnD hT hm rfl rfl rfl (by kernel_rfl) ?_ ?_); focus (first | exact trivial | (refine ⟨by omega, by (simp <;> omega), fun i hi => ?_⟩; obtain rfl : i = 0 := (by omega); rfl) | (simp [AllP, impG]; done) | (simp only [AllP, List.append, List.nil_append, List.cons_append, inK, tdiv_nn, tmod_nn]; omega) | (simp [AllP, impG, inK, tdiv_nn, tmod_nn]; omega) | (simp only [AllP, impG, inK]; grind))) | refine XK.exit rfl ?_)); refine XK.cond rfl (fun hb => ?_) (fun hb => ?_)
  · have hi : i < 3 := by simp at hb; omega
    (repeat (first | refine XK.seq ?_ | refine XK.skip ?_ | refine XK.block ?_ | refine XK.pop ?_ | ((refine XK.rgn hT rfl rfl rfl ?_ ?_); focus (first | exact trivial | (refine ⟨by omega, by (simp <;> omega), fun i hi => ?_⟩; obtain rfl : i = 0 := (by omega); rfl) | (simp [AllP, impG]; done) | (simp only [AllP, List.append, List.nil_append, List.cons_append, inK, tdiv_nn, tmod_nn]; omega) | (simp [AllP, impG, inK, tdiv_nn, tmod_nn]; omega) | (simp only [AllP, impG, inK]; grind))) | ((refine XK.rgnD hT hm rfl rfl rfl (by kernel_rfl) ?_ ?_); focus (first | exact trivial | (refine ⟨by omega, by (simp <;> omega), fun i hi => ?_⟩; obtain rfl : i = 0 := (by omega); rfl) | (simp [AllP, impG]; done) | (simp only [AllP, List.append, List.nil_append, List.cons_append, inK, tdiv_nn, tmod_nn]; omega) | (simp [AllP, impG, inK, tdiv_nn, tmod_nn]; omega) | (simp only [AllP, impG, inK]; grind))) | refine XK.exit rfl ?_))
    refine XK.loop (ι := (Nat → Nat) × (Nat → Nat) × Nat) (fun s => ST.of [(6, .ptr 6 0), (8, .vptr 94 0 1 0 0), (9, .vptr 181 0 1 0 0), (10, .c (.int .i64 i)), (11, .c (.int .i64 s.2.2))] [(6, .cells 31 [.c (.int .i64 0), .c (.int .i64 0)]), (94, arrS neg s.1), (181, arr3 s.2.1)] 2000 86 (fun _ => false))
      (fun s => s.2.2 ≤ 3 ∧ Half (valN v f d) (valD v f d) 1000000000000 s.1 s.2.1 i s.2.2) (fun s => 3 - s.2.2)
      (x, y, 0) ⟨Nat.zero_le _, hh⟩ (Weak.of hN rfl rfl rfl ⟨rfl, rfl, rfl, rfl, rfl⟩ ⟨⟨rfl, rfl⟩, ⟨⟨rfl, rfl, rfl⟩, rfl, fun i hi => rfl⟩, ⟨rfl, rfl, rfl⟩, rfl, fun i hi => rfl⟩) fun s hs => ?_
    clear hh
    obtain ⟨x, y, j⟩ := s
    obtain ⟨hj3, hh⟩ := hs
    simp only at hj3 hh
    (repeat (first | refine XK.seq ?_ | refine XK.skip ?_ | refine XK.block ?_ | refine XK.pop ?_ | ((refine XK.rgn hT rfl rfl rfl ?_ ?_); focus (first | exact trivial | (refine ⟨by omega, by (simp <;> omega), fun i hi => ?_⟩; obtain rfl : i = 0 := (by omega); rfl) | (simp [AllP, impG]; done) | (simp only [AllP, List.append, List.nil_append, List.cons_append, inK, tdiv_nn, tmod_nn]; omega) | (simp [AllP, impG, inK, tdiv_nn, tmod_nn]; omega) | (simp only [AllP, impG, inK]; grind))) | ((refine XK.rgnD hT hm rfl rfl rfl (by kernel_rfl) ?_ ?_); focus (first | exact trivial | (refine ⟨by omega, by (simp <;> omega), fun i hi => ?_⟩; obtain rfl : i = 0 := (by omega); rfl) | (simp [AllP, impG]; done) | (simp only [AllP, List.append, List.nil_append, List.cons_append, inK, tdiv_nn, tmod_nn]; omega) | (simp [AllP, impG, inK, tdiv_nn, tmod_nn]; omega) | (simp only [AllP, impG, inK]; grind))) | refine XK.exit rfl ?_)); refine XK.cond rfl (fun hc => ?_) (fun hc => ?_)
    · have hj : j < 3 := by simp at hc; omega
      have bx := hh.bx i hi
      have bx2 := ups_bd neg x i _ bx
      have by1 := hh.by_ j hj
      have by0 := hh.pos j hj
      have hg0 : 0 < Nat.gcd (x i) (y j) := Nat.gcd_pos_of_pos_right _ by0
      have hg1 : Nat.gcd (x i) (y j) ≤ y j := Nat.gcd_le_right _ by0
      have q1 : -((1000000000000 : Nat) : Int) ≤ (ups neg x i).tdiv (Nat.gcd (x i) (y j) : Nat) ∧ (ups neg x i).tdiv (Nat.gcd (x i) (y j) : Nat) ≤ ((1000000000000 : Nat) : Int) := by
        rw [ups_div]
        refine ups_bd _ _ _ _ ?_
        have := Nat.div_le_self (x i) (Nat.gcd (x i) (y j))
        simp only [setN, if_true]
        omega
      have q2 := Nat.div_le_self (y j) (Nat.gcd (x i) (y j))
      (repeat (first | refine XK.seq ?_ | refine XK.skip ?_ | refine XK.block ?_ | refine XK.pop ?_ | ((refine XK.rgn hT rfl rfl rfl ?_ ?_); focus (first | exact trivial | (refine ⟨by omega, by (simp <;> omega), fun i hi => ?_⟩; obtain rfl : i = 0 := (by omega); rfl) | (simp [AllP, impG]; done) | (simp only [AllP, List.append, List.nil_append, List.cons_append, inK, tdiv_nn, tmod_nn]; omega) | (simp [AllP, impG, inK, tdiv_nn, tmod_nn]; omega) | (simp only [AllP, impG, inK]; grind))) | ((refine XK.rgnD hT hm rfl rfl rfl (by kernel_rfl) ?_ ?_); focus (first | exact trivial | (refine ⟨by omega, by (simp <;> omega), fun i hi => ?_⟩; obtain rfl : i = 0 := (by omega); rfl) | (simp [AllP, impG]; done) | (simp only [AllP, List.append, List.nil_append, List.cons_append, inK, tdiv_nn, tmod_nn]; omega) | (simp [AllP, impG, inK, tdiv_nn, tmod_nn]; omega) | (simp only [AllP, impG, inK]; grind))) | refine XK.exit rfl ?_)); refine XK.drawn hm ?_; ((refine XD.go hT rfl rfl rfl rfl ?_ ?_); focus (first | exact trivial | (refine ⟨by omega, by (simp <;> omega), fun i hi => ?_⟩; obtain rfl : i = 0 := (by omega); rfl) | (simp [AllP, impG]; done) | (simp only [AllP, List.append, List.nil_append, List.cons_append, inK, tdiv_nn, tmod_nn]; omega) | (simp [AllP, impG, inK, tdiv_nn, tmod_nn]; omega) | (simp only [AllP, impG, inK]; grind)))
      ((refine XD.callL hE rfl rfl rfl rfl trivial rfl (size04_ok (ups neg x i) (by omega)) ?_ rfl ?_); focus (repeat' (first | exact rfl | exact AvIs.refl _ | exact trivial | (intro i hi; rfl) | refine ⟨?_, ?_⟩)))
      rw [ups_abs]
      ((refine XD.go hT rfl rfl rfl rfl ?_ ?_); focus (first | exact trivial | (refine ⟨by omega, by (simp <;> omega), fun i hi => ?_⟩; obtain rfl : i = 0 := (by omega); rfl) | (simp [AllP, impG]; done) | (simp only [AllP, List.append, List.nil_append, List.cons_append, inK, tdiv_nn, tmod_nn]; omega) | (simp [AllP, impG, inK, tdiv_nn, tmod_nn]; omega) | (simp only [AllP, impG, inK]; grind)))
      ((refine XD.callL hE rfl rfl rfl rfl trivial rfl (gcdR_ok (x i) (y j) (by omega) (by omega)) ?_ rfl ?_); focus (repeat' (first | exact rfl | exact AvIs.refl _ | exact trivial | (intro i hi; rfl) | refine ⟨?_, ?_⟩)))
      ((refine XD.go hT rfl rfl rfl rfl ?_ ?_); focus (first | exact trivial | (refine ⟨by omega, by (simp <;> omega), fun i hi => ?_⟩; obtain rfl : i = 0 := (by omega); rfl) | (simp [AllP, impG]; done) | (simp only [AllP, List.append, List.nil_append, List.cons_append, inK, tdiv_nn, tmod_nn]; omega) | (simp [AllP, impG, inK, tdiv_nn, tmod_nn]; omega) | (simp only [AllP, impG, inK]; grind))); refine XD.fin (by kernel_rfl) ?_; (repeat (first | refine XK.seq ?_ | refine XK.skip ?_ | refine XK.block ?_ | refine XK.pop ?_ | ((refine XK.rgn hT rfl rfl rfl ?_ ?_); focus (first | exact trivial | (refine ⟨by omega, by (simp <;> omega), fun i hi => ?_⟩; obtain rfl : i = 0 := (by omega); rfl) | (simp [AllP, impG]; done) | (simp only [AllP, List.append, List.nil_append, List.cons_append, inK, tdiv_nn, tmod_nn]; omega) | (simp [AllP, impG, inK, tdiv_nn, tmod_nn]; omega) | (simp only [AllP, impG, inK]; grind))) | ((refine XK.rgnD hT hm rfl rfl rfl (by kernel_rfl) ?_ ?_); focus (first | exact trivial | (refine ⟨by omega, by (simp <;> omega), fun i hi => ?_⟩; obtain rfl : i = 0 := (by omega); rfl) | (simp [AllP, impG]; done) | (simp only [AllP, List.append, List.nil_append, List.cons_append, inK, tdiv_nn, tmod_nn]; omega) | (simp [AllP, impG, inK, tdiv_nn, tmod_nn]; omega) | (simp only [AllP, impG, inK]; grind))) | refine XK.exit rfl ?_))
      (repeat (first | refine XK.seq ?_ | refine XK.skip ?_ | refine XK.block ?_ | refine XK.pop ?_ | ((refine XK.rgn hT rfl rfl rfl ?_ ?_); focus (first | exact trivial | (refine ⟨by omega, by (simp <;> omega), fun i hi => ?_⟩; obtain rfl : i = 0 := (by omega); rfl) | (simp [AllP, impG]; done) | (simp only [AllP, List.append, List.nil_append, List.cons_append, inK, tdiv_nn, tmod_nn]; omega) | (simp [AllP, impG, inK, tdiv_nn, tmod_nn]; omega) | (simp only [AllP, impG, inK]; grind))) | ((refine XK.rgnD hT hm rfl rfl rfl (by kernel_rfl) ?_ ?_); focus (first | exact trivial | (refine ⟨by omega, by (simp <;> omega), fun i hi => ?_⟩; obtain rfl : i = 0 := (by omega); rfl) | (simp [AllP, impG]; done) | (simp only [AllP, List.append, List.nil_append, List.cons_append, inK, tdiv_nn, tmod_nn]; omega) | (simp [AllP, impG, inK, tdiv_nn, tmod_nn]; omega) | (simp only [AllP, impG, inK]; grind))) | refine XK.exit rfl ?_))
      refine XK.inv ⟨(setN x i (x i / Nat.gcd (x i) (y j)), setN y j (y j / Nat.gcd (x i) (y j)), j + 1), ⟨hj, hh.step hi hj⟩, Weak.of hN rfl rfl rfl ⟨rfl, rfl, rfl, rfl, rfl⟩ ⟨⟨rfl, rfl⟩, ⟨⟨rfl, rfl, rfl⟩, rfl, fun k hk => ?_⟩, ⟨rfl, rfl, rfl⟩, rfl, fun k hk => ?_⟩, ?_⟩
      · simp only [setRowF_eq, Int.toNat_natCast]
        by_cases h : k = i
        · subst h
          simp only [if_true, setL]
          exact cL (ups_div _ _ _ _).symm
        · rw [if_neg h, ups_set _ _ _ _ _ h]
      · exact setRowF_int y j _ k _ rfl
      · show 3 - (j + 1) < 3 - j
        omega
    · have hj : j = 3 := by simp at hc; omega
      subst hj
      (repeat (first | refine XK.seq ?_ | refine XK.skip ?_ | refine XK.block ?_ | refine XK.pop ?_ | ((refine XK.rgn hT rfl rfl rfl ?_ ?_); focus (first | exact trivial | (refine ⟨by omega, by (simp <;> omega), fun i hi => ?_⟩; obtain rfl : i = 0 := (by omega); rfl) | (simp [AllP, impG]; done) | (simp only [AllP, List.append, List.nil_append, List.cons_append, inK, tdiv_nn, tmod_nn]; omega) | (simp [AllP, impG, inK, tdiv_nn, tmod_nn]; omega) | (simp only [AllP, impG, inK]; grind))) | ((refine XK.rgnD hT hm rfl rfl rfl (by kernel_rfl) ?_ ?_); focus (first | exact trivial | (refine ⟨by omega, by (simp <;> omega), fun i hi => ?_⟩; obtain rfl : i = 0 := (by omega); rfl) | (simp [AllP, impG]; done) | (simp only [AllP, List.append, List.nil_append, List.cons_append, inK, tdiv_nn, tmod_nn]; omega) | (simp [AllP, impG, inK, tdiv_nn, tmod_nn]; omega) | (simp only [AllP, impG, inK]; grind))) | refine XK.exit rfl ?_))
      refine XK.inv ⟨(x, y, i + 1), ⟨hi, hh.next⟩, Weak.of hN rfl rfl rfl ⟨rfl, rfl, rfl, rfl⟩ ⟨⟨rfl, rfl⟩, ⟨⟨rfl, rfl, rfl⟩, rfl, fun i hi => rfl⟩, ⟨rfl, rfl, rfl⟩, rfl, fun i hi => rfl⟩, ?_⟩
      show 3 - (i + 1) < 3 - i
      omega
  · have hi : i = 3 := by simp at hb; omega
    subst hi
    obtain ⟨e1, e2⟩ := hh.end_ hDp
    have b : ∀ k, k < 3 → x k ≤ 1000000000000 ∧ y k ≤ 1000000000000 := fun k hk => ⟨hh.bx k hk, hh.by_ k hk⟩
    (repeat (first | refine XK.seq ?_ | refine XK.skip ?_ | refine XK.block ?_ | refine XK.pop ?_ | ((refine XK.rgn hT rfl rfl rfl ?_ ?_); focus (first | exact trivial | (refine ⟨by omega, by (simp <;> omega), fun i hi => ?_⟩; obtain rfl : i = 0 := (by omega); rfl) | (simp [AllP, impG]; done) | (simp only [AllP, List.append, List.nil_append, List.cons_append, inK, tdiv_nn, tmod_nn]; omega) | (simp [AllP, impG, inK, tdiv_nn, tmod_nn]; omega) | (simp only [AllP, impG, inK]; grind))) | ((refine XK.rgnD hT hm rfl rfl rfl (by kernel_rfl) ?_ ?_); focus (first | exact trivial | (refine ⟨by omega, by (simp <;> omega), fun i hi => ?_⟩; obtain rfl : i = 0 := (by omega); rfl) | (simp [AllP, impG]; done) | (simp only [AllP, List.append, List.nil_append, List.cons_append, inK, tdiv_nn, tmod_nn]; omega) | (simp [AllP, impG, inK, tdiv_nn, tmod_nn]; omega) | (simp only [AllP, impG, inK]; grind))) | refine XK.exit rfl ?_)); refine XK.region ?_; ((refine XL.go hT rfl rfl rfl rfl ?_ ?_); focus (first | exact trivial | (refine ⟨by omega, by (simp <;> omega), fun i hi => ?_⟩; obtain rfl : i = 0 := (by omega); rfl) | (simp [AllP, impG]; done) | (simp only [AllP, List.append, List.nil_append, List.cons_append, inK, tdiv_nn, tmod_nn]; omega) | (simp [AllP, impG, inK, tdiv_nn, tmod_nn]; omega) | (simp only [AllP, impG, inK]; grind)))
    ((refine XL.callL hE rfl rfl rfl rfl trivial rfl (times_ok neg (x 0) (x 1) (x 2) 1000000000000 (b 0 (by omega)).1 (hh.px 1 (by omega) (by omega)) (hh.px 2 (by omega) (by omega)) (b 1 (by omega)).1 (b 2 (by omega)).1 (by omega)) ?_ rfl ?_); focus (repeat' (first | exact rfl | exact AvIs.refl _ | exact trivial | (intro i hi; rfl) | refine ⟨?_, ?_⟩)))
    ((refine XL.go hT rfl rfl rfl rfl ?_ ?_); focus (first | exact trivial | (refine ⟨by omega, by (simp <;> omega), fun i hi => ?_⟩; obtain rfl : i = 0 := (by omega); rfl) | (simp [AllP, impG]; done) | (simp only [AllP, List.append, List.nil_append, List.cons_append, inK, tdiv_nn, tmod_nn]; omega) | (simp [AllP, impG, inK, tdiv_nn, tmod_nn]; omega) | (simp only [AllP, impG, inK]; grind))); refine XL.fin ?_; (repeat (first | refine XK.seq ?_ | refine XK.skip ?_ | refine XK.block ?_ | refine XK.pop ?_ | ((refine XK.rgn hT rfl rfl rfl ?_ ?_); focus (first | exact trivial | (refine ⟨by omega, by (simp <;> omega), fun i hi => ?_⟩; obtain rfl : i = 0 := (by omega); rfl) | (simp [AllP, impG]; done) | (simp only [AllP, List.append, List.nil_append, List.cons_append, inK, tdiv_nn, tmod_nn]; omega) | (simp [AllP, impG, inK, tdiv_nn, tmod_nn]; omega) | (simp only [AllP, impG, inK]; grind))) | ((refine XK.rgnD hT hm rfl rfl rfl (by kernel_rfl) ?_ ?_); focus (first | exact trivial | (refine ⟨by omega, by (simp <;> omega), fun i hi => ?_⟩; obtain rfl : i = 0 := (by omega); rfl) | (simp [AllP, impG]; done) | (simp only [AllP, List.append, List.nil_append, List.cons_append, inK, tdiv_nn, tmod_nn]; omega) | (simp [AllP, impG, inK, tdiv_nn, tmod_nn]; omega) | (simp only [AllP, impG, inK]; grind))) | refine XK.exit rfl ?_))
    (repeat (first | refine XK.seq ?_ | refine XK.skip ?_ | refine XK.block ?_ | refine XK.pop ?_ | ((refine XK.rgn hT rfl rfl rfl ?_ ?_); focus (first | exact trivial | (refine ⟨by omega, by (simp <;> omega), fun i hi => ?_⟩; obtain rfl : i = 0 := (by omega); rfl) | (simp [AllP, impG]; done) | (simp only [AllP, List.append, List.nil_append, List.cons_append, inK, tdiv_nn, tmod_nn]; omega) | (simp [AllP, impG, inK, tdiv_nn, tmod_nn]; omega) | (simp only [AllP, impG, inK]; grind))) | ((refine XK.rgnD hT hm rfl rfl rfl (by kernel_rfl) ?_ ?_); focus (first | exact trivial | (refine ⟨by omega, by (simp <;> omega), fun i hi => ?_⟩; obtain rfl : i = 0 := (by omega); rfl) | (simp [AllP, impG]; done) | (simp only [AllP, List.append, List.nil_append, List.cons_append, inK, tdiv_nn, tmod_nn]; omega) | (simp [AllP, impG, inK, tdiv_nn, tmod_nn]; omega) | (simp only [AllP, impG, inK]; grind))) | refine XK.exit rfl ?_)); refine XK.region ?_; ((refine XL.go hT rfl rfl rfl rfl ?_ ?_); focus (first | exact trivial | (refine ⟨by omega, by (simp <;> omega), fun i hi => ?_⟩; obtain rfl : i = 0 := (by omega); rfl) | (simp [AllP, impG]; done) | (simp only [AllP, List.append, List.nil_append, List.cons_append, inK, tdiv_nn, tmod_nn]; omega) | (simp [AllP, impG, inK, tdiv_nn, tmod_nn]; omega) | (simp only [AllP, impG, inK]; grind)))
    ((refine XL.callL hE rfl rfl rfl rfl trivial rfl (times_ok false (y 0) (y 1) (y 2) 1000000 (b 0 (by omega)).2 (hh.pos 1 (by omega)) (hh.pos 2 (by omega)) (b 1 (by omega)).2 (b 2 (by omega)).2 (by omega)) ?_ rfl ?_); focus (repeat' (first | exact rfl | exact AvIs.refl _ | exact trivial | (intro i hi; rfl) | refine ⟨?_, ?_⟩)))
    ((refine XL.go hT rfl rfl rfl rfl ?_ ?_); focus (first | exact trivial | (refine ⟨by omega, by (simp <;> omega), fun i hi => ?_⟩; obtain rfl : i = 0 := (by omega); rfl) | (simp [AllP, impG]; done) | (simp only [AllP, List.append, List.nil_append, List.cons_append, inK, tdiv_nn, tmod_nn]; omega) | (simp [AllP, impG, inK, tdiv_nn, tmod_nn]; omega) | (simp only [AllP, impG, inK]; grind))); refine XL.fin ?_; (repeat (first | refine XK.seq ?_ | refine XK.skip ?_ | refine XK.block ?_ | refine XK.pop ?_ | ((refine XK.rgn hT rfl rfl rfl ?_ ?_); focus (first | exact trivial | (refine ⟨by omega, by (simp <;> omega), fun i hi => ?_⟩; obtain rfl : i = 0 := (by omega); rfl) | (simp [AllP, impG]; done) | (simp only [AllP, List.append, List.nil_append, List.cons_append, inK, tdiv_nn, tmod_nn]; omega) | (simp [AllP, impG, inK, tdiv_nn, tmod_nn]; omega) | (simp only [AllP, impG, inK]; grind))) | ((refine XK.rgnD hT hm rfl rfl rfl (by kernel_rfl) ?_ ?_); focus (first | exact trivial | (refine ⟨by omega, by (simp <;> omega), fun i hi => ?_⟩; obtain rfl : i = 0 := (by omega); rfl) | (simp [AllP, impG]; done) | (simp only [AllP, List.append, List.nil_append, List.cons_append, inK, tdiv_nn, tmod_nn]; omega) | (simp [AllP, impG, inK, tdiv_nn, tmod_nn]; omega) | (simp only [AllP, impG, inK]; grind))) | refine XK.exit rfl ?_))
    have hcop : Nat.gcd (P3 x) (P3 y) = 1 := hh.cop
    have e1' : x 0 * x 1 * x 2 = P3 x := rfl
    have e2' : y 0 * y 1 * y 2 = P3 y := rfl
    rw [e1', e2']
    rw [e1', e2'] at *
    generalize P3 x = p at *
    generalize P3 y = q at *
    have hval : valR v f d = if 1000000000000 < p ∨ 1000000 < q then ((0, 0), 2) else ((sg neg p, (q : Int)), 0) := by
      unfold valR fracR
      rw [hng, ← e1, ← e2]
      rfl
    have hq : 0 < q := by
      rw [e2]
      exact Nat.div_pos (Nat.gcd_le_right _ hDp) (Nat.gcd_pos_of_pos_right _ hDp)
    rw [hval]
    (repeat (first | refine XK.seq ?_ | refine XK.skip ?_ | refine XK.block ?_ | refine XK.pop ?_ | ((refine XK.rgn hT rfl rfl rfl ?_ ?_); focus (first | exact trivial | (refine ⟨by omega, by (simp <;> omega), fun i hi => ?_⟩; obtain rfl : i = 0 := (by omega); rfl) | (simp [AllP, impG]; done) | (simp only [AllP, List.append, List.nil_append, List.cons_append, inK, tdiv_nn, tmod_nn]; omega) | (simp [AllP, impG, inK, tdiv_nn, tmod_nn]; omega) | (simp only [AllP, impG, inK]; grind))) | ((refine XK.rgnD hT hm rfl rfl rfl (by kernel_rfl) ?_ ?_); focus (first | exact trivial | (refine ⟨by omega, by (simp <;> omega), fun i hi => ?_⟩; obtain rfl : i = 0 := (by omega); rfl) | (simp [AllP, impG]; done) | (simp only [AllP, List.append, List.nil_append, List.cons_append, inK, tdiv_nn, tmod_nn]; omega) | (simp [AllP, impG, inK, tdiv_nn, tmod_nn]; omega) | (simp only [AllP, impG, inK]; grind))) | refine XK.exit rfl ?_)); refine XK.cond rfl (fun hx => ?_) (fun hx => ?_)
    · (repeat (first | refine XK.seq ?_ | refine XK.skip ?_ | refine XK.block ?_ | refine XK.pop ?_ | ((refine XK.rgn hT rfl rfl rfl ?_ ?_); focus (first | exact trivial | (refine ⟨by omega, by (simp <;> omega), fun i hi => ?_⟩; obtain rfl : i = 0 := (by omega); rfl) | (simp [AllP, impG]; done) | (simp only [AllP, List.append, List.nil_append, List.cons_append, inK, tdiv_nn, tmod_nn]; omega) | (simp [AllP, impG, inK, tdiv_nn, tmod_nn]; omega) | (simp only [AllP, impG, inK]; grind))) | ((refine XK.rgnD hT hm rfl rfl rfl (by kernel_rfl) ?_ ?_); focus (first | exact trivial | (refine ⟨by omega, by (simp <;> omega), fun i hi => ?_⟩; obtain rfl : i = 0 := (by omega); rfl) | (simp [AllP, impG]; done) | (simp only [AllP, List.append, List.nil_append, List.cons_append, inK, tdiv_nn, tmod_nn]; omega) | (simp [AllP, impG, inK, tdiv_nn, tmod_nn]; omega) | (simp only [AllP, impG, inK]; grind))) | refine XK.exit rfl ?_))
      (first | refine XK.out rfl rfl rfl ?_ | refine XK.outN rfl rfl rfl ?_)
      have : 1000000000000 < p ∨ 1000000 < q := by simpa using hx
      rw [if_pos this]
      rfl
    · have hn : ¬ (1000000000000 < p ∨ 1000000 < q) := by simpa using hx
      rw [if_neg hn]
      have hp1 : ¬ 1000000000000 < p := fun h => hn (.inl h)
      have hq1 : ¬ 1000000 < q := fun h => hn (.inr h)
      rw [if_neg hp1, if_neg hq1]
      have bp := sg_bd neg p 1000000000000 (by omega)
      (repeat (first | refine XK.seq ?_ | refine XK.skip ?_ | refine XK.block ?_ | refine XK.pop ?_ | ((refine XK.rgn hT rfl rfl rfl ?_ ?_); focus (first | exact trivial | (refine ⟨by omega, by (simp <;> omega), fun i hi => ?_⟩; obtain rfl : i = 0 := (by omega); rfl) | (simp [AllP, impG]; done) | (simp only [AllP, List.append, List.nil_append, List.cons_append, inK, tdiv_nn, tmod_nn]; omega) | (simp [AllP, impG, inK, tdiv_nn, tmod_nn]; omega) | (simp only [AllP, impG, inK]; grind))) | ((refine XK.rgnD hT hm rfl rfl rfl (by kernel_rfl) ?_ ?_); focus (first | exact trivial | (refine ⟨by omega, by (simp <;> omega), fun i hi => ?_⟩; obtain rfl : i = 0 := (by omega); rfl) | (simp [AllP, impG]; done) | (simp only [AllP, List.append, List.nil_append, List.cons_append, inK, tdiv_nn, tmod_nn]; omega) | (simp [AllP, impG, inK, tdiv_nn, tmod_nn]; omega) | (simp only [AllP, impG, inK]; grind))) | refine XK.exit rfl ?_)); refine XK.region ?_; ((refine XL.go hT rfl rfl rfl rfl ?_ ?_); focus (first | exact trivial | (refine ⟨by omega, by (simp <;> omega), fun i hi => ?_⟩; obtain rfl : i = 0 := (by omega); rfl) | (simp [AllP, impG]; done) | (simp only [AllP, List.append, List.nil_append, List.cons_append, inK, tdiv_nn, tmod_nn]; omega) | (simp [AllP, impG, inK, tdiv_nn, tmod_nn]; omega) | (simp only [AllP, impG, inK]; grind)))
      ((refine XL.callL hE rfl rfl rfl rfl trivial rfl (makeRef_ok (sg neg p) (q : Int) (by simp only [inK]; omega) (by simp only [inK]; omega)) ?_ rfl ?_); focus (repeat' (first | exact rfl | exact AvIs.refl _ | exact trivial | (intro i hi; rfl) | refine ⟨?_, ?_⟩)))
      ((refine XL.go hT rfl rfl rfl rfl ?_ ?_); focus (first | exact trivial | (refine ⟨by omega, by (simp <;> omega), fun i hi => ?_⟩; obtain rfl : i = 0 := (by omega); rfl) | (simp [AllP, impG]; done) | (simp only [AllP, List.append, List.nil_append, List.cons_append, inK, tdiv_nn, tmod_nn]; omega) | (simp [AllP, impG, inK, tdiv_nn, tmod_nn]; omega) | (simp only [AllP, impG, inK]; grind))); refine XL.fin ?_; (repeat (first | refine XK.seq ?_ | refine XK.skip ?_ | refine XK.block ?_ | refine XK.pop ?_ | ((refine XK.rgn hT rfl rfl rfl ?_ ?_); focus (first | exact trivial | (refine ⟨by omega, by (simp <;> omega), fun i hi => ?_⟩; obtain rfl : i = 0 := (by omega); rfl) | (simp [AllP, impG]; done) | (simp only [AllP, List.append, List.nil_append, List.cons_append, inK, tdiv_nn, tmod_nn]; omega) | (simp [AllP, impG, inK, tdiv_nn, tmod_nn]; omega) | (simp only [AllP, impG, inK]; grind))) | ((refine XK.rgnD hT hm rfl rfl rfl (by kernel_rfl) ?_ ?_); focus (first | exact trivial | (refine ⟨by omega, by (simp <;> omega), fun i hi => ?_⟩; obtain rfl : i = 0 := (by omega); rfl) | (simp [AllP, impG]; done) | (simp only [AllP, List.append, List.nil_append, List.cons_append, inK, tdiv_nn, tmod_nn]; omega) | (simp [AllP, impG, inK, tdiv_nn, tmod_nn]; omega) | (simp only [AllP, impG, inK]; grind))) | refine XK.exit rfl ?_))
      rw [makeR_low neg p q hcop hq (by omega) (by omega)]
      (repeat (first | refine XK.seq ?_ | refine XK.skip ?_ | refine XK.block ?_ | refine XK.pop ?_ | ((refine XK.rgn hT rfl rfl rfl ?_ ?_); focus (first | exact trivial | (refine ⟨by omega, by (simp <;> omega), fun i hi => ?_⟩; obtain rfl : i = 0 := (by omega); rfl) | (simp [AllP, impG]; done) | (simp only [AllP, List.append, List.nil_append, List.cons_append, inK, tdiv_nn, tmod_nn]; omega) | (simp [AllP, impG, inK, tdiv_nn, tmod_nn]; omega) | (simp only [AllP, impG, inK]; grind))) | ((refine XK.rgnD hT hm rfl rfl rfl (by kernel_rfl) ?_ ?_); focus (first | exact trivial | (refine ⟨by omega, by (simp <;> omega), fun i hi => ?_⟩; obtain rfl : i = 0 := (by omega); rfl) | (simp [AllP, impG]; done) | (simp only [AllP, List.append, List.nil_append, List.cons_append, inK, tdiv_nn, tmod_nn]; omega) | (simp [AllP, impG, inK, tdiv_nn, tmod_nn]; omega) | (simp only [AllP, impG, inK]; grind))) | refine XK.exit rfl ?_))
      (first | refine XK.out rfl rfl rfl ?_ | refine XK.outN rfl rfl rfl ?_)
      rfl
end Go.Proofs.Ytoeghbhlklnajaa
