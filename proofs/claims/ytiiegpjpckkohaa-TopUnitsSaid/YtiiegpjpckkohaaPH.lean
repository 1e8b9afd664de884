import Derived.Test.YtiiegpjpckkohaaP6
import Derived.Test.YtiiegpjpckkohaaPG
import Derived.Test.YtiiegpjpckkohaaP8
section
/- Contracts: ratio.Sub, ratio.Mul. -/
namespace Go.Proofs.Ytiiegpjpckkohaa
open Go.Eng
set_option maxRecDepth 10000
set_option linter.unusedSimpArgs false
set_option linter.unusedVariables false
def subR (a b : Q) : Q × Int := if qOk a && qOk b then makeR (a.1 * b.2 - b.1 * a.2) (a.2 * b.2) else ((0, 0), 1)
def mulR (a b : Q) : Q × Int := if qOk a && qOk b then fracR (decide (a.1 < 0) != decide (b.1 < 0)) (a.1.natAbs * b.1.natAbs) (a.2.natAbs * b.2.natAbs) else ((0, 0), 1)
theorem sub1_ok (a b : Q) (ha : qOk a = true) (hb' : qOk b = true) : Does Try.prog 51 [.rptr [.c (.int .i64 a.1), .c (.int .i64 a.2)], .rptr [.c (.int .i64 b.1), .c (.int .i64 b.2)]] (qr (makeR (a.1 * b.2 - b.1 * a.2) (a.2 * b.2))) := by
  refine Does.mk (fun _ => false) TT_ok Try.func51 rfl (by kernel_rfl) Try.ntmps51 rfl rfl fun E hT hE hN hR => ?_
  have hm : E.P.follows .mixedOrders = true := by rw [hE]; kernel_rfl
  obtain ⟨⟨h1, h2⟩, h3⟩ := q_prod ha hb'
  obtain ⟨⟨h4, h5⟩, h6⟩ := q_prod hb' ha
  (repeat (first | refine XK.norm rfl rfl ?_ | refine XK.rgnA hT rfl rfl rfl ?_ | refine XK.rgnB hT hm rfl rfl rfl ?_))
  refine XK.region ?_
  refine XL.go hT rfl rfl rfl rfl ?_ ?_
  · (simp only [AllP, List.append, List.nil_append, List.cons_append, inK, tdiv_nn, tmod_nn, Int.toNat_natCast]; omega)
  refine XL.callL hE rfl rfl rfl rfl trivial rfl (make_ok (a.1 * b.2 - b.1 * a.2) (a.2 * b.2) (by simp only [inK]; omega) (by simp only [inK]; omega)) ?_ rfl ?_
  · exact ⟨rfl, rfl⟩
  refine XL.goA hT rfl rfl rfl rfl ?_; refine XL.fin ?_; (repeat (first | refine XK.norm rfl rfl ?_ | refine XK.rgnA hT rfl rfl rfl ?_ | refine XK.rgnB hT hm rfl rfl rfl ?_))
  (repeat (first | refine XK.norm rfl rfl ?_ | refine XK.rgnA hT rfl rfl rfl ?_ | refine XK.rgnB hT hm rfl rfl rfl ?_))
  (first | refine XK.out rfl rfl rfl ?_ | refine XK.outN rfl rfl rfl ?_)
  rfl
theorem sub_ok (a b : Q) (ha : qW a) (hb' : qW b) : Does Try.prog 24 [qv a, qv b] (qr (subR a b)) := by
  refine Does.mk (fun _ => false) TT_ok Try.func24 rfl (by kernel_rfl) Try.ntmps24 rfl rfl fun E hT hE hN hR => ?_
  have hm : E.P.follows .mixedOrders = true := by rw [hE]; kernel_rfl
  (repeat (first | refine XK.norm rfl rfl ?_ | refine XK.rgnA hT rfl rfl rfl ?_ | refine XK.rgnB hT hm rfl rfl rfl ?_)); refine XK.region ?_; refine XL.goA hT rfl rfl rfl rfl ?_
  refine XL.callL hE rfl rfl rfl rfl trivial rfl (checked_ok a b ha hb' _ _ _ _ (fun h1 h2 => sub1_ok a b h1 h2)) ?_ rfl ?_
  · exact ⟨rfl, rfl, rfl⟩
  refine XL.goA hT rfl rfl rfl rfl ?_; refine XL.fin ?_; (repeat (first | refine XK.norm rfl rfl ?_ | refine XK.rgnA hT rfl rfl rfl ?_ | refine XK.rgnB hT hm rfl rfl rfl ?_))
  (repeat (first | refine XK.norm rfl rfl ?_ | refine XK.rgnA hT rfl rfl rfl ?_ | refine XK.rgnB hT hm rfl rfl rfl ?_))
  (first | refine XK.out rfl rfl rfl ?_ | refine XK.outN rfl rfl rfl ?_)
  rfl
theorem subR_toQ {a b : Q} (ha : qOk a = true) (hb : qOk b = true) : subR a b = toQ (rt a - rt b) := by
  unfold subR
  rw [if_pos (by simp [ha, hb])]
  have h1 := (qOk_iff.1 ha).1
  have h2 := (qOk_iff.1 hb).1
  rw [makeR_toQ (Int.mul_pos (by omega) (by omega))]
  congr 1
  unfold rt
  have e1 := q2_ne ha
  have e2 := q2_ne hb
  simp only [Rat.intCast_mul, Rat.intCast_sub]
  grind
theorem mulR_toQ {a b : Q} (ha : qOk a = true) (hb : qOk b = true) : mulR a b = toQ (rt a * rt b) := by
  unfold mulR
  rw [if_pos (by simp [ha, hb])]
  have h1 := (qOk_iff.1 ha).1
  have h2 := (qOk_iff.1 hb).1
  have hp : 0 < a.2.natAbs * b.2.natAbs := Nat.mul_pos (by omega) (by omega)
  rw [fracR_toQ _ _ _ hp]
  congr 1
  have e3 : (if (decide (a.1 < 0) != decide (b.1 < 0)) = true then -((a.1.natAbs * b.1.natAbs : Nat) : Int) else ((a.1.natAbs * b.1.natAbs : Nat) : Int)) = a.1 * b.1 := by
    rw [Int.natCast_mul]
    rcases Int.lt_or_le a.1 0 with h | h <;> rcases Int.lt_or_le b.1 0 with h' | h'
    · rw [show ((a.1.natAbs : Nat) : Int) = -a.1 by omega, show ((b.1.natAbs : Nat) : Int) = -b.1 by omega]
      simp [h, h']; grind
    · rw [show ((a.1.natAbs : Nat) : Int) = -a.1 by omega, show ((b.1.natAbs : Nat) : Int) = b.1 by omega]
      simp [h, show ¬ b.1 < 0 by omega]; grind
    · rw [show ((a.1.natAbs : Nat) : Int) = a.1 by omega, show ((b.1.natAbs : Nat) : Int) = -b.1 by omega]
      simp [h', show ¬ a.1 < 0 by omega]; grind
    · rw [show ((a.1.natAbs : Nat) : Int) = a.1 by omega, show ((b.1.natAbs : Nat) : Int) = b.1 by omega]
      simp [show ¬ a.1 < 0 by omega, show ¬ b.1 < 0 by omega]
  rw [e3]
  have e4 : ((a.2.natAbs * b.2.natAbs : Nat) : Int) = a.2 * b.2 := by
    rw [Int.natCast_mul, show ((a.2.natAbs : Nat) : Int) = a.2 by omega, show ((b.2.natAbs : Nat) : Int) = b.2 by omega]
  rw [← Rat.intCast_natCast, e4]
  unfold rt
  have e1 := q2_ne ha
  have e2 := q2_ne hb
  simp only [Rat.intCast_mul]
  grind
/-- In lowest terms crosswise. -/
theorem fracR_cross {neg : Bool} {a b c d : Nat} (hb : 0 < b) (hd : 0 < d) (h1 : Nat.gcd a b = 1) (h2 : Nat.gcd c d = 1) :
    fracR neg (a * c) (b * d) = fracR neg ((a / Nat.gcd a d) * (c / Nat.gcd c b)) ((b / Nat.gcd c b) * (d / Nat.gcd a d)) ∧ Nat.gcd ((a / Nat.gcd a d) * (c / Nat.gcd c b)) ((b / Nat.gcd c b) * (d / Nat.gcd a d)) = 1 := by
  have hg : 0 < Nat.gcd a d := Nat.gcd_pos_of_pos_right a hd
  have hh : 0 < Nat.gcd c b := Nat.gcd_pos_of_pos_right c hb
  obtain ⟨x, hx⟩ := Nat.gcd_dvd_left a d
  obtain ⟨y, hy⟩ := Nat.gcd_dvd_right a d
  obtain ⟨z, hz⟩ := Nat.gcd_dvd_left c b
  obtain ⟨w, hw⟩ := Nat.gcd_dvd_right c b
  have q1 : a / Nat.gcd a d = x := Nat.div_eq_of_eq_mul_right hg hx
  have q2 : d / Nat.gcd a d = y := Nat.div_eq_of_eq_mul_right hg hy
  have q3 : c / Nat.gcd c b = z := Nat.div_eq_of_eq_mul_right hh hz
  have q4 : b / Nat.gcd c b = w := Nat.div_eq_of_eq_mul_right hh hw
  have cxy : Nat.gcd x y = 1 := by rw [← q1, ← q2]; exact Nat.coprime_div_gcd_div_gcd hg
  have czw : Nat.gcd z w = 1 := by rw [← q3, ← q4]; exact Nat.coprime_div_gcd_div_gcd hh
  have cxw : Nat.gcd x w = 1 := gcd_one_of_dvd h1 ⟨_, by rw [Nat.mul_comm]; exact hx⟩ ⟨_, by rw [Nat.mul_comm]; exact hw⟩
  have czy : Nat.gcd z y = 1 := gcd_one_of_dvd h2 ⟨_, by rw [Nat.mul_comm]; exact hz⟩ ⟨_, by rw [Nat.mul_comm]; exact hy⟩
  have hwp : 0 < w := by rw [← q4]; exact Nat.div_pos (Nat.le_of_dvd hb (Nat.gcd_dvd_right c b)) hh
  have hyp : 0 < y := by rw [← q2]; exact Nat.div_pos (Nat.le_of_dvd hd (Nat.gcd_dvd_right a d)) hg
  have hcop : Nat.gcd (x * z) (w * y) = 1 := Nat.Coprime.mul_left (Nat.Coprime.mul_right cxw cxy) (Nat.Coprime.mul_right czw czy)
  obtain ⟨r1, r2⟩ := frac_unique (p := x * z) (q := w * y) (N := a * c) (D := b * d) hcop (Nat.mul_pos hwp hyp) (Nat.mul_pos hb hd) (by
    conv => lhs; rw [hw, hy]
    conv => rhs; rw [hx, hz]
    generalize Nat.gcd a d = g
    generalize Nat.gcd c b = h
    grind)
  rw [q1, q2, q3, q4]
  refine ⟨?_, hcop⟩
  unfold fracR
  rw [← r1, ← r2, hcop, Nat.div_one, Nat.div_one]
theorem mul1_ok (a b : Q) (ha : qOk a = true) (hb' : qOk b = true) : Does Try.prog 86 [.rptr [.c (.int .i64 a.1), .c (.int .i64 a.2)], .rptr [.c (.int .i64 b.1), .c (.int .i64 b.2)]] (qr (mulR a b)) := by
  refine Does.mk (fun _ => false) TT_ok Try.func86 rfl (by kernel_rfl) Try.ntmps86 rfl rfl fun E hT hE hN hR => ?_
  have hm : E.P.follows .mixedOrders = true := by rw [hE]; kernel_rfl
  obtain ⟨h1, h2, h3, h4, h5⟩ := qOk_iff.1 ha
  obtain ⟨g1, g2, g3, g4, g5⟩ := qOk_iff.1 hb'
  have hR : mulR a b = fracR (decide (a.1 < 0) != decide (b.1 < 0)) (a.1.natAbs * b.1.natAbs) (a.2.natAbs * b.2.natAbs) := by simp [mulR, ha, hb']
  rw [hR]
  have hn1 : a.1.natAbs ≤ 1000000000000 := by omega
  have hn2 : a.2.natAbs ≤ 1000000 ∧ 0 < a.2.natAbs := by omega
  have hm1 : b.1.natAbs ≤ 1000000000000 := by omega
  have hm2 : b.2.natAbs ≤ 1000000 ∧ 0 < b.2.natAbs := by omega
  obtain ⟨hc1, hc2⟩ := fracR_cross (neg := decide (a.1 < 0) != decide (b.1 < 0)) hn2.2 hm2.2 h5 g5
  rw [hc1]
  (repeat (first | refine XK.norm rfl rfl ?_ | refine XK.rgnA hT rfl rfl rfl ?_ | refine XK.rgnB hT hm rfl rfl rfl ?_))
  (repeat (first | refine XK.norm rfl rfl ?_ | refine XK.rgnA hT rfl rfl rfl ?_ | refine XK.rgnB hT hm rfl rfl rfl ?_)); refine XK.drawn hm ?_; refine XD.goA hT rfl rfl rfl rfl ?_
  refine XD.callLA hE rfl rfl rfl rfl trivial rfl (magnitude_ok a.1 (by simp only [inK]; omega)) rfl ?_
  refine XD.goA hT rfl rfl rfl rfl ?_
  refine XD.callLA hE rfl rfl rfl rfl trivial rfl (magnitude_ok a.2 (by simp only [inK]; omega)) rfl ?_
  refine XD.goA hT rfl rfl rfl rfl ?_; refine XD.fin (by kernel_rfl) ?_; (repeat (first | refine XK.norm rfl rfl ?_ | refine XK.rgnA hT rfl rfl rfl ?_ | refine XK.rgnB hT hm rfl rfl rfl ?_))
  (repeat (first | refine XK.norm rfl rfl ?_ | refine XK.rgnA hT rfl rfl rfl ?_ | refine XK.rgnB hT hm rfl rfl rfl ?_)); refine XK.drawn hm ?_; refine XD.goA hT rfl rfl rfl rfl ?_
  refine XD.callLA hE rfl rfl rfl rfl trivial rfl (magnitude_ok b.1 (by simp only [inK]; omega)) rfl ?_
  refine XD.goA hT rfl rfl rfl rfl ?_
  refine XD.callLA hE rfl rfl rfl rfl trivial rfl (magnitude_ok b.2 (by simp only [inK]; omega)) rfl ?_
  refine XD.goA hT rfl rfl rfl rfl ?_; refine XD.fin (by kernel_rfl) ?_; (repeat (first | refine XK.norm rfl rfl ?_ | refine XK.rgnA hT rfl rfl rfl ?_ | refine XK.rgnB hT hm rfl rfl rfl ?_))
  generalize a.1.natAbs = n at *
  generalize a.2.natAbs = d at *
  generalize b.1.natAbs = m at *
  generalize b.2.natAbs = e at *
  (repeat (first | refine XK.norm rfl rfl ?_ | refine XK.rgnA hT rfl rfl rfl ?_ | refine XK.rgnB hT hm rfl rfl rfl ?_)); refine XK.region ?_; refine XL.goA hT rfl rfl rfl rfl ?_
  refine XL.callL hE rfl rfl rfl rfl trivial rfl (divisor_ok (fun i => if i = 0 then n else e) 2 (fun i hi => by split <;> omega)) ?_ rfl ?_
  · refine ⟨rfl, rfl, fun i hi => ?_⟩
    match i, hi with
    | 0, _ => rfl
    | 1, _ => rfl
  rw [gcd2]
  refine XL.goA hT rfl rfl rfl rfl ?_
  refine XL.callL hE rfl rfl rfl rfl trivial rfl (divisor_ok (fun i => if i = 0 then m else d) 2 (fun i hi => by split <;> omega)) ?_ rfl ?_
  · refine ⟨rfl, rfl, fun i hi => ?_⟩
    match i, hi with
    | 0, _ => rfl
    | 1, _ => rfl
  rw [gcd2]
  refine XL.goA hT rfl rfl rfl rfl ?_; refine XL.fin ?_; (repeat (first | refine XK.norm rfl rfl ?_ | refine XK.rgnA hT rfl rfl rfl ?_ | refine XK.rgnB hT hm rfl rfl rfl ?_))
  have hg : 0 < Nat.gcd n e := Nat.gcd_pos_of_pos_right n hm2.2
  have hh : 0 < Nat.gcd m d := Nat.gcd_pos_of_pos_right m hn2.2
  have q1 := Nat.div_le_self n (Nat.gcd n e)
  have q2 := Nat.div_le_self m (Nat.gcd m d)
  have q3 := Nat.div_le_self d (Nat.gcd m d)
  have q4 := Nat.div_le_self e (Nat.gcd n e)
  have q5 : 0 < d / Nat.gcd m d := Nat.div_pos (Nat.le_of_dvd hn2.2 (Nat.gcd_dvd_right m d)) hh
  have q6 : 0 < e / Nat.gcd n e := Nat.div_pos (Nat.le_of_dvd hm2.2 (Nat.gcd_dvd_right n e)) hg
  generalize Nat.gcd n e = g at *
  generalize Nat.gcd m d = h at *
  (repeat (first | refine XK.norm rfl rfl ?_ | refine XK.rgnA hT rfl rfl rfl ?_ | refine XK.rgnB hT hm rfl rfl rfl ?_))
  (repeat (first | refine XK.norm rfl rfl ?_ | refine XK.rgnA hT rfl rfl rfl ?_ | refine XK.rgnB hT hm rfl rfl rfl ?_)); refine XK.drawn hm ?_; refine XD.goA hT rfl rfl rfl rfl ?_
  rw [tdiv_nn, tdiv_nn]
  generalize n / g = x at *
  generalize m / h = y at *
  have hxy : x * y ≤ 1000000000000 * 1000000000000 := Nat.mul_le_mul (by omega) (by omega)
  refine XD.callLA hE rfl rfl rfl rfl trivial rfl (mul64_ok x y (by omega) (by omega)) rfl ?_
  refine XD.goA hT rfl rfl rfl rfl ?_; refine XD.fin (by kernel_rfl) ?_; (repeat (first | refine XK.norm rfl rfl ?_ | refine XK.rgnA hT rfl rfl rfl ?_ | refine XK.rgnB hT hm rfl rfl rfl ?_))
  (repeat (first | refine XK.norm rfl rfl ?_ | refine XK.rgnA hT rfl rfl rfl ?_ | refine XK.rgnB hT hm rfl rfl rfl ?_)); refine XK.cond rfl (fun hb => ?_) (fun hb => ?_)
  · have hb : x * y / 18446744073709551616 ≠ 0 := by intro h0; rw [h0] at hb; simp at hb
    (repeat (first | refine XK.norm rfl rfl ?_ | refine XK.rgnA hT rfl rfl rfl ?_ | refine XK.rgnB hT hm rfl rfl rfl ?_))
    (first | refine XK.out rfl rfl rfl ?_ | refine XK.outN rfl rfl rfl ?_)
    unfold fracR
    rw [hc2, Nat.div_one, if_pos (.inl (by omega))]
    rfl
  · have hb : x * y / 18446744073709551616 = 0 := by
      have := hb
      simp only [bne_eq_false_iff_eq] at this
      omega
    have e1 : x * y % 18446744073709551616 = x * y := by omega
    rw [e1]
    generalize hu : d / h = u at *
    generalize hv : e / g = v at *
    have huv : u * v ≤ 1000000 * 1000000 := Nat.mul_le_mul (by omega) (by omega)
    have huv0 : 0 < u * v := Nat.mul_pos (by omega) (by omega)
    (repeat (first | refine XK.norm rfl rfl ?_ | refine XK.rgnA hT rfl rfl rfl ?_ | refine XK.rgnB hT hm rfl rfl rfl ?_))
    refine XK.drawn hm ?_
    refine XD.go hT rfl rfl rfl rfl ?_ ?_
    · simp only [AllP, impG, inK, tdiv_nn, hu, hv, ← Int.natCast_mul]
      omega
    rw [tdiv_nn, tdiv_nn, hu, hv, ← Int.natCast_mul]
    refine XD.callLA hE rfl rfl rfl rfl trivial rfl (fraction_ok (decide (a.1 < 0) != decide (b.1 < 0)) (x * y) (u * v) (by omega) (by omega) (by omega)) rfl ?_
    refine XD.goA hT rfl rfl rfl rfl ?_; refine XD.fin (by kernel_rfl) ?_; (repeat (first | refine XK.norm rfl rfl ?_ | refine XK.rgnA hT rfl rfl rfl ?_ | refine XK.rgnB hT hm rfl rfl rfl ?_))
    (repeat (first | refine XK.norm rfl rfl ?_ | refine XK.rgnA hT rfl rfl rfl ?_ | refine XK.rgnB hT hm rfl rfl rfl ?_))
    (first | refine XK.out rfl rfl rfl ?_ | refine XK.outN rfl rfl rfl ?_)
    rfl
theorem mul_ok (a b : Q) (ha : qW a) (hb' : qW b) : Does Try.prog 70 [qv a, qv b] (qr (mulR a b)) := by
  refine Does.mk (fun _ => false) TT_ok Try.func70 rfl (by kernel_rfl) Try.ntmps70 rfl rfl fun E hT hE hN hR => ?_
  have hm : E.P.follows .mixedOrders = true := by rw [hE]; kernel_rfl
  (repeat (first | refine XK.norm rfl rfl ?_ | refine XK.rgnA hT rfl rfl rfl ?_ | refine XK.rgnB hT hm rfl rfl rfl ?_)); refine XK.region ?_; refine XL.goA hT rfl rfl rfl rfl ?_
  refine XL.callL hE rfl rfl rfl rfl trivial rfl (checked_ok a b ha hb' _ _ _ _ (fun h1 h2 => mul1_ok a b h1 h2)) ?_ rfl ?_
  · exact ⟨rfl, rfl, rfl⟩
  refine XL.goA hT rfl rfl rfl rfl ?_; refine XL.fin ?_; (repeat (first | refine XK.norm rfl rfl ?_ | refine XK.rgnA hT rfl rfl rfl ?_ | refine XK.rgnB hT hm rfl rfl rfl ?_))
  (repeat (first | refine XK.norm rfl rfl ?_ | refine XK.rgnA hT rfl rfl rfl ?_ | refine XK.rgnB hT hm rfl rfl rfl ?_))
  (first | refine XK.out rfl rfl rfl ?_ | refine XK.outN rfl rfl rfl ?_)
  simp only [mulR]
  cases h : (qOk a && qOk b) <;> simp <;> rfl
end Go.Proofs.Ytiiegpjpckkohaa
end
section
/- Contracts: package remedy: valid, Interest, Capped. -/
namespace Go.Proofs.Ytiiegpjpckkohaa
open Go.Eng
set_option maxRecDepth 10000
set_option linter.unusedSimpArgs false
set_option linter.unusedVariables false
/-- The terms of damages. -/
structure Tm where
  unit : Int
  rate : Q
  cap : Q
def tmC (t : Tm) : List AV := [.c (.int .i64 t.unit), .c (.int .i64 t.rate.1), .c (.int .i64 t.rate.2), .c (.int .i64 t.cap.1), .c (.int .i64 t.cap.2)]
def tmV (t : Tm) : AV := .agg [.c (.int .i64 t.unit), .c (.int .i64 t.rate.1), .c (.int .i64 t.rate.2), .c (.int .i64 t.cap.1), .c (.int .i64 t.cap.2)]
def tmW (t : Tm) : Prop := inK .i64 t.unit ∧ qW t.rate ∧ qW t.cap
theorem subR_W (a b : Q) : qW (subR a b).1 := by
  unfold subR; split
  · exact makeR_W _ _
  · exact ⟨by simp [inK], by simp [inK]⟩
theorem mulR_W (a b : Q) : qW (mulR a b).1 := by
  unfold mulR; split
  · exact fracR_W _ _ _
  · exact ⟨by simp [inK], by simp [inK]⟩
def validT (t : Tm) : Bool := qOk t.rate && qOk t.cap && decide (0 ≤ t.rate.1)
theorem validT_ok (t : Tm) (h : tmW t) : Does Try.prog 69 [tmV t] (.c (.bool (validT t))) := by
  refine Does.mk (fun _ => false) TT_ok Try.func69 rfl (by kernel_rfl) Try.ntmps69 rfl rfl fun E hT hE hN hR => ?_
  have hm : E.P.follows .mixedOrders = true := by rw [hE]; kernel_rfl
  (repeat (first | refine XK.norm rfl rfl ?_ | refine XK.rgnA hT rfl rfl rfl ?_ | refine XK.rgnB hT hm rfl rfl rfl ?_)); refine XK.region ?_; refine XL.goA hT rfl rfl rfl rfl ?_
  refine XL.callLA hE rfl rfl rfl rfl trivial rfl (valid_ok t.rate h.2.1) rfl ?_
  refine XL.goA hT rfl rfl rfl rfl ?_
  refine XL.callGA hE rfl rfl rfl rfl rfl rfl rfl rfl (valid_ok t.cap h.2.2) rfl ?_
  refine XL.goA hT rfl rfl rfl rfl ?_; refine XL.fin ?_; (repeat (first | refine XK.norm rfl rfl ?_ | refine XK.rgnA hT rfl rfl rfl ?_ | refine XK.rgnB hT hm rfl rfl rfl ?_))
  (repeat (first | refine XK.norm rfl rfl ?_ | refine XK.rgnA hT rfl rfl rfl ?_ | refine XK.rgnB hT hm rfl rfl rfl ?_))
  (first | refine XK.out rfl rfl rfl ?_ | refine XK.outN rfl rfl rfl ?_)
  rfl
def interestR (t : Tm) (a : Q) (days : Int) : Q × Int :=
  if (!validT t || !qOk a || decide (days < 0) || decide (2000 < days)) = true then ((0, 0), 1)
  else if (mulR a t.rate).2 ≠ 0 then ((0, 0), (mulR a t.rate).2)
  else if (mulR (mulR a t.rate).1 (days, 1)).2 ≠ 0 then ((0, 0), (mulR (mulR a t.rate).1 (days, 1)).2)
  else ((mulR (mulR a t.rate).1 (days, 1)).1, 0)
theorem interest_ok (t : Tm) (a : Q) (days : Int) (h : tmW t) (ha : qW a) (hd : inK .i64 days) : Does Try.prog 39 [tmV t, qv a, .c (.int .i64 days)] (qr (interestR t a days)) := by
  refine Does.mk (fun _ => false) TT_ok Try.func39 rfl (by kernel_rfl) Try.ntmps39 rfl rfl fun E hT hE hN hR => ?_
  have hm : E.P.follows .mixedOrders = true := by rw [hE]; kernel_rfl
  (repeat (first | refine XK.norm rfl rfl ?_ | refine XK.rgnA hT rfl rfl rfl ?_ | refine XK.rgnB hT hm rfl rfl rfl ?_)); refine XK.region ?_; refine XL.goA hT rfl rfl rfl rfl ?_
  refine XL.callLA hE rfl rfl rfl rfl trivial rfl (validT_ok t h) rfl ?_
  refine XL.goA hT rfl rfl rfl rfl ?_
  refine XL.callGA hE rfl rfl rfl rfl rfl rfl rfl rfl (valid_ok a ha) rfl ?_
  refine XL.goA hT rfl rfl rfl rfl ?_; refine XL.fin ?_; (repeat (first | refine XK.norm rfl rfl ?_ | refine XK.rgnA hT rfl rfl rfl ?_ | refine XK.rgnB hT hm rfl rfl rfl ?_))
  (repeat (first | refine XK.norm rfl rfl ?_ | refine XK.rgnA hT rfl rfl rfl ?_ | refine XK.rgnB hT hm rfl rfl rfl ?_)); refine XK.cond rfl (fun h1 => ?_) (fun h1 => ?_)
  · (repeat (first | refine XK.norm rfl rfl ?_ | refine XK.rgnA hT rfl rfl rfl ?_ | refine XK.rgnB hT hm rfl rfl rfl ?_))
    (first | refine XK.out rfl rfl rfl ?_ | refine XK.outN rfl rfl rfl ?_)
    rw [interestR, if_pos h1]
    rfl
  · rw [interestR, if_neg (by rw [h1]; simp)]
    (repeat (first | refine XK.norm rfl rfl ?_ | refine XK.rgnA hT rfl rfl rfl ?_ | refine XK.rgnB hT hm rfl rfl rfl ?_)); refine XK.region ?_; refine XL.goA hT rfl rfl rfl rfl ?_
    refine XL.callLA hE rfl rfl rfl rfl trivial rfl (mul_ok a t.rate ha h.2.1) rfl ?_
    refine XL.goA hT rfl rfl rfl rfl ?_; refine XL.fin ?_; (repeat (first | refine XK.norm rfl rfl ?_ | refine XK.rgnA hT rfl rfl rfl ?_ | refine XK.rgnB hT hm rfl rfl rfl ?_))
    (repeat (first | refine XK.norm rfl rfl ?_ | refine XK.rgnA hT rfl rfl rfl ?_ | refine XK.rgnB hT hm rfl rfl rfl ?_)); refine XK.cond rfl (fun h2 => ?_) (fun h2 => ?_) <;> (try simp at h2)
    · (repeat (first | refine XK.norm rfl rfl ?_ | refine XK.rgnA hT rfl rfl rfl ?_ | refine XK.rgnB hT hm rfl rfl rfl ?_))
      (first | refine XK.out rfl rfl rfl ?_ | refine XK.outN rfl rfl rfl ?_)
      rw [if_pos h2]
      rfl
    · rw [if_neg (by simpa using h2)]
      (repeat (first | refine XK.norm rfl rfl ?_ | refine XK.rgnA hT rfl rfl rfl ?_ | refine XK.rgnB hT hm rfl rfl rfl ?_)); refine XK.region ?_; refine XL.goA hT rfl rfl rfl rfl ?_
      refine XL.callLA hE rfl rfl rfl rfl trivial rfl (mul_ok (mulR a t.rate).1 (days, 1) (mulR_W _ _) ⟨hd, by simp [inK]⟩) rfl ?_
      refine XL.goA hT rfl rfl rfl rfl ?_; refine XL.fin ?_; (repeat (first | refine XK.norm rfl rfl ?_ | refine XK.rgnA hT rfl rfl rfl ?_ | refine XK.rgnB hT hm rfl rfl rfl ?_))
      (repeat (first | refine XK.norm rfl rfl ?_ | refine XK.rgnA hT rfl rfl rfl ?_ | refine XK.rgnB hT hm rfl rfl rfl ?_)); refine XK.cond rfl (fun h3 => ?_) (fun h3 => ?_) <;> (try simp at h3)
      · (repeat (first | refine XK.norm rfl rfl ?_ | refine XK.rgnA hT rfl rfl rfl ?_ | refine XK.rgnB hT hm rfl rfl rfl ?_))
        (first | refine XK.out rfl rfl rfl ?_ | refine XK.outN rfl rfl rfl ?_)
        rw [if_pos h3]
        rfl
      · (repeat (first | refine XK.norm rfl rfl ?_ | refine XK.rgnA hT rfl rfl rfl ?_ | refine XK.rgnB hT hm rfl rfl rfl ?_))
        (first | refine XK.out rfl rfl rfl ?_ | refine XK.outN rfl rfl rfl ?_)
        rw [if_neg (by simpa using h3)]
        rfl
def cappedR (t : Tm) (a : Q) : Q × Int :=
  if (!validT t || !qOk a) = true then ((0, 0), 1)
  else if (decide (0 ≤ t.cap.1) && decide (cmpR t.cap a < 0)) = true then (t.cap, 0) else (a, 0)
theorem capped_ok (t : Tm) (a : Q) (h : tmW t) (ha : qW a) : Does Try.prog 41 [tmV t, qv a] (qr (cappedR t a)) := by
  refine Does.mk (fun _ => false) TT_ok Try.func41 rfl (by kernel_rfl) Try.ntmps41 rfl rfl fun E hT hE hN hR => ?_
  have hm : E.P.follows .mixedOrders = true := by rw [hE]; kernel_rfl
  (repeat (first | refine XK.norm rfl rfl ?_ | refine XK.rgnA hT rfl rfl rfl ?_ | refine XK.rgnB hT hm rfl rfl rfl ?_)); refine XK.region ?_; refine XL.goA hT rfl rfl rfl rfl ?_
  refine XL.callLA hE rfl rfl rfl rfl trivial rfl (validT_ok t h) rfl ?_
  refine XL.goA hT rfl rfl rfl rfl ?_
  refine XL.callGA hE rfl rfl rfl rfl rfl rfl rfl rfl (valid_ok a ha) rfl ?_
  refine XL.goA hT rfl rfl rfl rfl ?_; refine XL.fin ?_; (repeat (first | refine XK.norm rfl rfl ?_ | refine XK.rgnA hT rfl rfl rfl ?_ | refine XK.rgnB hT hm rfl rfl rfl ?_))
  (repeat (first | refine XK.norm rfl rfl ?_ | refine XK.rgnA hT rfl rfl rfl ?_ | refine XK.rgnB hT hm rfl rfl rfl ?_)); refine XK.cond rfl (fun h1 => ?_) (fun h1 => ?_)
  · (repeat (first | refine XK.norm rfl rfl ?_ | refine XK.rgnA hT rfl rfl rfl ?_ | refine XK.rgnB hT hm rfl rfl rfl ?_))
    (first | refine XK.out rfl rfl rfl ?_ | refine XK.outN rfl rfl rfl ?_)
    rw [cappedR, if_pos h1]
    rfl
  · rw [cappedR, if_neg (by rw [h1]; simp)]
    (repeat (first | refine XK.norm rfl rfl ?_ | refine XK.rgnA hT rfl rfl rfl ?_ | refine XK.rgnB hT hm rfl rfl rfl ?_)); refine XK.region ?_; refine XL.goA hT rfl rfl rfl rfl ?_
    refine XL.callGA hE rfl rfl rfl rfl rfl rfl rfl rfl (cmp_ok t.cap a h.2.2 ha) rfl ?_
    refine XL.goA hT rfl rfl rfl rfl ?_; refine XL.fin ?_; (repeat (first | refine XK.norm rfl rfl ?_ | refine XK.rgnA hT rfl rfl rfl ?_ | refine XK.rgnB hT hm rfl rfl rfl ?_))
    (repeat (first | refine XK.norm rfl rfl ?_ | refine XK.rgnA hT rfl rfl rfl ?_ | refine XK.rgnB hT hm rfl rfl rfl ?_)); refine XK.cond rfl (fun h2 => ?_) (fun h2 => ?_)
    · (repeat (first | refine XK.norm rfl rfl ?_ | refine XK.rgnA hT rfl rfl rfl ?_ | refine XK.rgnB hT hm rfl rfl rfl ?_))
      (first | refine XK.out rfl rfl rfl ?_ | refine XK.outN rfl rfl rfl ?_)
      rw [if_pos h2]
      rfl
    · (repeat (first | refine XK.norm rfl rfl ?_ | refine XK.rgnA hT rfl rfl rfl ?_ | refine XK.rgnB hT hm rfl rfl rfl ?_))
      (first | refine XK.out rfl rfl rfl ?_ | refine XK.outN rfl rfl rfl ?_)
      rw [if_neg (by rw [h2]; simp)]
      rfl
end Go.Proofs.Ytiiegpjpckkohaa
end
section
/- Contracts: package remedy: asked, add, collect. -/
namespace Go.Proofs.Ytiiegpjpckkohaa
open Go.Eng
set_option maxRecDepth 10000
set_option linter.unusedSimpArgs false
set_option linter.unusedVariables false
abbrev unitAt (k : K) (i : Int) : U := k.units.getD i.toNat default
def askedB (k : K) (t : Tm) (by_ to until_ : Int) : Bool :=
  if (!validT t || decide (t.unit < 0) || decide ((k.units.length : Int) ≤ t.unit) || (unitAt k t.unit).kind != 2) = true then false
  else if (decide (by_ < 0) || decide (k.parties ≤ by_) || decide (to < 0) || decide (k.parties ≤ to) || by_ == to) = true then false
  else decide (0 ≤ until_) && decide (until_ ≤ k.days)
theorem asked_ok (k : K) (t : Tm) (by_ to until_ : Int) (ht : tmW t) : Does Try.prog 53 [kV k, tmV t, .c (.int .i64 by_), .c (.int .i64 to), .c (.int .i64 until_)] (.c (.bool (askedB k t by_ to until_))) := by
  refine Does.mk (fun _ => false) TT_ok Try.func53 rfl (by kernel_rfl) Try.ntmps53 rfl rfl fun E hT hE hN hR => ?_
  have hm : E.P.follows .mixedOrders = true := by rw [hE]; kernel_rfl
  (repeat (first | refine XK.norm rfl rfl ?_ | refine XK.rgnA hT rfl rfl rfl ?_ | refine XK.rgnB hT hm rfl rfl rfl ?_)); refine XK.region ?_; refine XL.goA hT rfl rfl rfl rfl ?_
  refine XL.callLA hE rfl rfl rfl rfl trivial rfl (validT_ok t ht) rfl ?_
  refine XL.goA hT rfl rfl rfl rfl ?_; refine XL.fin ?_; (repeat (first | refine XK.norm rfl rfl ?_ | refine XK.rgnA hT rfl rfl rfl ?_ | refine XK.rgnB hT hm rfl rfl rfl ?_))
  (repeat (first | refine XK.norm rfl rfl ?_ | refine XK.rgnA hT rfl rfl rfl ?_ | refine XK.rgnB hT hm rfl rfl rfl ?_)); refine XK.cond rfl (fun h1 => ?_) (fun h1 => ?_)
  · (repeat (first | refine XK.norm rfl rfl ?_ | refine XK.rgnA hT rfl rfl rfl ?_ | refine XK.rgnB hT hm rfl rfl rfl ?_))
    (first | refine XK.out rfl rfl rfl ?_ | refine XK.outN rfl rfl rfl ?_)
    rw [askedB, if_pos h1]
  · rw [askedB, if_neg (by rw [h1]; simp)]
    (repeat (first | refine XK.norm rfl rfl ?_ | refine XK.rgnA hT rfl rfl rfl ?_ | refine XK.rgnB hT hm rfl rfl rfl ?_)); refine XK.cond rfl (fun h2 => ?_) (fun h2 => ?_)
    · (repeat (first | refine XK.norm rfl rfl ?_ | refine XK.rgnA hT rfl rfl rfl ?_ | refine XK.rgnB hT hm rfl rfl rfl ?_))
      (first | refine XK.out rfl rfl rfl ?_ | refine XK.outN rfl rfl rfl ?_)
      rw [if_pos h2]
    · (repeat (first | refine XK.norm rfl rfl ?_ | refine XK.rgnA hT rfl rfl rfl ?_ | refine XK.rgnB hT hm rfl rfl rfl ?_))
      (first | refine XK.out rfl rfl rfl ?_ | refine XK.outN rfl rfl rfl ?_)
      rw [if_neg (by rw [h2]; simp)]
def sumO (s : Q × Int) : Ob := .cells 106 [.c (.int .i64 s.1.1), .c (.int .i64 s.1.2), .c (.int .i64 s.2)]
def addS (s : Q × Int) (a : Q) : Q × Int := if s.2 ≠ 0 then s else if (addR s.1 a).2 ≠ 0 then (s.1, (addR s.1 a).2) else ((addR s.1 a).1, s.2)
theorem addS_W {s : Q × Int} {a : Q} (h : qW s.1) : qW (addS s a).1 := by
  unfold addS
  split
  · exact h
  · split
    · exact h
    · exact addR_W _ _
theorem addS_ok (s : Q × Int) (a : Q) (hs : qW s.1) (ha : qW a) : DoesM Try.prog 56 [.ptr 0 0, qv a] [sumO s] (.tup []) [sumO (addS s a)] := by
  refine DoesM.mk (fun _ => false) 100 TT_ok Try.func56 rfl (by kernel_rfl) Try.ntmps56 rfl rfl rfl fun E hT hE hN hR => ?_
  have hm : E.P.follows .mixedOrders = true := by rw [hE]; kernel_rfl
  (repeat (first | refine XK.norm rfl rfl ?_ | refine XK.rgnA hT rfl rfl rfl ?_ | refine XK.rgnB hT hm rfl rfl rfl ?_)); refine XK.cond rfl (fun h1 => ?_) (fun h1 => ?_) <;> (try simp at h1)
  · (repeat (first | refine XK.norm rfl rfl ?_ | refine XK.rgnA hT rfl rfl rfl ?_ | refine XK.rgnB hT hm rfl rfl rfl ?_))
    (first | refine XK.outR [0] hN rfl rfl rfl ?_ rfl rfl ?_ | refine XK.outRN [0] hN rfl rfl rfl ?_ rfl rfl ?_)
    · rw [addS, if_pos h1]
      (repeat' (first | exact rfl | exact AvIs.refl _ | exact trivial | exact fun _ _ => rfl | exact fun _ _ => ⟨rfl, AvIs.refl _⟩ | refine ⟨?_, ?_⟩))
    · (repeat' (first | exact rfl | exact AvIs.refl _ | exact trivial | exact fun _ _ => rfl | exact fun _ _ => ⟨rfl, AvIs.refl _⟩ | refine ⟨?_, ?_⟩))
  · (repeat (first | refine XK.norm rfl rfl ?_ | refine XK.rgnA hT rfl rfl rfl ?_ | refine XK.rgnB hT hm rfl rfl rfl ?_)); refine XK.drawn hm ?_; refine XD.goA hT rfl rfl rfl rfl ?_
    refine XD.callLA hE rfl rfl rfl rfl trivial rfl (add_ok s.1 a hs ha) rfl ?_
    refine XD.goA hT rfl rfl rfl rfl ?_; refine XD.fin (by kernel_rfl) ?_; (repeat (first | refine XK.norm rfl rfl ?_ | refine XK.rgnA hT rfl rfl rfl ?_ | refine XK.rgnB hT hm rfl rfl rfl ?_))
    (repeat (first | refine XK.norm rfl rfl ?_ | refine XK.rgnA hT rfl rfl rfl ?_ | refine XK.rgnB hT hm rfl rfl rfl ?_)); refine XK.cond rfl (fun h2 => ?_) (fun h2 => ?_) <;> (try simp at h2)
    · (repeat (first | refine XK.norm rfl rfl ?_ | refine XK.rgnA hT rfl rfl rfl ?_ | refine XK.rgnB hT hm rfl rfl rfl ?_))
      (first | refine XK.outR [0] hN rfl rfl rfl ?_ rfl rfl ?_ | refine XK.outRN [0] hN rfl rfl rfl ?_ rfl rfl ?_)
      · rw [addS, if_neg (by simpa using h1), if_pos h2]
        (repeat' (first | exact rfl | exact AvIs.refl _ | exact trivial | exact fun _ _ => rfl | exact fun _ _ => ⟨rfl, AvIs.refl _⟩ | refine ⟨?_, ?_⟩))
      · (repeat' (first | exact rfl | exact AvIs.refl _ | exact trivial | exact fun _ _ => rfl | exact fun _ _ => ⟨rfl, AvIs.refl _⟩ | refine ⟨?_, ?_⟩))
    · (repeat (first | refine XK.norm rfl rfl ?_ | refine XK.rgnA hT rfl rfl rfl ?_ | refine XK.rgnB hT hm rfl rfl rfl ?_))
      (first | refine XK.outR [0] hN rfl rfl rfl ?_ rfl rfl ?_ | refine XK.outRN [0] hN rfl rfl rfl ?_ rfl rfl ?_)
      · rw [addS, if_neg (by simpa using h1), if_neg (by simpa using h2)]
        (repeat' (first | exact rfl | exact AvIs.refl _ | exact trivial | exact fun _ _ => rfl | exact fun _ _ => ⟨rfl, AvIs.refl _⟩ | refine ⟨?_, ?_⟩))
      · (repeat' (first | exact rfl | exact AvIs.refl _ | exact trivial | exact fun _ _ => rfl | exact fun _ _ => ⟨rfl, AvIs.refl _⟩ | refine ⟨?_, ?_⟩))
def collT (s : Q × Int) (f : Nat → Q) : Nat → Q × Int
  | 0 => s
  | n + 1 => addS (collT s f n) (f n)
theorem collT_W {s : Q × Int} {f : Nat → Q} (h : qW s.1) : ∀ n, qW (collT s f n).1
  | 0 => h
  | n + 1 => addS_W (collT_W h n)
theorem collect_ok (s : Q × Int) (n : Nat) (f : Nat → Q) (hs : qW s.1) (hf : ∀ i, i < n → qW (f i)) : DoesM Try.prog 55 [ratV n f, .fn (.func 56) [.ptr 0 0] []] [sumO s] (.tup []) [sumO (collT s f n)] := by
  refine DoesM.mk (fun _ => false) 100 TT_ok Try.func55 rfl (by kernel_rfl) Try.ntmps55 rfl rfl rfl fun E hT hE hN hR => ?_
  have hm : E.P.follows .mixedOrders = true := by rw [hE]; kernel_rfl
  refine XK.fact (Sat.rs_len (j := 0) rfl) fun hlen => ?_
  have hm' := hlen.1
  (repeat (first | refine XK.norm rfl rfl ?_ | refine XK.rgnA hT rfl rfl rfl ?_ | refine XK.rgnB hT hm rfl rfl rfl ?_))
  refine XK.loop (ι := Nat) (fun i => ST.of [(1, .fn (.func 56) [.ptr 0 0] []), (6, ratV n f), (7, .c (.int .i64 n)), (8, .c (.int .i64 i))] [(0, sumO (collT s f i))] 1000 16 (fun _ => false))
    (fun i => i ≤ n) (fun i => n - i) 0 (Nat.zero_le _)
    (Weak.of hN rfl rfl rfl (by (repeat' (first | exact rfl | exact AvIs.refl _ | exact trivial | exact fun _ _ => rfl | exact fun _ _ => ⟨rfl, AvIs.refl _⟩ | refine ⟨?_, ?_⟩))) (by (repeat' (first | exact rfl | exact AvIs.refl _ | exact trivial | exact fun _ _ => rfl | exact fun _ _ => ⟨rfl, AvIs.refl _⟩ | refine ⟨?_, ?_⟩)))) fun i hi => ?_
  (repeat (first | refine XK.norm rfl rfl ?_ | refine XK.rgnA hT rfl rfl rfl ?_ | refine XK.rgnB hT hm rfl rfl rfl ?_)); refine XK.cond rfl (fun hlt => ?_) (fun hlt => ?_) <;> (try simp at hlt)
  · have hlt : i < n := hlt
    (repeat (first | refine XK.norm rfl rfl ?_ | refine XK.rgnA hT rfl rfl rfl ?_ | refine XK.rgnB hT hm rfl rfl rfl ?_)); refine XK.region ?_; refine XL.goA hT rfl rfl rfl rfl ?_
    refine XL.callMA [0] hE rfl rfl rfl rfl trivial (addS_ok (collT s f i) (f i) (collT_W hs i) (hf i hlt)) rfl rfl rfl rfl rfl ?_
    refine XL.goA hT rfl rfl rfl rfl ?_; refine XL.fin ?_; (repeat (first | refine XK.norm rfl rfl ?_ | refine XK.rgnA hT rfl rfl rfl ?_ | refine XK.rgnB hT hm rfl rfl rfl ?_))
    (repeat (first | refine XK.norm rfl rfl ?_ | refine XK.rgnA hT rfl rfl rfl ?_ | refine XK.rgnB hT hm rfl rfl rfl ?_))
    exact XK.inv ⟨i + 1, hlt, (Weak.of hN rfl rfl rfl (by (repeat' (first | exact rfl | exact AvIs.refl _ | exact trivial | exact fun _ _ => rfl | exact fun _ _ => ⟨rfl, AvIs.refl _⟩ | refine ⟨?_, ?_⟩))) (by (repeat' (first | exact rfl | exact AvIs.refl _ | exact trivial | exact fun _ _ => rfl | exact fun _ _ => ⟨rfl, AvIs.refl _⟩ | refine ⟨?_, ?_⟩)))), by omega⟩
  · have hie : i = n := by omega
    subst hie
    (repeat (first | refine XK.norm rfl rfl ?_ | refine XK.rgnA hT rfl rfl rfl ?_ | refine XK.rgnB hT hm rfl rfl rfl ?_))
    (first | refine XK.outR [0] hN rfl rfl rfl ?_ rfl rfl ?_ | refine XK.outRN [0] hN rfl rfl rfl ?_ rfl rfl ?_)
    · (repeat' (first | exact rfl | exact AvIs.refl _ | exact trivial | exact fun _ _ => rfl | exact fun _ _ => ⟨rfl, AvIs.refl _⟩ | refine ⟨?_, ?_⟩))
    · (repeat' (first | exact rfl | exact AvIs.refl _ | exact trivial | exact fun _ _ => rfl | exact fun _ _ => ⟨rfl, AvIs.refl _⟩ | refine ⟨?_, ?_⟩))
end Go.Proofs.Ytiiegpjpckkohaa
end
