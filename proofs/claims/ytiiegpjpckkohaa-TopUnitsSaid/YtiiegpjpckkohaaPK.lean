import Derived.Test.YtiiegpjpckkohaaPJ
import Derived.Test.YtiiegpjpckkohaaPG
section
/- Interest as rational numbers; the law RemedyInterest: the walk. -/
namespace Go.Proofs.Ytiiegpjpckkohaa
open Go.Eng
set_option maxRecDepth 10000
set_option linter.unusedSimpArgs false
set_option linter.unusedVariables false
noncomputable def cTm : Codec Try.prog 31 Tm := (Codec.struct ty31_k rfl (.cons cInt (.cons cQ (.cons cQ (.nil _ _)))) (by kernel_rfl)).map (fun x => ⟨x.1, x.2.1, x.2.2.1⟩) tmC tmW (fun _ => rfl) (fun _ => rfl) (fun _ h => ⟨h.1, h.2.1, h.2.2.1⟩)
theorem mulR_ok {a b : Q} (h : (mulR a b).2 = 0) : (qOk a = true ∧ qOk b = true) ∧ qOk (mulR a b).1 = true ∧ rt (mulR a b).1 = rt a * rt b := by
  have hab : qOk a = true ∧ qOk b = true := by
    unfold mulR at h
    split at h
    · rename_i h1; simpa using h1
    · simp at h
  rw [mulR_toQ hab.1 hab.2] at h ⊢
  exact ⟨hab, toQ_ok h⟩
theorem toQ_code (x : Rat) : (toQ x).2 = 0 ∨ (toQ x).2 = 2 := by
  unfold toQ; split <;> simp
theorem mulR_code {a b : Q} (ha : qOk a = true) (hb : qOk b = true) : (mulR a b).2 = 0 ∨ (mulR a b).2 = 2 := by
  rw [mulR_toQ ha hb]; exact toQ_code _
theorem daysQ_ok {d : Int} (h : 0 ≤ d ∧ d ≤ 2000) : qOk (d, 1) = true := qOk_iff.2 ⟨by simp, by simp, by simp only; omega, by simp only; omega, by simp⟩
theorem rt_int (d : Int) : rt (d, 1) = (d : Rat) := by unfold rt; simp only [Rat.intCast_one]; grind
theorem validT_iff {t : Tm} : validT t = true ↔ qOk t.rate = true ∧ qOk t.cap = true ∧ 0 ≤ t.rate.1 := by
  simp [validT, and_assoc]
/-- What Interest asks for. -/
def intPre (t : Tm) (a : Q) (d : Int) : Prop := validT t = true ∧ qOk a = true ∧ 0 ≤ d ∧ d ≤ 2000
theorem interestR_pre {t : Tm} {a : Q} {d : Int} (h : intPre t a d) : ((interestR t a d).2 = 0 ∨ (interestR t a d).2 = 2) := by
  obtain ⟨h1, h2, h3⟩ := h
  unfold interestR
  rw [if_neg (by simp [h1, h2]; omega)]
  obtain ⟨v1, v2, v3⟩ := validT_iff.1 h1
  split
  · exact mulR_code h2 v1
  · rename_i h4
    have h4 : (mulR a t.rate).2 = 0 := by simpa using h4
    split
    · exact mulR_code (mulR_ok h4).2.1 (daysQ_ok h3)
    · exact .inl rfl
theorem interestR_not {t : Tm} {a : Q} {d : Int} (h : ¬ intPre t a d) : interestR t a d = ((0, 0), 1) := by
  unfold interestR
  rw [if_pos]
  unfold intPre at h
  simp only [Bool.or_eq_true, Bool.not_eq_true', decide_eq_true_eq]
  by_cases h1 : validT t = true
  · by_cases h2 : qOk a = true
    · have : ¬ (0 ≤ d ∧ d ≤ 2000) := fun h3 => h ⟨h1, h2, h3⟩
      omega
    · exact .inl (.inl (.inr (by simpa using h2)))
  · exact .inl (.inl (.inl (by simpa using h1)))
theorem interestR_ok {t : Tm} {a : Q} {d : Int} (h : (interestR t a d).2 = 0) : intPre t a d ∧ qOk (interestR t a d).1 = true ∧ rt (interestR t a d).1 = rt a * rt t.rate * (d : Rat) := by
  have hp : intPre t a d := by
    apply Classical.byContradiction
    intro hn
    rw [interestR_not hn] at h
    cases h
  refine ⟨hp, ?_⟩
  unfold interestR at h ⊢
  split at h
  · cases h
  · rename_i h1
    rw [if_neg h1]
    split at h
    · rename_i h2; exact absurd h h2
    · rename_i h2
      rw [if_neg h2]
      have h2 : (mulR a t.rate).2 = 0 := by simpa using h2
      split at h
      · rename_i h3; exact absurd h h3
      · rename_i h3
        rw [if_neg h3]
        have h3 : (mulR (mulR a t.rate).1 (d, 1)).2 = 0 := by simpa using h3
        obtain ⟨_, e1, e2⟩ := mulR_ok h2
        obtain ⟨_, e3, e4⟩ := mulR_ok h3
        refine ⟨e3, ?_⟩
        rw [e4, e2, rt_int]
theorem lawI (t : Tm) (ht : tmW t) (a b : Q) (ha : qW a) (hb' : qW b) (one two : Int) (h1 : inK .u16 one) (h2 : inK .u16 two) : Does Try.prog 9 [tmV t, qv a, qv b, .c (.int .u16 one), .c (.int .u16 two)] (.c (.bool true)) := by
  refine Does.mk (fun _ => false) TT_ok Try.func9 rfl (by kernel_rfl) Try.ntmps9 rfl rfl fun E hT hE hN hR => ?_
  have hm : E.P.follows .mixedOrders = true := by rw [hE]; kernel_rfl
  simp only [inK] at h1 h2
  obtain ⟨u, rfl⟩ := Int.eq_ofNat_of_zero_le h1.1
  obtain ⟨v, rfl⟩ := Int.eq_ofNat_of_zero_le h2.1
  have em : ∀ x : Nat, Int.tmod (x : Int) 1001 = ((x % 1001 : Nat) : Int) := fun _ => rfl
  (repeat (first | refine XK.norm rfl rfl ?_ | refine XK.rgnA hT rfl rfl rfl ?_ | refine XK.rgnB hT hm rfl rfl rfl ?_)); refine XK.region ?_; refine XL.goA hT rfl rfl rfl rfl ?_
  refine XL.callLA hE rfl rfl rfl rfl trivial rfl (head41_ok) rfl ?_
  refine XL.goA hT rfl rfl rfl rfl ?_; refine XL.fin ?_; (repeat (first | refine XK.norm rfl rfl ?_ | refine XK.rgnA hT rfl rfl rfl ?_ | refine XK.rgnB hT hm rfl rfl rfl ?_))
  rw [em, em]
  have hm' := Nat.mod_lt u (show 0 < 1001 by omega)
  have hn' := Nat.mod_lt v (show 0 < 1001 by omega)
  generalize u % 1001 = m at *
  generalize v % 1001 = n at *
  have i1 := interest_ok t a m ht ha (by simp only [inK]; omega)
  have i2 := interest_ok t a n ht ha (by simp only [inK]; omega)
  have i3 := interest_ok t a (m + n) ht ha (by simp only [inK]; omega)
  have i4 := interest_ok t b m ht hb' (by simp only [inK]; omega)
  have i5 := interest_ok t (addR a b).1 m ht (addR_W _ _) (by simp only [inK]; omega)
  have i6 := interest_ok t a 0 ht ha (by simp only [inK]; omega)
  have j1 := add_ok (interestR t a m).1 (interestR t a n).1 (interestR_W _ _ _) (interestR_W _ _ _)
  have j2 := add_ok (interestR t a m).1 (interestR t b m).1 (interestR_W _ _ _) (interestR_W _ _ _)
  have k1 : (interestR t a m).2 = 0 → (interestR t a n).2 = 0 → (interestR t a (m + n)).2 = 0 → (addR (interestR t a m).1 (interestR t a n).1).2 = 0 → (addR (interestR t a m).1 (interestR t a n).1).1 = (interestR t a (m + n)).1 := by
    intro h1 h2 h3 h4
    obtain ⟨_, e1, e2⟩ := interestR_ok h1
    obtain ⟨_, e3, e4⟩ := interestR_ok h2
    obtain ⟨_, e5, e6⟩ := interestR_ok h3
    obtain ⟨_, e7, e8⟩ := addR_ok h4
    refine rt_inj e7 e5 ?_
    rw [e8, e2, e4, e6, Rat.intCast_add]
    grind
  have k2 : (interestR t a m).2 = 0 → (addR a b).2 = 0 → (interestR t b m).2 = 0 → (interestR t (addR a b).1 m).2 = 0 → (addR (interestR t a m).1 (interestR t b m).1).2 = 0 → (addR (interestR t a m).1 (interestR t b m).1).1 = (interestR t (addR a b).1 m).1 := by
    intro h1 h2 h3 h4 h5
    obtain ⟨_, e1, e2⟩ := interestR_ok h1
    obtain ⟨_, e3, e4⟩ := interestR_ok h3
    obtain ⟨_, e5, e6⟩ := interestR_ok h4
    obtain ⟨_, e7, e8⟩ := addR_ok h5
    obtain ⟨_, e9, e10⟩ := addR_ok h2
    refine rt_inj e7 e5 ?_
    rw [e8, e2, e4, e6, e10]
    grind
  have k3 : (interestR t a 0).2 = 0 → (interestR t a 0).1 = (0, 1) := by
    intro h1
    obtain ⟨_, e1, e2⟩ := interestR_ok h1
    refine rt_inj e1 zeroQ_ok ?_
    rw [e2, rt_zero]
    simp
  have k4 : (interestR t a m).2 = 1 ↔ (interestR t a 0).2 = 1 := by
    by_cases h : validT t = true ∧ qOk a = true
    · have h1 := interestR_pre (t := t) (a := a) (d := m) ⟨h.1, h.2, by omega, by omega⟩
      have h2 := interestR_pre (t := t) (a := a) (d := 0) ⟨h.1, h.2, by omega, by omega⟩
      omega
    · rw [interestR_not fun h1 => h ⟨h1.1, h1.2.1⟩, interestR_not fun h1 => h ⟨h1.1, h1.2.1⟩]
  have j3 := add_ok a b ha hb'
  generalize interestR t a m = x at *
  generalize interestR t a n = y at *
  generalize interestR t a (m + n) = al at *
  generalize interestR t b m = p at *
  generalize interestR t (addR a b).1 m = q at *
  generalize interestR t a 0 = no at *
  generalize addR x.1 y.1 = sm at *
  generalize addR x.1 p.1 = mo at *
  generalize addR a b = bo at *
  (repeat (first | refine XK.norm rfl rfl ?_ | refine XK.rgnA hT rfl rfl rfl ?_ | refine XK.rgnB hT hm rfl rfl rfl ?_)); refine XK.region ?_; refine XL.goA hT rfl rfl rfl rfl ?_
  refine XL.callLA hE rfl rfl rfl rfl trivial rfl (i1) rfl ?_
  refine XL.goA hT rfl rfl rfl rfl ?_; refine XL.fin ?_; (repeat (first | refine XK.norm rfl rfl ?_ | refine XK.rgnA hT rfl rfl rfl ?_ | refine XK.rgnB hT hm rfl rfl rfl ?_))
  (repeat (first | refine XK.norm rfl rfl ?_ | refine XK.rgnA hT rfl rfl rfl ?_ | refine XK.rgnB hT hm rfl rfl rfl ?_)); refine XK.region ?_; refine XL.goA hT rfl rfl rfl rfl ?_
  refine XL.callLA hE rfl rfl rfl rfl trivial rfl (i2) rfl ?_
  refine XL.goA hT rfl rfl rfl rfl ?_; refine XL.fin ?_; (repeat (first | refine XK.norm rfl rfl ?_ | refine XK.rgnA hT rfl rfl rfl ?_ | refine XK.rgnB hT hm rfl rfl rfl ?_))
  (repeat (first | refine XK.norm rfl rfl ?_ | refine XK.rgnA hT rfl rfl rfl ?_ | refine XK.rgnB hT hm rfl rfl rfl ?_)); refine XK.region ?_; refine XL.goA hT rfl rfl rfl rfl ?_
  refine XL.callLA hE rfl rfl rfl rfl trivial rfl (i3) rfl ?_
  refine XL.goA hT rfl rfl rfl rfl ?_; refine XL.fin ?_; (repeat (first | refine XK.norm rfl rfl ?_ | refine XK.rgnA hT rfl rfl rfl ?_ | refine XK.rgnB hT hm rfl rfl rfl ?_))
  (repeat (first | refine XK.norm rfl rfl ?_ | refine XK.rgnA hT rfl rfl rfl ?_ | refine XK.rgnB hT hm rfl rfl rfl ?_)); refine XK.region ?_; refine XL.goA hT rfl rfl rfl rfl ?_
  refine XL.callLA hE rfl rfl rfl rfl trivial rfl (j1) rfl ?_
  refine XL.goA hT rfl rfl rfl rfl ?_; refine XL.fin ?_; (repeat (first | refine XK.norm rfl rfl ?_ | refine XK.rgnA hT rfl rfl rfl ?_ | refine XK.rgnB hT hm rfl rfl rfl ?_))
  (repeat (first | refine XK.norm rfl rfl ?_ | refine XK.rgnA hT rfl rfl rfl ?_ | refine XK.rgnB hT hm rfl rfl rfl ?_)); refine XK.cond rfl (fun h3 => ?_) (fun h3 => ?_) <;> (try simp at h3)
  · exfalso
    obtain ⟨⟨⟨⟨q1, q2⟩, q3⟩, q4⟩, q5⟩ := h3
    have := k1 q1 q2 q3 q4
    rw [this] at q5
    simp at q5
  · (repeat (first | refine XK.norm rfl rfl ?_ | refine XK.rgnA hT rfl rfl rfl ?_ | refine XK.rgnB hT hm rfl rfl rfl ?_)); refine XK.region ?_; refine XL.goA hT rfl rfl rfl rfl ?_
    refine XL.callLA hE rfl rfl rfl rfl trivial rfl (j3) rfl ?_
    refine XL.goA hT rfl rfl rfl rfl ?_; refine XL.fin ?_; (repeat (first | refine XK.norm rfl rfl ?_ | refine XK.rgnA hT rfl rfl rfl ?_ | refine XK.rgnB hT hm rfl rfl rfl ?_))
    (repeat (first | refine XK.norm rfl rfl ?_ | refine XK.rgnA hT rfl rfl rfl ?_ | refine XK.rgnB hT hm rfl rfl rfl ?_)); refine XK.region ?_; refine XL.goA hT rfl rfl rfl rfl ?_
    refine XL.callLA hE rfl rfl rfl rfl trivial rfl (i4) rfl ?_
    refine XL.goA hT rfl rfl rfl rfl ?_; refine XL.fin ?_; (repeat (first | refine XK.norm rfl rfl ?_ | refine XK.rgnA hT rfl rfl rfl ?_ | refine XK.rgnB hT hm rfl rfl rfl ?_))
    (repeat (first | refine XK.norm rfl rfl ?_ | refine XK.rgnA hT rfl rfl rfl ?_ | refine XK.rgnB hT hm rfl rfl rfl ?_)); refine XK.region ?_; refine XL.goA hT rfl rfl rfl rfl ?_
    refine XL.callLA hE rfl rfl rfl rfl trivial rfl (i5) rfl ?_
    refine XL.goA hT rfl rfl rfl rfl ?_; refine XL.fin ?_; (repeat (first | refine XK.norm rfl rfl ?_ | refine XK.rgnA hT rfl rfl rfl ?_ | refine XK.rgnB hT hm rfl rfl rfl ?_))
    (repeat (first | refine XK.norm rfl rfl ?_ | refine XK.rgnA hT rfl rfl rfl ?_ | refine XK.rgnB hT hm rfl rfl rfl ?_)); refine XK.region ?_; refine XL.goA hT rfl rfl rfl rfl ?_
    refine XL.callLA hE rfl rfl rfl rfl trivial rfl (j2) rfl ?_
    refine XL.goA hT rfl rfl rfl rfl ?_; refine XL.fin ?_; (repeat (first | refine XK.norm rfl rfl ?_ | refine XK.rgnA hT rfl rfl rfl ?_ | refine XK.rgnB hT hm rfl rfl rfl ?_))
    (repeat (first | refine XK.norm rfl rfl ?_ | refine XK.rgnA hT rfl rfl rfl ?_ | refine XK.rgnB hT hm rfl rfl rfl ?_)); refine XK.cond rfl (fun h4 => ?_) (fun h4 => ?_) <;> (try simp at h4)
    · exfalso
      obtain ⟨⟨⟨⟨⟨q1, q2⟩, q3⟩, q4⟩, q5⟩, q6⟩ := h4
      have := k2 q1 q2 q3 q4 q5
      rw [this] at q6
      simp at q6
    · (repeat (first | refine XK.norm rfl rfl ?_ | refine XK.rgnA hT rfl rfl rfl ?_ | refine XK.rgnB hT hm rfl rfl rfl ?_)); refine XK.region ?_; refine XL.goA hT rfl rfl rfl rfl ?_
      refine XL.callLA hE rfl rfl rfl rfl trivial rfl (i6) rfl ?_
      refine XL.goA hT rfl rfl rfl rfl ?_; refine XL.fin ?_; (repeat (first | refine XK.norm rfl rfl ?_ | refine XK.rgnA hT rfl rfl rfl ?_ | refine XK.rgnB hT hm rfl rfl rfl ?_))
      (repeat (first | refine XK.norm rfl rfl ?_ | refine XK.rgnA hT rfl rfl rfl ?_ | refine XK.rgnB hT hm rfl rfl rfl ?_)); refine XK.drawn hm ?_; refine XD.goA hT rfl rfl rfl rfl ?_
      refine XD.callGA hE rfl rfl rfl rfl rfl rfl rfl rfl rfl (whole_ok 0) rfl ?_
      refine XD.goA hT rfl rfl rfl rfl ?_; refine XD.fin (by kernel_rfl) ?_; (repeat (first | refine XK.norm rfl rfl ?_ | refine XK.rgnA hT rfl rfl rfl ?_ | refine XK.rgnB hT hm rfl rfl rfl ?_))
      (repeat (first | refine XK.norm rfl rfl ?_ | refine XK.rgnA hT rfl rfl rfl ?_ | refine XK.rgnB hT hm rfl rfl rfl ?_))
      (first | refine XK.out rfl rfl rfl ?_ | refine XK.outN rfl rfl rfl ?_)
      refine cB ?_
      clear i1 i2 i3 i4 i5 i6 j1 j2 j3 k1 k2
      have k5 : (x.2 == 1) = (no.2 == 1) := by rw [Bool.eq_iff_iff, beq_iff_eq, beq_iff_eq]; exact k4
      have k6 : (no.2 != 0 || ((no.1.1 == 0) && (no.1.2 == 1))) = true := by
        by_cases h : no.2 = 0
        · rw [k3 h]; simp
        · simp [h]
      simp [k5, k6]
end Go.Proofs.Ytiiegpjpckkohaa
end
section
/- The law RemedyCaps: the walk. -/
namespace Go.Proofs.Ytiiegpjpckkohaa
open Go.Eng
set_option maxRecDepth 10000
set_option linter.unusedSimpArgs false
set_option linter.unusedVariables false
theorem cmpR_self (a : Q) : cmpR a a = 0 := by
  unfold cmpR; split <;> simp
theorem cmpR_lt {a b : Q} (ha : qOk a = true) (hb : qOk b = true) : cmpR a b < 0 ↔ rt a < rt b := by
  have h := cmpR_le (a := a) (b := b) ha hb
  constructor
  · intro h1
    exact Rat.not_le.1 fun h2 => by have := h.2 h2; omega
  · intro h1
    have : ¬ 0 ≤ cmpR a b := fun h2 => Rat.not_le.2 h1 (h.1 h2)
    omega
theorem cmpR_gt {a b : Q} (ha : qOk a = true) (hb : qOk b = true) : 0 < cmpR a b ↔ rt b < rt a := by
  rw [← cmpR_lt hb ha]
  unfold cmpR
  simp only [ha, hb, Bool.and_self, if_true]
  split
  · split <;> omega
  · split
    · omega
    · omega
theorem cappedR_pre {t : Tm} {a : Q} (h1 : validT t = true) (h2 : qOk a = true) : cappedR t a = if 0 ≤ t.cap.1 ∧ rt t.cap < rt a then (t.cap, 0) else (a, 0) := by
  unfold cappedR
  rw [if_neg (by simp [h1, h2])]
  have := cmpR_lt (validT_iff.1 h1).2.1 h2
  by_cases h : 0 ≤ t.cap.1 ∧ rt t.cap < rt a
  · rw [if_pos h, if_pos (by simp only [Bool.and_eq_true, decide_eq_true_eq]; exact ⟨h.1, this.2 h.2⟩)]
  · rw [if_neg h, if_neg (by simp only [Bool.and_eq_true, decide_eq_true_eq]; exact fun h3 => h ⟨h3.1, this.1 h3.2⟩)]
theorem cappedR_not {t : Tm} {a : Q} (h : ¬ (validT t = true ∧ qOk a = true)) : cappedR t a = ((0, 0), 1) := by
  unfold cappedR
  rw [if_pos]
  simp only [Bool.or_eq_true, Bool.not_eq_true']
  by_cases h1 : validT t = true
  · exact .inr (by simpa using fun h2 => h ⟨h1, h2⟩)
  · exact .inl (by simpa using h1)
theorem lawC (t : Tm) (ht : tmW t) (a b : Q) (ha : qW a) (hb' : qW b) : Does Try.prog 10 [tmV t, qv a, qv b] (.c (.bool true)) := by
  refine Does.mk (fun _ => false) TT_ok Try.func10 rfl (by kernel_rfl) Try.ntmps10 rfl rfl fun E hT hE hN hR => ?_
  have hm : E.P.follows .mixedOrders = true := by rw [hE]; kernel_rfl
  have hxW := cappedR_W ht ha
  have hyW := cappedR_W ht hb'
  (repeat (first | refine XK.norm rfl rfl ?_ | refine XK.rgnA hT rfl rfl rfl ?_ | refine XK.rgnB hT hm rfl rfl rfl ?_)); refine XK.region ?_; refine XL.goA hT rfl rfl rfl rfl ?_
  refine XL.callLA hE rfl rfl rfl rfl trivial rfl (head41_ok) rfl ?_
  refine XL.goA hT rfl rfl rfl rfl ?_; refine XL.fin ?_; (repeat (first | refine XK.norm rfl rfl ?_ | refine XK.rgnA hT rfl rfl rfl ?_ | refine XK.rgnB hT hm rfl rfl rfl ?_))
  (repeat (first | refine XK.norm rfl rfl ?_ | refine XK.rgnA hT rfl rfl rfl ?_ | refine XK.rgnB hT hm rfl rfl rfl ?_)); refine XK.region ?_; refine XL.goA hT rfl rfl rfl rfl ?_
  refine XL.callLA hE rfl rfl rfl rfl trivial rfl (capped_ok t a ht ha) rfl ?_
  refine XL.goA hT rfl rfl rfl rfl ?_; refine XL.fin ?_; (repeat (first | refine XK.norm rfl rfl ?_ | refine XK.rgnA hT rfl rfl rfl ?_ | refine XK.rgnB hT hm rfl rfl rfl ?_))
  (repeat (first | refine XK.norm rfl rfl ?_ | refine XK.rgnA hT rfl rfl rfl ?_ | refine XK.rgnB hT hm rfl rfl rfl ?_)); refine XK.region ?_; refine XL.goA hT rfl rfl rfl rfl ?_
  refine XL.callLA hE rfl rfl rfl rfl trivial rfl (capped_ok t b ht hb') rfl ?_
  refine XL.goA hT rfl rfl rfl rfl ?_; refine XL.fin ?_; (repeat (first | refine XK.norm rfl rfl ?_ | refine XK.rgnA hT rfl rfl rfl ?_ | refine XK.rgnB hT hm rfl rfl rfl ?_))
  by_cases hv : validT t = true ∧ qOk a = true
  · obtain ⟨hv1, hv2⟩ := hv
    obtain ⟨c1, c2, c3⟩ := validT_iff.1 hv1
    have hx := cappedR_pre hv1 hv2
    have hx0 : (cappedR t a).2 = 0 := by rw [hx]; split <;> rfl
    have hxq : qOk (cappedR t a).1 = true := by
      rw [hx]; split
      · exact c2
      · exact hv2
    have hle : rt (cappedR t a).1 ≤ rt a := by
      rw [hx]; split
      · rename_i h; exact Rat.le_of_lt h.2
      · exact Rat.le_refl
    have hag := cappedR_pre (a := (cappedR t a).1) hv1 hxq
    have hag2 : cappedR t (cappedR t a).1 = cappedR t a := by
      rw [hag]
      have : ¬ (0 ≤ t.cap.1 ∧ rt t.cap < rt (cappedR t a).1) := by
        rw [hx]
        split
        · exact fun h => Rat.lt_irrefl h.2
        · rename_i h; exact h
      rw [if_neg this, ← hx0]
    have hcmp := cmp_ok (cappedR t a).1 a hxW ha
    have hcmp2 := cmp_ok (cappedR t a).1 t.cap hxW ht.2.2
    have hcmp3 := cmp_ok a b ha hb'
    have hcmp4 := cmp_ok (cappedR t a).1 (cappedR t b).1 hxW hyW
    have hcx := capped_ok t (cappedR t a).1 ht hxW
    rw [hag2] at hcx
    have g1 : ¬ 0 < cmpR (cappedR t a).1 a := fun h => Rat.not_le.2 ((cmpR_gt hxq hv2).1 h) hle
    have g2 : (cappedR t a).1 = a ∨ (cappedR t a).1 = t.cap := by
      rw [hx]; split
      · exact .inr rfl
      · exact .inl rfl
    have g3 : t.cap.1 < 0 → (cappedR t a).1 = a := by
      intro h
      rw [hx, if_neg (by omega)]
    have g4 : 0 ≤ t.cap.1 → ¬ 0 < cmpR (cappedR t a).1 t.cap := by
      intro h1 h
      have := (cmpR_gt hxq c2).1 h
      rw [hx] at this
      split at this
      · exact Rat.lt_irrefl this
      · rename_i h2; exact h2 ⟨h1, this⟩
    have g5 : (cappedR t b).2 = 0 → ¬ 0 < cmpR a b → cmpR (cappedR t a).1 (cappedR t b).1 ≤ 0 := by
      intro h1 h2
      have hb0 : qOk b = true := by
        apply Classical.byContradiction
        intro h3
        rw [cappedR_not fun h4 => h3 h4.2] at h1
        cases h1
      have hy := cappedR_pre hv1 hb0
      have hyq : qOk (cappedR t b).1 = true := by
        rw [hy]; split
        · exact c2
        · exact hb0
      have hab : rt a ≤ rt b := Rat.not_lt.1 fun h => h2 ((cmpR_gt hv2 hb0).2 h)
      apply Int.not_lt.1
      intro h3
      have h4 := (cmpR_gt hxq hyq).1 h3
      rw [hx, hy] at h4
      split at h4 <;> split at h4
      · exact Rat.lt_irrefl h4
      · rename_i h5 h6
        exact h6 ⟨h5.1, h4⟩
      · rename_i h5 h6
        exact Rat.not_le.2 h4 (Rat.le_trans (Rat.le_of_lt h6.2) hab)
      · exact Rat.not_le.2 h4 hab
    generalize cappedR t a = x at *
    generalize cappedR t b = y at *
    generalize cmpR x.1 a = k1 at *
    generalize cmpR x.1 t.cap = k2 at *
    generalize cmpR a b = k3 at *
    generalize cmpR x.1 y.1 = k4 at *
    (repeat (first | refine XK.norm rfl rfl ?_ | refine XK.rgnA hT rfl rfl rfl ?_ | refine XK.rgnB hT hm rfl rfl rfl ?_)); refine XK.cond rfl (fun h3 => ?_) (fun h3 => ?_) <;> (try simp at h3)
    · exact absurd hx0 h3
    · (repeat (first | refine XK.norm rfl rfl ?_ | refine XK.rgnA hT rfl rfl rfl ?_ | refine XK.rgnB hT hm rfl rfl rfl ?_)); refine XK.region ?_; refine XL.goA hT rfl rfl rfl rfl ?_
      refine XL.callLA hE rfl rfl rfl rfl trivial rfl (hcx) rfl ?_
      refine XL.goA hT rfl rfl rfl rfl ?_; refine XL.fin ?_; (repeat (first | refine XK.norm rfl rfl ?_ | refine XK.rgnA hT rfl rfl rfl ?_ | refine XK.rgnB hT hm rfl rfl rfl ?_))
      (repeat (first | refine XK.norm rfl rfl ?_ | refine XK.rgnA hT rfl rfl rfl ?_ | refine XK.rgnB hT hm rfl rfl rfl ?_)); refine XK.region ?_; refine XL.goA hT rfl rfl rfl rfl ?_
      refine XL.callGA hE rfl rfl rfl rfl rfl rfl rfl rfl (hcmp) rfl ?_
      refine XL.goA hT rfl rfl rfl rfl ?_; refine XL.fin ?_; (repeat (first | refine XK.norm rfl rfl ?_ | refine XK.rgnA hT rfl rfl rfl ?_ | refine XK.rgnB hT hm rfl rfl rfl ?_))
      (repeat (first | refine XK.norm rfl rfl ?_ | refine XK.rgnA hT rfl rfl rfl ?_ | refine XK.rgnB hT hm rfl rfl rfl ?_)); refine XK.cond rfl (fun h4 => ?_) (fun h4 => ?_) <;> (try simp at h4)
      · exfalso
        rcases h4 with (h | h) | ⟨h, h'⟩
        · exact h hx0
        · exact g1 h
        · rcases g2 with e | e
          · rw [e] at h; simp at h
          · rw [e] at h'; simp at h'
      · (repeat (first | refine XK.norm rfl rfl ?_ | refine XK.rgnA hT rfl rfl rfl ?_ | refine XK.rgnB hT hm rfl rfl rfl ?_)); refine XK.region ?_; refine XL.goA hT rfl rfl rfl rfl ?_
        refine XL.callGA hE rfl rfl rfl rfl rfl rfl rfl rfl (hcmp2) rfl ?_
        refine XL.goA hT rfl rfl rfl rfl ?_; refine XL.fin ?_; (repeat (first | refine XK.norm rfl rfl ?_ | refine XK.rgnA hT rfl rfl rfl ?_ | refine XK.rgnB hT hm rfl rfl rfl ?_))
        (repeat (first | refine XK.norm rfl rfl ?_ | refine XK.rgnA hT rfl rfl rfl ?_ | refine XK.rgnB hT hm rfl rfl rfl ?_)); refine XK.cond rfl (fun h5 => ?_) (fun h5 => ?_) <;> (try simp at h5)
        · exfalso
          rcases h5 with ⟨h, h'⟩ | ⟨h, h'⟩
          · rw [g3 h] at h'; simp at h'
          · exact g4 h h'
        · (repeat (first | refine XK.norm rfl rfl ?_ | refine XK.rgnA hT rfl rfl rfl ?_ | refine XK.rgnB hT hm rfl rfl rfl ?_)); refine XK.region ?_; refine XL.goA hT rfl rfl rfl rfl ?_
          refine XL.callGA hE rfl rfl rfl rfl rfl rfl rfl rfl (hcmp3) rfl ?_
          refine XL.goA hT rfl rfl rfl rfl ?_
          refine XL.callGA hE rfl rfl rfl rfl rfl rfl rfl rfl (hcmp4) rfl ?_
          refine XL.goA hT rfl rfl rfl rfl ?_; refine XL.fin ?_; (repeat (first | refine XK.norm rfl rfl ?_ | refine XK.rgnA hT rfl rfl rfl ?_ | refine XK.rgnB hT hm rfl rfl rfl ?_))
          (repeat (first | refine XK.norm rfl rfl ?_ | refine XK.rgnA hT rfl rfl rfl ?_ | refine XK.rgnB hT hm rfl rfl rfl ?_))
          (first | refine XK.out rfl rfl rfl ?_ | refine XK.outN rfl rfl rfl ?_)
          refine cB ?_
          by_cases h6 : y.2 = 0
          · by_cases h7 : 0 < k3
            · simp [h6, h7]
            · have h8 := g5 h6 h7
              simp [h6, h7, h8]
          · simp [h6]
  · have hx : cappedR t a = ((0, 0), 1) := cappedR_not hv
    rw [hx]
    (repeat (first | refine XK.norm rfl rfl ?_ | refine XK.rgnA hT rfl rfl rfl ?_ | refine XK.rgnB hT hm rfl rfl rfl ?_)); refine XK.cond rfl (fun h3 => ?_) (fun h3 => ?_) <;> (try simp at h3)
    · (repeat (first | refine XK.norm rfl rfl ?_ | refine XK.rgnA hT rfl rfl rfl ?_ | refine XK.rgnB hT hm rfl rfl rfl ?_))
      (first | refine XK.out rfl rfl rfl ?_ | refine XK.outN rfl rfl rfl ?_)
      rfl
end Go.Proofs.Ytiiegpjpckkohaa
end
