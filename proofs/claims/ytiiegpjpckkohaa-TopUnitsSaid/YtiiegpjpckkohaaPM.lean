import Derived.Test.YtiiegpjpckkohaaPL
section
/- The law RemedyTime: the walk. -/
namespace Go.Proofs.Ytiiegpjpckkohaa
open Go.Eng
set_option maxRecDepth 10000
set_option linter.unusedSimpArgs false
set_option linter.unusedVariables false
/-- What stands behind damages: the sum of all claims. -/
theorem damages_sum {k : K} {l : List Int} {t : Tm} {a b u : Int} (h : (damagesR k l t a b u).2 = 0) : ∃ q : Q, qOk q = true ∧ rt q = S (gX k t (claimAt k l (followR k l l.length).out a b u)) k.clauses.length ∧ (damagesR k l t a b u).1 = ⟨t.unit, (cappedR t q).1⟩ ∧ validT t = true ∧ checkR k l = 0 ∧ askedB k t a b u = true ∧ (damT k t (claimAt k l (followR k l l.length).out a b u) k.clauses.length).2.2 = 0 := by
  obtain ⟨h1, h2, h3⟩ := damages_zero h
  have hv := (asked_valid h2).1
  rw [h3] at h ⊢
  obtain ⟨e0, q, e1, e2, e3, e4⟩ := damE_ok hv h
  exact ⟨q, e1, e2, e3, hv, h1, h2, e0⟩
theorem prX_posC {k : K} (hw : kW k) {l : List Int} (hc : checkR k l = 0) {t : Tm} {out : Nat → Oc} {a b u : Int} (h : (damT k t (claimAt k l out a b u) k.clauses.length).2.2 = 0) : ∀ i, i < k.clauses.length → ∀ c, claimAt k l out a b u i = some c → 0 < prX k t c := fun i hi c h1 =>
  prX_pos ((damT_val h).2.2 i hi c h1).1 (claim_pos (checkR_ok hw hc).1.facts hi h1)
theorem rate_nonneg {t : Tm} (h : validT t = true) : 0 ≤ rt t.rate := rt_nonneg (validT_iff.1 h).1 (validT_iff.1 h).2.2
theorem dam_mono {k : K} (hw : kW k) {l : List Int} {t : Tm} {a b u : Int} (h1 : (damagesR k l t a b u).2 = 0) (h2 : (damagesR k l t a b (u + 1)).2 = 0) : rt (damagesR k l t a b u).1.val ≤ rt (damagesR k l t a b (u + 1)).1.val := by
  obtain ⟨p, p1, p2, p3, p4, p5, p6, p7⟩ := damages_sum h1
  obtain ⟨q, q1, q2, q3, q4, q5, q6, q7⟩ := damages_sum h2
  rw [p3, q3]
  refine capped_mono p4 p1 q1 ?_
  rw [p2, q2]
  exact S_le fun i hi => gX_le (rate_nonneg p4) (fun c hc => prX_posC hw p5 q7 i hi c hc)
theorem dam_free {k : K} {l : List Int} {t : Tm} {a b u : Int} (h : (damagesR k l t a b u).2 = 0) (hc : t.cap.1 < 0) : qOk (damagesR k l t a b u).1.val = true ∧ rt (damagesR k l t a b u).1.val = S (gX k t (claimAt k l (followR k l l.length).out a b u)) k.clauses.length := by
  obtain ⟨p, p1, p2, p3, p4, p5, p6, p7⟩ := damages_sum h
  rw [p3]
  simp only
  rw [capped_free p4 p1 hc]
  exact ⟨p1, p2⟩
theorem freeT_W {t : Tm} (h : tmW t) : tmW (freeT t) := ⟨h.1, h.2.1, by simp [freeT, qW, inK]⟩
theorem bareT_W {t : Tm} (h : tmW t) : tmW (bareT t) := ⟨h.1, by simp [bareT, qW, inK], by simp [bareT, freeT, qW, inK]⟩
theorem lawT (k : K) (hk : kW k) (l : List Int) (t : Tm) (ht : tmW t) (a b u : Int) (hu : inK .i64 u) : Does Try.prog 11 [kV k, intsV l, tmV t, .c (.int .i64 a), .c (.int .i64 b), .c (.int .i64 u)] (.c (.bool true)) := by
  refine Does.mk (fun _ => false) TT_ok Try.func11 rfl (by kernel_rfl) Try.ntmps11 rfl rfl fun E hT hE hN hR => ?_
  have hm : E.P.follows .mixedOrders = true := by rw [hE]; kernel_rfl
  have hkd := hk.2.2.2.2.2.1
  simp only [inK] at hu hkd
  (repeat (first | refine XK.norm rfl rfl ?_ | refine XK.rgnA hT rfl rfl rfl ?_ | refine XK.rgnB hT hm rfl rfl rfl ?_)); refine XK.region ?_; refine XL.goA hT rfl rfl rfl rfl ?_
  refine XL.callLA hE rfl rfl rfl rfl trivial rfl (head41_ok) rfl ?_
  refine XL.goA hT rfl rfl rfl rfl ?_; refine XL.fin ?_; (repeat (first | refine XK.norm rfl rfl ?_ | refine XK.rgnA hT rfl rfl rfl ?_ | refine XK.rgnB hT hm rfl rfl rfl ?_))
  (repeat (first | refine XK.norm rfl rfl ?_ | refine XK.rgnA hT rfl rfl rfl ?_ | refine XK.rgnB hT hm rfl rfl rfl ?_)); refine XK.region ?_; refine XL.goA hT rfl rfl rfl rfl ?_
  refine XL.callLA hE rfl rfl rfl rfl trivial rfl (smallK_ok k l) rfl ?_
  refine XL.goA hT rfl rfl rfl rfl ?_; refine XL.fin ?_; (repeat (first | refine XK.norm rfl rfl ?_ | refine XK.rgnA hT rfl rfl rfl ?_ | refine XK.rgnB hT hm rfl rfl rfl ?_))
  (repeat (first | refine XK.norm rfl rfl ?_ | refine XK.rgnA hT rfl rfl rfl ?_ | refine XK.rgnB hT hm rfl rfl rfl ?_)); refine XK.cond rfl (fun hs => ?_) (fun hs => ?_) <;> (try simp at hs)
  · (repeat (first | refine XK.norm rfl rfl ?_ | refine XK.rgnA hT rfl rfl rfl ?_ | refine XK.rgnB hT hm rfl rfl rfl ?_))
    (first | refine XK.out rfl rfl rfl ?_ | refine XK.outN rfl rfl rfl ?_)
    rfl
  · have d1 := damages_ok k hk l t ht a b u
    have d2 := damages_ok k hk l t ht a b (u + 1)
    have d3 := damages_ok k hk l (freeT t) (freeT_W ht) a b u
    have d4 := damages_ok k hk l (freeT t) (freeT_W ht) a b (u + 1)
    have d5 := damages_ok k hk l (bareT t) (bareT_W ht) a b u
    have d6 := damages_ok k hk l (bareT t) (bareT_W ht) a b (u + 1)
    have w1 := damagesR_W (k := k) (l := l) ht a b u
    have w2 := damagesR_W (k := k) (l := l) ht a b (u + 1)
    have w3 := damagesR_W (k := k) (l := l) (freeT_W ht) a b u
    have w4 := damagesR_W (k := k) (l := l) (freeT_W ht) a b (u + 1)
    have w5 := damagesR_W (k := k) (l := l) (bareT_W ht) a b u
    have w6 := damagesR_W (k := k) (l := l) (bareT_W ht) a b (u + 1)
    have m1 := fun h1 h2 => dam_mono hk (l := l) (t := t) (a := a) (b := b) (u := u) h1 h2
    have o1 := fun h => (damages_qOk (k := k) (l := l) (t := t) (a := a) (b := b) (u := u) h).1
    have o2 := fun h => (damages_qOk (k := k) (l := l) (t := t) (a := a) (b := b) (u := u + 1) h).1
    have f3 := fun h => dam_free (k := k) (l := l) (t := freeT t) (a := a) (b := b) (u := u) h (by simp [freeT])
    have f4 := fun h => dam_free (k := k) (l := l) (t := freeT t) (a := a) (b := b) (u := u + 1) h (by simp [freeT])
    have f5 := fun h => dam_free (k := k) (l := l) (t := bareT t) (a := a) (b := b) (u := u) h (by simp [bareT, freeT])
    have f6 := fun h => dam_free (k := k) (l := l) (t := bareT t) (a := a) (b := b) (u := u + 1) h (by simp [bareT, freeT])
    have sn := S_next k l t (followR k l l.length).out a b u k.clauses.length
    generalize S (gX k (freeT t) (claimAt k l (followR k l l.length).out a b u)) k.clauses.length = S3 at *
    generalize S (gX k (freeT t) (claimAt k l (followR k l l.length).out a b (u + 1))) k.clauses.length = S4 at *
    generalize S (gX k (bareT t) (claimAt k l (followR k l l.length).out a b u)) k.clauses.length = S5 at *
    generalize S (gX k (bareT t) (claimAt k l (followR k l l.length).out a b (u + 1))) k.clauses.length = S6 at *
    generalize damagesR k l t a b u = p at *
    generalize damagesR k l t a b (u + 1) = q at *
    generalize damagesR k l (freeT t) a b u = x at *
    generalize damagesR k l (freeT t) a b (u + 1) = y at *
    generalize damagesR k l (bareT t) a b u = wa at *
    generalize damagesR k l (bareT t) a b (u + 1) = no at *
    have c1 := cmp_ok p.1.val q.1.val w1 w2
    have g1 : p.2 = 0 → q.2 = 0 → ¬ 0 < cmpR p.1.val q.1.val := fun h1 h2 h3 => Rat.not_le.2 ((cmpR_gt (o1 h1) (o2 h2)).1 h3) (m1 h1 h2)
    generalize cmpR p.1.val q.1.val = cm at *
    have i1 := interest_ok (freeT t) wa.1.val 1 (freeT_W ht) w5 (by simp [inK])
    have s1 := sub_ok no.1.val wa.1.val w6 w5
    have a1 := add_ok x.1.val (interestR (freeT t) wa.1.val 1).1 w3 (interestR_W _ _ _)
    have a2 := add_ok (addR x.1.val (interestR (freeT t) wa.1.val 1).1).1 (subR no.1.val wa.1.val).1 (addR_W _ _) (subR_W _ _)
    have key : x.2 = 0 → y.2 = 0 → wa.2 = 0 → no.2 = 0 → (interestR (freeT t) wa.1.val 1).2 = 0 → (subR no.1.val wa.1.val).2 = 0 → (addR x.1.val (interestR (freeT t) wa.1.val 1).1).2 = 0 →
        (addR (addR x.1.val (interestR (freeT t) wa.1.val 1).1).1 (subR no.1.val wa.1.val).1).2 = 0 → (addR (addR x.1.val (interestR (freeT t) wa.1.val 1).1).1 (subR no.1.val wa.1.val).1).1 = y.1.val := by
      intro h1 h2 h3 h4 h5 h6 h7 h8
      obtain ⟨_, e1, e2⟩ := interestR_ok h5
      obtain ⟨_, e3, e4⟩ := subR_ok h6
      obtain ⟨_, e5, e6⟩ := addR_ok h7
      obtain ⟨_, e7, e8⟩ := addR_ok h8
      refine rt_inj e7 (f4 h2).1 ?_
      rw [e8, e6, e4, e2, (f4 h2).2, (f3 h1).2, (f5 h3).2, (f6 h4).2, sn]
      have : (freeT t).rate = t.rate := rfl
      rw [this]
      simp
    generalize interestR (freeT t) wa.1.val 1 = mo at *
    generalize subR no.1.val wa.1.val = fr at *
    generalize addR x.1.val mo.1 = sm at *
    generalize addR sm.1 fr.1 = al at *
    clear o1 o2 m1 f3 f4 f5 f6 sn
    (repeat (first | refine XK.norm rfl rfl ?_ | refine XK.rgnA hT rfl rfl rfl ?_ | refine XK.rgnB hT hm rfl rfl rfl ?_)); refine XK.region ?_; refine XL.goA hT rfl rfl rfl rfl ?_
    refine XL.callLA hE rfl rfl rfl rfl trivial rfl (d1) rfl ?_
    refine XL.goA hT rfl rfl rfl rfl ?_; refine XL.fin ?_; (repeat (first | refine XK.norm rfl rfl ?_ | refine XK.rgnA hT rfl rfl rfl ?_ | refine XK.rgnB hT hm rfl rfl rfl ?_))
    (repeat (first | refine XK.norm rfl rfl ?_ | refine XK.rgnA hT rfl rfl rfl ?_ | refine XK.rgnB hT hm rfl rfl rfl ?_)); refine XK.region ?_; refine XL.goA hT rfl rfl rfl rfl ?_
    refine XL.callLA hE rfl rfl rfl rfl trivial rfl (d2) rfl ?_
    refine XL.goA hT rfl rfl rfl rfl ?_; refine XL.fin ?_; (repeat (first | refine XK.norm rfl rfl ?_ | refine XK.rgnA hT rfl rfl rfl ?_ | refine XK.rgnB hT hm rfl rfl rfl ?_))
    (repeat (first | refine XK.norm rfl rfl ?_ | refine XK.rgnA hT rfl rfl rfl ?_ | refine XK.rgnB hT hm rfl rfl rfl ?_)); refine XK.region ?_; refine XL.goA hT rfl rfl rfl rfl ?_
    refine XL.callGA hE rfl rfl rfl rfl rfl rfl rfl rfl (c1) rfl ?_
    refine XL.goA hT rfl rfl rfl rfl ?_; refine XL.fin ?_; (repeat (first | refine XK.norm rfl rfl ?_ | refine XK.rgnA hT rfl rfl rfl ?_ | refine XK.rgnB hT hm rfl rfl rfl ?_))
    (repeat (first | refine XK.norm rfl rfl ?_ | refine XK.rgnA hT rfl rfl rfl ?_ | refine XK.rgnB hT hm rfl rfl rfl ?_)); refine XK.cond rfl (fun h1 => ?_) (fun h1 => ?_) <;> (try simp at h1)
    · exact absurd h1.2 (g1 h1.1.1 h1.1.2)
    · (repeat (first | refine XK.norm rfl rfl ?_ | refine XK.rgnA hT rfl rfl rfl ?_ | refine XK.rgnB hT hm rfl rfl rfl ?_)); refine XK.region ?_; refine XL.goA hT rfl rfl rfl rfl ?_
      refine XL.callLA hE rfl rfl rfl rfl trivial rfl (whole_ok (-1)) rfl ?_
      refine XL.goA hT rfl rfl rfl rfl ?_; refine XL.fin ?_; (repeat (first | refine XK.norm rfl rfl ?_ | refine XK.rgnA hT rfl rfl rfl ?_ | refine XK.rgnB hT hm rfl rfl rfl ?_))
      (repeat (first | refine XK.norm rfl rfl ?_ | refine XK.rgnA hT rfl rfl rfl ?_ | refine XK.rgnB hT hm rfl rfl rfl ?_)); refine XK.region ?_; refine XL.goA hT rfl rfl rfl rfl ?_
      refine XL.callLA hE rfl rfl rfl rfl trivial rfl (whole_ok 0) rfl ?_
      refine XL.goA hT rfl rfl rfl rfl ?_; refine XL.fin ?_; (repeat (first | refine XK.norm rfl rfl ?_ | refine XK.rgnA hT rfl rfl rfl ?_ | refine XK.rgnB hT hm rfl rfl rfl ?_))
      (repeat (first | refine XK.norm rfl rfl ?_ | refine XK.rgnA hT rfl rfl rfl ?_ | refine XK.rgnB hT hm rfl rfl rfl ?_)); refine XK.region ?_; refine XL.goA hT rfl rfl rfl rfl ?_
      refine XL.callLA hE rfl rfl rfl rfl trivial rfl (d3) rfl ?_
      refine XL.goA hT rfl rfl rfl rfl ?_; refine XL.fin ?_; (repeat (first | refine XK.norm rfl rfl ?_ | refine XK.rgnA hT rfl rfl rfl ?_ | refine XK.rgnB hT hm rfl rfl rfl ?_))
      (repeat (first | refine XK.norm rfl rfl ?_ | refine XK.rgnA hT rfl rfl rfl ?_ | refine XK.rgnB hT hm rfl rfl rfl ?_)); refine XK.region ?_; refine XL.goA hT rfl rfl rfl rfl ?_
      refine XL.callLA hE rfl rfl rfl rfl trivial rfl (d4) rfl ?_
      refine XL.goA hT rfl rfl rfl rfl ?_; refine XL.fin ?_; (repeat (first | refine XK.norm rfl rfl ?_ | refine XK.rgnA hT rfl rfl rfl ?_ | refine XK.rgnB hT hm rfl rfl rfl ?_))
      (repeat (first | refine XK.norm rfl rfl ?_ | refine XK.rgnA hT rfl rfl rfl ?_ | refine XK.rgnB hT hm rfl rfl rfl ?_)); refine XK.region ?_; refine XL.goA hT rfl rfl rfl rfl ?_
      refine XL.callLA hE rfl rfl rfl rfl trivial rfl (d5) rfl ?_
      refine XL.goA hT rfl rfl rfl rfl ?_; refine XL.fin ?_; (repeat (first | refine XK.norm rfl rfl ?_ | refine XK.rgnA hT rfl rfl rfl ?_ | refine XK.rgnB hT hm rfl rfl rfl ?_))
      (repeat (first | refine XK.norm rfl rfl ?_ | refine XK.rgnA hT rfl rfl rfl ?_ | refine XK.rgnB hT hm rfl rfl rfl ?_)); refine XK.region ?_; refine XL.goA hT rfl rfl rfl rfl ?_
      refine XL.callLA hE rfl rfl rfl rfl trivial rfl (d6) rfl ?_
      refine XL.goA hT rfl rfl rfl rfl ?_; refine XL.fin ?_; (repeat (first | refine XK.norm rfl rfl ?_ | refine XK.rgnA hT rfl rfl rfl ?_ | refine XK.rgnB hT hm rfl rfl rfl ?_))
      (repeat (first | refine XK.norm rfl rfl ?_ | refine XK.rgnA hT rfl rfl rfl ?_ | refine XK.rgnB hT hm rfl rfl rfl ?_)); refine XK.cond rfl (fun h2 => ?_) (fun h2 => ?_) <;> (try simp at h2)
      · (repeat (first | refine XK.norm rfl rfl ?_ | refine XK.rgnA hT rfl rfl rfl ?_ | refine XK.rgnB hT hm rfl rfl rfl ?_))
        (first | refine XK.out rfl rfl rfl ?_ | refine XK.outN rfl rfl rfl ?_)
        rfl
      · obtain ⟨⟨⟨h3, h4⟩, h5⟩, h6⟩ := h2
        (repeat (first | refine XK.norm rfl rfl ?_ | refine XK.rgnA hT rfl rfl rfl ?_ | refine XK.rgnB hT hm rfl rfl rfl ?_)); refine XK.region ?_; refine XL.goA hT rfl rfl rfl rfl ?_
        refine XL.callLA hE rfl rfl rfl rfl trivial rfl (i1) rfl ?_
        refine XL.goA hT rfl rfl rfl rfl ?_; refine XL.fin ?_; (repeat (first | refine XK.norm rfl rfl ?_ | refine XK.rgnA hT rfl rfl rfl ?_ | refine XK.rgnB hT hm rfl rfl rfl ?_))
        (repeat (first | refine XK.norm rfl rfl ?_ | refine XK.rgnA hT rfl rfl rfl ?_ | refine XK.rgnB hT hm rfl rfl rfl ?_)); refine XK.region ?_; refine XL.goA hT rfl rfl rfl rfl ?_
        refine XL.callLA hE rfl rfl rfl rfl trivial rfl (s1) rfl ?_
        refine XL.goA hT rfl rfl rfl rfl ?_; refine XL.fin ?_; (repeat (first | refine XK.norm rfl rfl ?_ | refine XK.rgnA hT rfl rfl rfl ?_ | refine XK.rgnB hT hm rfl rfl rfl ?_))
        (repeat (first | refine XK.norm rfl rfl ?_ | refine XK.rgnA hT rfl rfl rfl ?_ | refine XK.rgnB hT hm rfl rfl rfl ?_)); refine XK.region ?_; refine XL.goA hT rfl rfl rfl rfl ?_
        refine XL.callLA hE rfl rfl rfl rfl trivial rfl (a1) rfl ?_
        refine XL.goA hT rfl rfl rfl rfl ?_; refine XL.fin ?_; (repeat (first | refine XK.norm rfl rfl ?_ | refine XK.rgnA hT rfl rfl rfl ?_ | refine XK.rgnB hT hm rfl rfl rfl ?_))
        (repeat (first | refine XK.norm rfl rfl ?_ | refine XK.rgnA hT rfl rfl rfl ?_ | refine XK.rgnB hT hm rfl rfl rfl ?_)); refine XK.region ?_; refine XL.goA hT rfl rfl rfl rfl ?_
        refine XL.callLA hE rfl rfl rfl rfl trivial rfl (a2) rfl ?_
        refine XL.goA hT rfl rfl rfl rfl ?_; refine XL.fin ?_; (repeat (first | refine XK.norm rfl rfl ?_ | refine XK.rgnA hT rfl rfl rfl ?_ | refine XK.rgnB hT hm rfl rfl rfl ?_))
        (repeat (first | refine XK.norm rfl rfl ?_ | refine XK.rgnA hT rfl rfl rfl ?_ | refine XK.rgnB hT hm rfl rfl rfl ?_))
        (first | refine XK.out rfl rfl rfl ?_ | refine XK.outN rfl rfl rfl ?_)
        refine cB ?_
        have key := key h3 h4 h5 h6
        by_cases k1 : mo.2 = 0
        · by_cases k2 : fr.2 = 0
          · by_cases k3 : sm.2 = 0
            · by_cases k4 : al.2 = 0
              · rw [key k1 k2 k3 k4]; simp [k1, k2, k3, k4]
              · simp [k1, k2, k3, k4]
            · simp [k1, k2, k3]
          · simp [k1, k2]
        · simp [k1]
end Go.Proofs.Ytiiegpjpckkohaa
end
section
/- The law RemedyBlameless: the walk. -/
namespace Go.Proofs.Ytiiegpjpckkohaa
open Go.Eng
set_option maxRecDepth 10000
set_option linter.unusedSimpArgs false
set_option linter.unusedVariables false
theorem damages_err {k : K} {l : List Int} {t : Tm} {a b u : Int} (h : (damagesR k l t a b u).2 ≠ 0) : (damagesR k l t a b u).1 = zA := by
  unfold damagesR at h ⊢
  split
  · rfl
  · split
    · rfl
    · rename_i h1 h2
      rw [if_neg h1, if_neg h2] at h
      unfold damE at h ⊢
      split
      · exact damT_res _ _ _ _
      · rename_i h3
        rw [if_neg h3] at h
        split
        · rfl
        · rename_i h4
          rw [if_neg h4] at h
          split
          · rfl
          · rename_i h5
            rw [if_neg h5] at h
            exact absurd rfl h
theorem S_nonneg {g : Nat → Rat} : ∀ {n : Nat}, (∀ i, i < n → 0 ≤ g i) → 0 ≤ S g n
  | 0, _ => Rat.le_refl
  | n + 1, h => by
    rw [S_succ]
    exact Rat.add_nonneg (S_nonneg fun i hi => h i (by omega)) (h n (by omega))
theorem rt_zeroC {q : Q} (h : qOk q = true) (h0 : rt q = 0) : q = (0, 1) := rt_inj h zeroQ_ok (by rw [h0, rt_zero])
theorem capped_zero {t : Tm} (hv : validT t = true) : (cappedR t (0, 1)).1 = (0, 1) := by
  rw [cappedR_pre hv zeroQ_ok, if_neg]
  rintro ⟨h1, h2⟩
  have := rt_nonneg (validT_iff.1 hv).2.1 h1
  rw [rt_zero] at h2
  exact Rat.not_le.2 h2 this
/-- Without claims there are no damages. -/
theorem dam_none {k : K} {l : List Int} {t : Tm} {a b u : Int} (h : (damagesR k l t a b u).2 = 0) (hn : ∀ i, i < k.clauses.length → claimAt k l (followR k l l.length).out a b u i = none) : (damagesR k l t a b u).1.val = (0, 1) := by
  obtain ⟨q, q1, q2, q3, q4, _⟩ := damages_sum h
  have : rt q = 0 := by
    rw [q2]
    exact S_zero fun i hi => by simp [gX, hn i hi]
  rw [q3, rt_zeroC q1 this]
  exact capped_zero q4
theorem dam_nonneg {k : K} (hw : kW k) {l : List Int} {t : Tm} {a b u : Int} (h : (damagesR k l t a b u).2 = 0) : 0 ≤ (damagesR k l t a b u).1.val.1 := by
  obtain ⟨q, q1, q2, q3, q4, q5, q6, q7⟩ := damages_sum h
  obtain ⟨hko, hsk, hl, _⟩ := checkR_ok hw q5
  have hF := hko.facts
  have ha := asked_valid q6
  have hd := hF.days
  have hq : 0 ≤ rt q := by
    rw [q2]
    refine S_nonneg fun i hi => ?_
    cases hc : claimAt k l (followR k l l.length).out a b u i with
    | none => simp only [gX, hc]; exact Rat.le_refl
    | some c =>
      have hp := Rat.le_of_lt (prX_posC hw q5 q7 i hi c hc)
      have hcw := claimAt_W hF hl (by omega) hi (fun h4 => failed_to hF hsk hi (Nat.le_refl _) (by omega) h4) hc
      simp only [gX, hc]
      refine Rat.add_nonneg hp (Rat.mul_nonneg (Rat.mul_nonneg hp (rate_nonneg q4)) (Rat.intCast_nonneg.2 hcw.2.2.2.2.1))
  rw [q3]
  have hcq : qOk (cappedR t q).1 = true := by
    rw [cappedR_pre q4 q1]
    split
    · exact (validT_iff.1 q4).2.1
    · exact q1
  have h0 : 0 ≤ rt (cappedR t q).1 := by
    rw [cappedR_pre q4 q1]
    split
    · rename_i h1; exact rt_nonneg (validT_iff.1 q4).2.1 h1.1
    · exact hq
  have := Rat.num_nonneg.2 h0
  rw [(rt_num hcq).1] at this
  exact this
theorem lawN (k : K) (hk : kW k) (l : List Int) (t : Tm) (ht : tmW t) (a b u : Int) : Does Try.prog 13 [kV k, intsV l, tmV t, .c (.int .i64 a), .c (.int .i64 b), .c (.int .i64 u)] (.c (.bool true)) := by
  refine Does.mk (fun _ => false) TT_ok Try.func13 rfl (by kernel_rfl) Try.ntmps13 rfl rfl fun E hT hE hN hR => ?_
  have hm : E.P.follows .mixedOrders = true := by rw [hE]; kernel_rfl
  (repeat (first | refine XK.norm rfl rfl ?_ | refine XK.rgnA hT rfl rfl rfl ?_ | refine XK.rgnB hT hm rfl rfl rfl ?_)); refine XK.region ?_; refine XL.goA hT rfl rfl rfl rfl ?_
  refine XL.callLA hE rfl rfl rfl rfl trivial rfl (head41_ok) rfl ?_
  refine XL.goA hT rfl rfl rfl rfl ?_; refine XL.fin ?_; (repeat (first | refine XK.norm rfl rfl ?_ | refine XK.rgnA hT rfl rfl rfl ?_ | refine XK.rgnB hT hm rfl rfl rfl ?_))
  (repeat (first | refine XK.norm rfl rfl ?_ | refine XK.rgnA hT rfl rfl rfl ?_ | refine XK.rgnB hT hm rfl rfl rfl ?_)); refine XK.region ?_; refine XL.goA hT rfl rfl rfl rfl ?_
  refine XL.callLA hE rfl rfl rfl rfl trivial rfl (smallK_ok k l) rfl ?_
  refine XL.goA hT rfl rfl rfl rfl ?_; refine XL.fin ?_; (repeat (first | refine XK.norm rfl rfl ?_ | refine XK.rgnA hT rfl rfl rfl ?_ | refine XK.rgnB hT hm rfl rfl rfl ?_))
  (repeat (first | refine XK.norm rfl rfl ?_ | refine XK.rgnA hT rfl rfl rfl ?_ | refine XK.rgnB hT hm rfl rfl rfl ?_)); refine XK.cond rfl (fun hs => ?_) (fun hs => ?_) <;> (try simp at hs)
  · (repeat (first | refine XK.norm rfl rfl ?_ | refine XK.rgnA hT rfl rfl rfl ?_ | refine XK.rgnB hT hm rfl rfl rfl ?_))
    (first | refine XK.out rfl rfl rfl ?_ | refine XK.outN rfl rfl rfl ?_)
    rfl
  · have d1 := damages_ok k hk l t ht a b u
    have d2 := damages_ok k hk l t ht a b 0
    have e1 := fun h => dam_nonneg hk (l := l) (t := t) (a := a) (b := b) (u := u) h
    have e2 : (damagesR k l t a b 0).2 = 0 → (damagesR k l t a b 0).1.val = (0, 1) := fun h => dam_none h fun i hi => by
      unfold claimAt
      rw [if_pos (.inr (.inr (.inr (daysTo_le l _).1)))]
    have e3 := fun h => damages_err (k := k) (l := l) (t := t) (a := a) (b := b) (u := u) h
    have e4 := fun h => (damages_zero (k := k) (l := l) (t := t) (a := a) (b := b) (u := u) h).1
    have e5 := fun h hn => dam_none (k := k) (l := l) (t := t) (a := a) (b := b) (u := u) h hn
    generalize damagesR k l t a b u = x at *
    generalize damagesR k l t a b 0 = z at *
    (repeat (first | refine XK.norm rfl rfl ?_ | refine XK.rgnA hT rfl rfl rfl ?_ | refine XK.rgnB hT hm rfl rfl rfl ?_)); refine XK.region ?_; refine XL.goA hT rfl rfl rfl rfl ?_
    refine XL.callLA hE rfl rfl rfl rfl trivial rfl (d1) rfl ?_
    refine XL.goA hT rfl rfl rfl rfl ?_; refine XL.fin ?_; (repeat (first | refine XK.norm rfl rfl ?_ | refine XK.rgnA hT rfl rfl rfl ?_ | refine XK.rgnB hT hm rfl rfl rfl ?_))
    (repeat (first | refine XK.norm rfl rfl ?_ | refine XK.rgnA hT rfl rfl rfl ?_ | refine XK.rgnB hT hm rfl rfl rfl ?_)); refine XK.region ?_; refine XL.goA hT rfl rfl rfl rfl ?_
    refine XL.callLA hE rfl rfl rfl rfl trivial rfl (d2) rfl ?_
    refine XL.goA hT rfl rfl rfl rfl ?_; refine XL.fin ?_; (repeat (first | refine XK.norm rfl rfl ?_ | refine XK.rgnA hT rfl rfl rfl ?_ | refine XK.rgnB hT hm rfl rfl rfl ?_))
    (repeat (first | refine XK.norm rfl rfl ?_ | refine XK.rgnA hT rfl rfl rfl ?_ | refine XK.rgnB hT hm rfl rfl rfl ?_)); refine XK.drawn hm ?_; refine XD.goA hT rfl rfl rfl rfl ?_
    refine XD.callGA hE rfl rfl rfl rfl rfl rfl rfl rfl rfl (whole_ok 0) rfl ?_
    refine XD.goA hT rfl rfl rfl rfl ?_; refine XD.fin (by kernel_rfl) ?_; (repeat (first | refine XK.norm rfl rfl ?_ | refine XK.rgnA hT rfl rfl rfl ?_ | refine XK.rgnB hT hm rfl rfl rfl ?_))
    (repeat (first | refine XK.norm rfl rfl ?_ | refine XK.rgnA hT rfl rfl rfl ?_ | refine XK.rgnB hT hm rfl rfl rfl ?_)); refine XK.cond rfl (fun h1 => ?_) (fun h1 => ?_) <;> (try simp at h1)
    · exfalso
      rcases h1 with ⟨h1, h2⟩ | ⟨h1, h2⟩
      · rw [e2 h1] at h2; simp at h2
      · have := e1 h1; omega
    · (repeat (first | refine XK.norm rfl rfl ?_ | refine XK.rgnA hT rfl rfl rfl ?_ | refine XK.rgnB hT hm rfl rfl rfl ?_)); refine XK.cond rfl (fun h2 => ?_) (fun h2 => ?_) <;> (try simp at h2)
      · rw [e3 h2]
        (repeat (first | refine XK.norm rfl rfl ?_ | refine XK.rgnA hT rfl rfl rfl ?_ | refine XK.rgnB hT hm rfl rfl rfl ?_))
        (first | refine XK.out rfl rfl rfl ?_ | refine XK.outN rfl rfl rfl ?_)
        rfl
      · have hc := e4 h2
        have hcl := (checkR_ok hk hc).1.facts
        have hnc := hcl.nc
        have hon : outsN k l = k.clauses.length := by rw [outsN, if_pos hc]
        (repeat (first | refine XK.norm rfl rfl ?_ | refine XK.rgnA hT rfl rfl rfl ?_ | refine XK.rgnB hT hm rfl rfl rfl ?_)); refine XK.region ?_; refine XL.goA hT rfl rfl rfl rfl ?_
        refine XL.callKA hE rfl rfl rfl rfl trivial rfl rfl (outcomes_ok k hk l) ?_
        rw [hon, hc]
        refine XL.goA hT rfl rfl rfl rfl ?_; refine XL.fin ?_; (repeat (first | refine XK.norm rfl rfl ?_ | refine XK.rgnA hT rfl rfl rfl ?_ | refine XK.rgnB hT hm rfl rfl rfl ?_))
        let bl := fun (i : Nat) => (List.range i).any (fun j => ((followR k l l.length).out j).status == 4 && ((followR k l l.length).out j).bearer == a)
        refine XK.loop (ι := Nat) (fun i => ST.of [(3, .c (.int .i64 a)), (13, .c (.bool true)), (14, .ptr 365 0), (18, ocsV k.clauses.length (followR k l l.length).out), (19, .c (.int .i64 0)), (20, .c (.bool (bl i))), (21, .c (.int .i64 i))] [(365, .cells 45 [.c (.int .i64 x.1.unit), .c (.int .i64 x.1.val.1), .c (.int .i64 x.1.val.2)])] 5000 117 (fun _ => false))
          (fun i => i ≤ k.clauses.length) (fun i => k.clauses.length - i) 0 (Nat.zero_le _)
          (Weak.of hN rfl rfl rfl (by (repeat' (first | exact rfl | exact AvIs.refl _ | exact trivial | exact fun _ _ => rfl | exact fun _ _ => ⟨rfl, AvIs.refl _⟩ | refine ⟨?_, ?_⟩))) (by (repeat' (first | exact rfl | exact AvIs.refl _ | exact trivial | exact fun _ _ => rfl | exact fun _ _ => ⟨rfl, AvIs.refl _⟩ | refine ⟨?_, ?_⟩)))) fun i hi => ?_
        (repeat (first | refine XK.norm rfl rfl ?_ | refine XK.rgnA hT rfl rfl rfl ?_ | refine XK.rgnB hT hm rfl rfl rfl ?_)); refine XK.cond rfl (fun hlt => ?_) (fun hlt => ?_) <;> (try simp at hlt)
        · have hb : bl (i + 1) = (bl i || ((followR k l l.length).out i).status == 4 && ((followR k l l.length).out i).bearer == a) := by simp [bl, List.range_succ]
          have fo : (followR k l l.length).out (i : Int).toNat = (followR k l l.length).out i := rfl
          (repeat (first | refine XK.norm rfl rfl ?_ | refine XK.rgnA hT rfl rfl rfl ?_ | refine XK.rgnB hT hm rfl rfl rfl ?_))
          rw [fo]
          refine XK.inv ⟨i + 1, hlt, ?_, by omega⟩
          rw [hb]
          exact (Weak.of hN rfl rfl rfl (by (repeat' (first | exact rfl | exact AvIs.refl _ | exact trivial | exact fun _ _ => rfl | exact fun _ _ => ⟨rfl, AvIs.refl _⟩ | refine ⟨?_, ?_⟩))) (by (repeat' (first | exact rfl | exact AvIs.refl _ | exact trivial | exact fun _ _ => rfl | exact fun _ _ => ⟨rfl, AvIs.refl _⟩ | refine ⟨?_, ?_⟩))))
        · have hie : i = k.clauses.length := by omega
          subst hie
          (repeat (first | refine XK.norm rfl rfl ?_ | refine XK.rgnA hT rfl rfl rfl ?_ | refine XK.rgnB hT hm rfl rfl rfl ?_)); refine XK.drawn hm ?_; refine XD.goA hT rfl rfl rfl rfl ?_
          refine XD.callGA hE rfl rfl rfl rfl rfl rfl rfl rfl rfl (whole_ok 0) rfl ?_
          refine XD.goA hT rfl rfl rfl rfl ?_; refine XD.fin (by kernel_rfl) ?_; (repeat (first | refine XK.norm rfl rfl ?_ | refine XK.rgnA hT rfl rfl rfl ?_ | refine XK.rgnB hT hm rfl rfl rfl ?_))
          (repeat (first | refine XK.norm rfl rfl ?_ | refine XK.rgnA hT rfl rfl rfl ?_ | refine XK.rgnB hT hm rfl rfl rfl ?_))
          (first | refine XK.out rfl rfl rfl ?_ | refine XK.outN rfl rfl rfl ?_)
          refine cB ?_
          by_cases hbl : bl k.clauses.length = true
          · rw [hbl]; rfl
          · have hv : x.1.val = (0, 1) := e5 h2 fun i hi => by
              unfold claimAt
              refine if_pos ?_
              by_cases h4 : ((followR k l l.length).out i).status = 4
              · by_cases h5 : ((followR k l l.length).out i).bearer = a
                · exact absurd (List.any_eq_true.2 ⟨i, List.mem_range.2 hi, by simp [h4, h5]⟩) hbl
                · exact .inr (.inr (.inl h5))
              · exact .inl h4
            rw [hv]
            simp
end Go.Proofs.Ytiiegpjpckkohaa
end
