import Derived.Test.YtiiegpjpckkohaaPK
section
/- What damages are, as rational numbers: no program in sight. -/
namespace Go.Proofs.Ytiiegpjpckkohaa
open Go.Eng
set_option maxRecDepth 10000
set_option linter.unusedSimpArgs false
set_option linter.unusedVariables false
theorem addS_zero {s : Q × Int} {a : Q} (h : (addS s a).2 = 0) : s.2 = 0 ∧ (addR s.1 a).2 = 0 ∧ (addS s a).1 = (addR s.1 a).1 := by
  unfold addS at h ⊢
  split at h
  · exact absurd h ‹_›
  · rename_i h1
    rw [if_neg h1]
    have h1 : s.2 = 0 := by simpa using h1
    split at h
    · exact absurd h ‹_›
    · rename_i h2
      rw [if_neg h2]
      exact ⟨h1, by simpa using h2, rfl⟩
theorem collT_val {f : Nat → Q} : ∀ {m : Nat}, (collT ((0, 1), 0) f m).2 = 0 → qOk (collT ((0, 1), 0) f m).1 = true ∧ rt (collT ((0, 1), 0) f m).1 = S (fun i => rt (f i)) m ∧ ∀ i, i < m → qOk (f i) = true
  | 0, _ => ⟨zeroQ_ok, by simp [collT, S, rt_zero], fun i hi => absurd hi (Nat.not_lt_zero _)⟩
  | m + 1, h => by
    obtain ⟨h1, h2, h3⟩ := addS_zero (s := collT ((0, 1), 0) f m) (a := f m) h
    obtain ⟨e1, e2, e3⟩ := collT_val (m := m) h1
    obtain ⟨g1, g2, g3⟩ := addR_ok h2
    refine ⟨?_, ?_, fun i hi => ?_⟩
    · show qOk (addS _ _).1 = true
      rw [h3]; exact g2
    · show rt (addS _ _).1 = S _ m + _
      rw [h3, g3, e2]
    · by_cases hm : i = m
      · subst hm; exact g1.2
      · exact e3 i (by omega)
theorem collT_code {f : Nat → Q} : ∀ {m : Nat}, (∀ i, i < m → qOk (f i) = true) → (collT ((0, 1), 0) f m).2 = 0 ∨ (collT ((0, 1), 0) f m).2 = 2
  | 0, _ => .inl rfl
  | m + 1, h => by
    rcases collT_code (f := f) (m := m) (fun i hi => h i (by omega)) with h1 | h1
    · have hq := (collT_val h1).1
      show (addS _ _).2 = 0 ∨ (addS _ _).2 = 2
      unfold addS
      rw [if_neg (by simpa using h1)]
      have hc : (addR (collT ((0, 1), 0) f m).1 (f m)).2 = 0 ∨ (addR (collT ((0, 1), 0) f m).1 (f m)).2 = 2 := by
        rw [addR_toQ hq (h m (by omega))]; exact toQ_code _
      split
      · exact hc
      · exact .inl h1
    · right
      show (addS _ _).2 = 2
      unfold addS
      rw [if_pos (by omega)]
      exact h1
/-- The principal of a claim. -/
noncomputable def prX (k : K) (t : Tm) (c : Clm) : Rat := convX (fun j => k.units.getD j default) c.1 t.unit
noncomputable def gX (k : K) (t : Tm) (cl : Nat → Option Clm) (i : Nat) : Rat := match cl i with
  | none => 0
  | some c => prX k t c + prX k t c * rt t.rate * (c.2 : Rat)
theorem S_succ (g : Nat → Rat) (n : Nat) : S g (n + 1) = S g n + g n := rfl
theorem S_app2 (L : List Q) (x y : Q) : S (fun i => rt ((L ++ [x, y]).getD i default)) (L ++ [x, y]).length = S (fun i => rt (L.getD i default)) L.length + rt x + rt y := by
  have e : (L ++ [x, y]).length = L.length + 1 + 1 := by simp
  rw [e, S_succ, S_succ]
  congr 1
  · congr 1
    · refine S_congr fun i hi => ?_
      simp [List.getD, List.getElem?_append_left hi]
    · simp [List.getD]
  · simp [List.getD]
theorem damF_zero {k : K} {t : Tm} {s : Dm} {c : Clm} (h : (damF k t s c).2.2 = 0) : (convK k c.1 t.unit).2 = 0 ∧ (interestR t (convK k c.1 t.unit).1.val c.2).2 = 0 ∧ s.2.2 = 0 ∧ (damF k t s c).1 = s.1 ++ [(convK k c.1 t.unit).1.val, (interestR t (convK k c.1 t.unit).1.val c.2).1] := by
  unfold damF at h ⊢
  split at h
  · exact absurd h ‹_›
  · rename_i h1
    rw [if_neg h1]
    split at h
    · exact absurd h ‹_›
    · rename_i h2
      rw [if_neg h2]
      exact ⟨by simpa using h1, by simpa using h2, h, rfl⟩
theorem damT_val {k : K} {t : Tm} {cl : Nat → Option Clm} : ∀ {n : Nat}, (damT k t cl n).2.2 = 0 → S (fun i => rt ((damT k t cl n).1.getD i default)) (damT k t cl n).1.length = S (gX k t cl) n ∧ (∀ q ∈ (damT k t cl n).1, qOk q = true) ∧
    ∀ i, i < n → ∀ c, cl i = some c → (convK k c.1 t.unit).2 = 0 ∧ (interestR t (convK k c.1 t.unit).1.val c.2).2 = 0
  | 0, _ => ⟨rfl, fun q h => by simp [damT] at h, fun i hi => absurd hi (Nat.not_lt_zero _)⟩
  | n + 1, h => by
    have h0 : (damT k t cl n).2.2 = 0 := by
      apply Classical.byContradiction
      intro h1
      rw [damT_stop h1 (n + 1) (by omega)] at h
      exact h1 h
    obtain ⟨e1, e2, e3⟩ := damT_val (n := n) h0
    cases hc : cl n with
    | none =>
      rw [damT_none hc]
      refine ⟨?_, e2, fun i hi c h2 => ?_⟩
      · rw [e1, S_succ]
        have : gX k t cl n = 0 := by simp [gX, hc]
        rw [this]; grind
      · by_cases hn : i = n
        · subst hn; rw [hc] at h2; cases h2
        · exact e3 i (by omega) c h2
    | some c =>
      rw [damT_some hc h0] at h ⊢
      obtain ⟨f1, f2, f3, f4⟩ := damF_zero h
      obtain ⟨c1, c2, c3, c4⟩ := convR_ok f1
      obtain ⟨i1, i2, i3⟩ := interestR_ok f2
      refine ⟨?_, fun q hq => ?_, fun i hi c' h2 => ?_⟩
      · rw [f4, S_app2, e1, S_succ, i3]
        have : gX k t cl n = prX k t c + prX k t c * rt t.rate * (c.2 : Rat) := by simp [gX, hc]
        rw [this]
        have e : rt (convK k c.1 t.unit).1.val = prX k t c := c4
        rw [e]; grind
      · rw [f4] at hq
        simp only [List.mem_append, List.mem_cons, List.not_mem_nil, or_false] at hq
        rcases hq with hq | rfl | rfl
        · exact e2 q hq
        · exact c3
        · exact i2
      · by_cases hn : i = n
        · subst hn; rw [hc] at h2; cases h2; exact ⟨f1, f2⟩
        · exact e3 i (by omega) c' h2
/-- What damages without an error are. -/
theorem damE_ok {k : K} {t : Tm} (hv : validT t = true) {cl : Nat → Option Clm} {n : Nat} (h : (damE t (damT k t cl n)).2 = 0) : (damT k t cl n).2.2 = 0 ∧ ∃ q : Q, qOk q = true ∧ rt q = S (gX k t cl) n ∧ (damE t (damT k t cl n)).1 = ⟨t.unit, (cappedR t q).1⟩ ∧ (cappedR t q).2 = 0 := by
  unfold damE at h ⊢
  split at h
  · exact absurd h ‹_›
  · rename_i h1
    rw [if_neg h1]
    have h1 : (damT k t cl n).2.2 = 0 := by simpa using h1
    obtain ⟨e1, e2, e3⟩ := damT_val h1
    split at h
    · exact absurd h ‹_›
    · rename_i h2
      rw [if_neg h2]
      have h2 := by simpa using h2
      obtain ⟨c1, c2, c3⟩ := collT_val h2
      split at h
      · exact absurd h ‹_›
      · rename_i h3
        rw [if_neg h3]
        exact ⟨h1, _, c1, c2.trans e1, rfl, by simpa using h3⟩
end Go.Proofs.Ytiiegpjpckkohaa
end
section
/- The law RemedyBalance: the walk. -/
namespace Go.Proofs.Ytiiegpjpckkohaa
open Go.Eng
set_option maxRecDepth 10000
set_option linter.unusedSimpArgs false
set_option linter.unusedVariables false
theorem toQ_neg (x : Rat) : (toQ (-x)).2 = (toQ x).2 := by
  unfold toQ
  rw [Rat.neg_num, Rat.neg_den, Int.natAbs_neg]
  split <;> rfl
theorem subR_ok {a b : Q} (h : (subR a b).2 = 0) : (qOk a = true ∧ qOk b = true) ∧ qOk (subR a b).1 = true ∧ rt (subR a b).1 = rt a - rt b := by
  have hab : qOk a = true ∧ qOk b = true := by
    unfold subR at h
    split at h
    · rename_i h1; simpa using h1
    · simp at h
  rw [subR_toQ hab.1 hab.2] at h ⊢
  exact ⟨hab, toQ_ok h⟩
theorem subR_swap {a b : Q} (ha : qOk a = true) (hb : qOk b = true) : (subR b a).2 = (subR a b).2 := by
  rw [subR_toQ ha hb, subR_toQ hb ha, ← toQ_neg]
  congr 2
  grind
theorem asked_valid {k : K} {t : Tm} {a b u : Int} (h : askedB k t a b u = true) : validT t = true ∧ (0 ≤ t.unit ∧ t.unit < k.units.length) ∧ (0 ≤ a ∧ a < k.parties) ∧ (0 ≤ b ∧ b < k.parties) ∧ a ≠ b ∧ 0 ≤ u ∧ u ≤ k.days ∧ (unitAt k t.unit).kind = 2 := by
  unfold askedB at h
  split at h
  · cases h
  · rename_i h1
    split at h
    · cases h
    · rename_i h2
      simp only [Bool.or_eq_true, Bool.not_eq_true', decide_eq_true_eq, bne_iff_ne, not_or, Bool.not_eq_false, Decidable.not_not] at h1
      simp only [Bool.or_eq_true, decide_eq_true_eq, beq_iff_eq, not_or] at h2
      simp only [Bool.and_eq_true, decide_eq_true_eq] at h
      exact ⟨h1.1.1.1, by omega, by omega, by omega, h2.2, h.1, h.2, h1.2⟩
/-- What stands behind damages without an error. -/
theorem damages_zero {k : K} {l : List Int} {t : Tm} {a b u : Int} (h : (damagesR k l t a b u).2 = 0) : checkR k l = 0 ∧ askedB k t a b u = true ∧ damagesR k l t a b u = damE t (damT k t (claimAt k l (followR k l l.length).out a b u) k.clauses.length) := by
  unfold damagesR at h ⊢
  split at h
  · exact absurd h ‹_›
  · rename_i h1
    rw [if_neg h1]
    split at h
    · cases h
    · rename_i h2
      rw [if_neg h2]
      exact ⟨by simpa using h1, by simpa using h2, rfl⟩
theorem cappedR_qOk {t : Tm} {q : Q} (h : (cappedR t q).2 = 0) : qOk (cappedR t q).1 = true := by
  unfold cappedR at h ⊢
  split at h
  · cases h
  · rename_i h1
    rw [if_neg h1]
    simp only [Bool.or_eq_true, Bool.not_eq_true', not_or, Bool.not_eq_false] at h1
    split
    · exact (validT_iff.1 h1.1).2.1
    · exact h1.2
theorem damages_qOk {k : K} {l : List Int} {t : Tm} {a b u : Int} (h : (damagesR k l t a b u).2 = 0) : qOk (damagesR k l t a b u).1.val = true ∧ (damagesR k l t a b u).1.unit = t.unit := by
  obtain ⟨h1, h2, h3⟩ := damages_zero h
  rw [h3] at h ⊢
  obtain ⟨e1, q, e2, e3, e4, e5⟩ := damE_ok (asked_valid h2).1 h
  rw [e4]
  exact ⟨cappedR_qOk e5, rfl⟩
theorem lawB (k : K) (hk : kW k) (l : List Int) (t : Tm) (ht : tmW t) (a b u : Int) : Does Try.prog 12 [kV k, intsV l, tmV t, .c (.int .i64 a), .c (.int .i64 b), .c (.int .i64 u)] (.c (.bool true)) := by
  refine Does.mk (fun _ => false) TT_ok Try.func12 rfl (by kernel_rfl) Try.ntmps12 rfl rfl fun E hT hE hN hR => ?_
  have hm : E.P.follows .mixedOrders = true := by rw [hE]; kernel_rfl
  (repeat (first | refine XK.norm rfl rfl ?_ | refine XK.rgnA hT rfl rfl rfl ?_ | refine XK.rgnB hT hm rfl rfl rfl ?_)); refine XK.region ?_; refine XL.goA hT rfl rfl rfl rfl ?_
  refine XL.callLA hE rfl rfl rfl rfl trivial rfl (head41_ok) rfl ?_
  refine XL.goA hT rfl rfl rfl rfl ?_; refine XL.fin ?_; (repeat (first | refine XK.norm rfl rfl ?_ | refine XK.rgnA hT rfl rfl rfl ?_ | refine XK.rgnB hT hm rfl rfl rfl ?_))
  (repeat (first | refine XK.norm rfl rfl ?_ | refine XK.rgnA hT rfl rfl rfl ?_ | refine XK.rgnB hT hm rfl rfl rfl ?_)); refine XK.region ?_; refine XL.goA hT rfl rfl rfl rfl ?_
  refine XL.callLA hE rfl rfl rfl rfl trivial rfl (smallK_ok k l) rfl ?_
  refine XL.goA hT rfl rfl rfl rfl ?_; refine XL.fin ?_; (repeat (first | refine XK.norm rfl rfl ?_ | refine XK.rgnA hT rfl rfl rfl ?_ | refine XK.rgnB hT hm rfl rfl rfl ?_))
  (repeat (first | refine XK.norm rfl rfl ?_ | refine XK.rgnA hT rfl rfl rfl ?_ | refine XK.rgnB hT hm rfl rfl rfl ?_)); refine XK.cond rfl (fun hs => ?_) (fun hs => ?_)
  · (repeat (first | refine XK.norm rfl rfl ?_ | refine XK.rgnA hT rfl rfl rfl ?_ | refine XK.rgnB hT hm rfl rfl rfl ?_))
    (first | refine XK.out rfl rfl rfl ?_ | refine XK.outN rfl rfl rfl ?_)
    rfl
  · have d1 := damages_ok k hk l t ht a b u
    have d2 := damages_ok k hk l t ht b a u
    have b1 := balance_ok k hk l t ht a b u
    have b2 := balance_ok k hk l t ht b a u
    have w1 := damagesR_W (k := k) (l := l) ht a b u
    have w2 := damagesR_W (k := k) (l := l) ht b a u
    have hx : balanceR k l t a b u = if (damagesR k l t a b u).2 ≠ 0 then (zA, (damagesR k l t a b u).2) else if (damagesR k l t b a u).2 ≠ 0 then (zA, (damagesR k l t b a u).2)
        else if (subR (damagesR k l t a b u).1.val (damagesR k l t b a u).1.val).2 ≠ 0 then (zA, (subR (damagesR k l t a b u).1.val (damagesR k l t b a u).1.val).2)
        else (⟨t.unit, (subR (damagesR k l t a b u).1.val (damagesR k l t b a u).1.val).1⟩, 0) := rfl
    have hy : balanceR k l t b a u = if (damagesR k l t b a u).2 ≠ 0 then (zA, (damagesR k l t b a u).2) else if (damagesR k l t a b u).2 ≠ 0 then (zA, (damagesR k l t a b u).2)
        else if (subR (damagesR k l t b a u).1.val (damagesR k l t a b u).1.val).2 ≠ 0 then (zA, (subR (damagesR k l t b a u).1.val (damagesR k l t a b u).1.val).2)
        else (⟨t.unit, (subR (damagesR k l t b a u).1.val (damagesR k l t a b u).1.val).1⟩, 0) := rfl
    have q1 := fun h => (damages_qOk (k := k) (l := l) (t := t) (a := a) (b := b) (u := u) h).1
    have q2 := fun h => (damages_qOk (k := k) (l := l) (t := t) (a := b) (b := a) (u := u) h).1
    have sb := sub_ok (damagesR k l t a b u).1.val (damagesR k l t b a u).1.val w1 w2
    generalize damagesR k l t a b u = p at *
    generalize damagesR k l t b a u = q at *
    have wx : qW (balanceR k l t a b u).1.val := by
      have z : qW zA.val := ⟨by simp [inK, zA], by simp [inK, zA]⟩
      rw [hx]
      split
      · exact z
      · split
        · exact z
        · split
          · exact z
          · exact subR_W _ _
    have wy : qW (balanceR k l t b a u).1.val := by
      have z : qW zA.val := ⟨by simp [inK, zA], by simp [inK, zA]⟩
      rw [hy]
      split
      · exact z
      · split
        · exact z
        · split
          · exact z
          · exact subR_W _ _
    have ad := add_ok (balanceR k l t a b u).1.val (balanceR k l t b a u).1.val wx wy
    generalize balanceR k l t a b u = x at *
    generalize balanceR k l t b a u = y at *
    have key : (p.2 = 0 ∧ q.2 = 0 ∧ ((subR p.1.val q.1.val).2 = 0 ∧ x = (⟨t.unit, (subR p.1.val q.1.val).1⟩, 0) ∧ y.2 = 0 ∧ addR x.1.val y.1.val = ((0, 1), 0) ∨ x.2 = 2 ∧ y.2 = 2)) ∨
        (p.2 ≠ 0 ∧ x.2 = p.2 ∧ y.2 ≠ 0) ∨ (p.2 = 0 ∧ q.2 ≠ 0 ∧ x.2 = q.2 ∧ y.2 ≠ 0) := by
      by_cases hp : p.2 = 0
      · by_cases hq : q.2 = 0
        · left
          refine ⟨hp, hq, ?_⟩
          rw [if_neg (by simpa using hp), if_neg (by simpa using hq)] at hx
          rw [if_neg (by simpa using hq), if_neg (by simpa using hp)] at hy
          have g1 := q1 hp
          have g2 := q2 hq
          have hsw := subR_swap g1 g2
          have hcode : (subR p.1.val q.1.val).2 = 0 ∨ (subR p.1.val q.1.val).2 = 2 := by rw [subR_toQ g1 g2]; exact toQ_code _
          by_cases h0 : (subR p.1.val q.1.val).2 = 0
          · left
            have h1 : (subR q.1.val p.1.val).2 = 0 := by rw [hsw]; exact h0
            rw [if_neg (by simpa using h0)] at hx
            rw [if_neg (by simpa using h1)] at hy
            obtain ⟨_, e1, e2⟩ := subR_ok h0
            obtain ⟨_, e3, e4⟩ := subR_ok h1
            refine ⟨h0, hx, by rw [hy], ?_⟩
            rw [hx, hy]
            exact addR_val e1 e3 zeroQ_ok (by simp only; rw [e2, e4, rt_zero]; grind)
          · right
            have h2 : (subR p.1.val q.1.val).2 = 2 := hcode.resolve_left h0
            rw [if_pos h0] at hx
            rw [if_pos (by rw [hsw]; exact h0)] at hy
            exact ⟨by rw [hx]; exact h2, by rw [hy]; show (subR q.1.val p.1.val).2 = 2; rw [hsw]; exact h2⟩
        · right; right
          rw [if_neg (by simpa using hp), if_pos hq] at hx
          rw [if_pos hq] at hy
          exact ⟨hp, hq, by rw [hx], by rw [hy]; exact hq⟩
      · right; left
        rw [if_pos hp] at hx
        refine ⟨hp, by rw [hx], ?_⟩
        rw [hy]
        split
        · assumption
        · exact hp
    (repeat (first | refine XK.norm rfl rfl ?_ | refine XK.rgnA hT rfl rfl rfl ?_ | refine XK.rgnB hT hm rfl rfl rfl ?_)); refine XK.region ?_; refine XL.goA hT rfl rfl rfl rfl ?_
    refine XL.callLA hE rfl rfl rfl rfl trivial rfl (b1) rfl ?_
    refine XL.goA hT rfl rfl rfl rfl ?_; refine XL.fin ?_; (repeat (first | refine XK.norm rfl rfl ?_ | refine XK.rgnA hT rfl rfl rfl ?_ | refine XK.rgnB hT hm rfl rfl rfl ?_))
    (repeat (first | refine XK.norm rfl rfl ?_ | refine XK.rgnA hT rfl rfl rfl ?_ | refine XK.rgnB hT hm rfl rfl rfl ?_)); refine XK.region ?_; refine XL.goA hT rfl rfl rfl rfl ?_
    refine XL.callLA hE rfl rfl rfl rfl trivial rfl (b2) rfl ?_
    refine XL.goA hT rfl rfl rfl rfl ?_; refine XL.fin ?_; (repeat (first | refine XK.norm rfl rfl ?_ | refine XK.rgnA hT rfl rfl rfl ?_ | refine XK.rgnB hT hm rfl rfl rfl ?_))
    (repeat (first | refine XK.norm rfl rfl ?_ | refine XK.rgnA hT rfl rfl rfl ?_ | refine XK.rgnB hT hm rfl rfl rfl ?_)); refine XK.region ?_; refine XL.goA hT rfl rfl rfl rfl ?_
    refine XL.callLA hE rfl rfl rfl rfl trivial rfl (d1) rfl ?_
    refine XL.goA hT rfl rfl rfl rfl ?_; refine XL.fin ?_; (repeat (first | refine XK.norm rfl rfl ?_ | refine XK.rgnA hT rfl rfl rfl ?_ | refine XK.rgnB hT hm rfl rfl rfl ?_))
    (repeat (first | refine XK.norm rfl rfl ?_ | refine XK.rgnA hT rfl rfl rfl ?_ | refine XK.rgnB hT hm rfl rfl rfl ?_)); refine XK.region ?_; refine XL.goA hT rfl rfl rfl rfl ?_
    refine XL.callLA hE rfl rfl rfl rfl trivial rfl (d2) rfl ?_
    refine XL.goA hT rfl rfl rfl rfl ?_; refine XL.fin ?_; (repeat (first | refine XK.norm rfl rfl ?_ | refine XK.rgnA hT rfl rfl rfl ?_ | refine XK.rgnB hT hm rfl rfl rfl ?_))
    clear hx hy q1 q2 w1 w2 wx wy d1 d2 b1 b2
    generalize subR p.1.val q.1.val = d at *
    generalize hbk : addR x.1.val y.1.val = bk at *
    (repeat (first | refine XK.norm rfl rfl ?_ | refine XK.rgnA hT rfl rfl rfl ?_ | refine XK.rgnB hT hm rfl rfl rfl ?_)); refine XK.cond rfl (fun h1 => ?_) (fun h1 => ?_)
    · exfalso
      rcases key with ⟨k1, k2, ⟨k3, k4, k5, k6⟩ | ⟨k3, k4⟩⟩ | ⟨k1, k2, k3⟩ | ⟨k1, k2, k3, k4⟩
      · subst k4
        simp [k1, k2, k3, k5] at h1
      · simp [k1, k2, k3, k4] at h1
      · simp [k1, k2, k3, beq_eq_false_iff_ne.2 k1, beq_eq_false_iff_ne.2 k3] at h1
      · simp [k1, k2, k3, k4, beq_eq_false_iff_ne.2 k2, beq_eq_false_iff_ne.2 k4] at h1
    · (repeat (first | refine XK.norm rfl rfl ?_ | refine XK.rgnA hT rfl rfl rfl ?_ | refine XK.rgnB hT hm rfl rfl rfl ?_)); refine XK.cond rfl (fun h2 => ?_) (fun h2 => ?_) <;> (try simp at h2)
      · (repeat (first | refine XK.norm rfl rfl ?_ | refine XK.rgnA hT rfl rfl rfl ?_ | refine XK.rgnB hT hm rfl rfl rfl ?_))
        (first | refine XK.out rfl rfl rfl ?_ | refine XK.outN rfl rfl rfl ?_)
        refine cB ?_
        rcases key with ⟨k1, k2, ⟨k3, k4, k5, k6⟩ | ⟨k3, k4⟩⟩ | ⟨k1, k2, k3⟩ | ⟨k1, k2, k3, k4⟩
        · subst k4
          exact absurd rfl h2
        · simp [k1, k2, k3, k4]
        · simp [k1, k2, k3]
        · simp [k1, k2, k3, k4]
      · (repeat (first | refine XK.norm rfl rfl ?_ | refine XK.rgnA hT rfl rfl rfl ?_ | refine XK.rgnB hT hm rfl rfl rfl ?_)); refine XK.region ?_; refine XL.goA hT rfl rfl rfl rfl ?_
        refine XL.callLA hE rfl rfl rfl rfl trivial rfl (sb) rfl ?_
        refine XL.goA hT rfl rfl rfl rfl ?_; refine XL.fin ?_; (repeat (first | refine XK.norm rfl rfl ?_ | refine XK.rgnA hT rfl rfl rfl ?_ | refine XK.rgnB hT hm rfl rfl rfl ?_))
        (repeat (first | refine XK.norm rfl rfl ?_ | refine XK.rgnA hT rfl rfl rfl ?_ | refine XK.rgnB hT hm rfl rfl rfl ?_)); refine XK.region ?_; refine XL.goA hT rfl rfl rfl rfl ?_
        refine XL.callLA hE rfl rfl rfl rfl trivial rfl (ad) rfl ?_
        refine XL.goA hT rfl rfl rfl rfl ?_; refine XL.fin ?_; (repeat (first | refine XK.norm rfl rfl ?_ | refine XK.rgnA hT rfl rfl rfl ?_ | refine XK.rgnB hT hm rfl rfl rfl ?_))
        (repeat (first | refine XK.norm rfl rfl ?_ | refine XK.rgnA hT rfl rfl rfl ?_ | refine XK.rgnB hT hm rfl rfl rfl ?_)); refine XK.drawn hm ?_; refine XD.goA hT rfl rfl rfl rfl ?_
        refine XD.callGA hE rfl rfl rfl rfl rfl rfl rfl rfl rfl (whole_ok 0) rfl ?_
        refine XD.goA hT rfl rfl rfl rfl ?_; refine XD.fin (by kernel_rfl) ?_; (repeat (first | refine XK.norm rfl rfl ?_ | refine XK.rgnA hT rfl rfl rfl ?_ | refine XK.rgnB hT hm rfl rfl rfl ?_))
        (repeat (first | refine XK.norm rfl rfl ?_ | refine XK.rgnA hT rfl rfl rfl ?_ | refine XK.rgnB hT hm rfl rfl rfl ?_))
        (first | refine XK.out rfl rfl rfl ?_ | refine XK.outN rfl rfl rfl ?_)
        refine cB ?_
        rcases key with ⟨k1, k2, ⟨k3, k4, k5, k6⟩ | ⟨k3, k4⟩⟩ | ⟨k1, k2, k3⟩ | ⟨k1, k2, k3, k4⟩
        · subst k4 k6
          simp [k1, k2, k3]
        · exact absurd h2 (by omega)
        · exact absurd h2 (by omega)
        · exact absurd h2 (by omega)
end Go.Proofs.Ytiiegpjpckkohaa
end
section
/- Damages on one day and on the next. -/
namespace Go.Proofs.Ytiiegpjpckkohaa
open Go.Eng
set_option maxRecDepth 10000
set_option linter.unusedSimpArgs false
set_option linter.unusedVariables false
theorem rt_pos {q : Q} (h : qOk q = true) (h0 : 0 < q.1) : 0 < rt q := by
  have h1 := (rt_num h).1
  have h2 : 0 ≤ rt q := Rat.num_nonneg.1 (by omega)
  have h3 : rt q ≠ 0 := fun e => by rw [e] at h1; simp at h1; omega
  grind
theorem rt_nonneg {q : Q} (h : qOk q = true) (h0 : 0 ≤ q.1) : 0 ≤ rt q := Rat.num_nonneg.1 (by rw [(rt_num h).1]; exact h0)
theorem prX_pos {k : K} {t : Tm} {c : Clm} (h : (convK k c.1 t.unit).2 = 0) (hp : 0 < c.1.val.1) : 0 < prX k t c := by
  obtain ⟨h1, _⟩ := convR_ok h
  obtain ⟨f1, f2⟩ := h1.fac
  unfold prX convX
  rw [Rat.div_def]
  exact Rat.mul_pos (Rat.mul_pos (rt_pos h1.q hp) (rt_pos f1.1 f1.2)) (Rat.inv_pos.2 (rt_pos f2.1 f2.2))
/-- A claim on the next day. -/
theorem claim_next (k : K) (l : List Int) (out : Nat → Oc) (a b u : Int) (i : Nat) :
    (∃ c, claimAt k l out a b u i = some c ∧ claimAt k l out a b (u + 1) i = some (c.1, c.2 + 1)) ∨ (claimAt k l out a b u i = none ∧ (claimAt k l out a b (u + 1) i = none ∨ ∃ x, claimAt k l out a b (u + 1) i = some (x, 0))) := by
  unfold claimAt
  generalize daysTo l ((out i).to - 1).toNat = d
  by_cases h1 : (out i).status ≠ 4 ∨ (clAt k i).unit = -1 ∨ (out i).bearer ≠ a
  · right
    rw [if_pos (by rcases h1 with h | h | h; exact .inl h; exact .inr (.inl h); exact .inr (.inr (.inl h)))]
    refine ⟨rfl, .inl ?_⟩
    rw [if_pos (by rcases h1 with h | h | h; exact .inl h; exact .inr (.inl h); exact .inr (.inr (.inl h)))]
  · by_cases h2 : u ≤ d
    · right
      rw [if_pos (.inr (.inr (.inr h2)))]
      refine ⟨rfl, ?_⟩
      by_cases h3 : u + 1 ≤ d
      · rw [if_pos (.inr (.inr (.inr h3)))]; exact .inl rfl
      · rw [if_neg (by rintro (h | h | h | h); exact h1 (.inl h); exact h1 (.inr (.inl h)); exact h1 (.inr (.inr h)); exact h3 h)]
        split
        · exact .inl rfl
        · exact .inr ⟨_, by rw [show u + 1 - d - 1 = 0 by omega]⟩
    · have n1 : ¬ ((out i).status ≠ 4 ∨ (clAt k i).unit = -1 ∨ (out i).bearer ≠ a ∨ u ≤ d) := by rintro (h | h | h | h); exact h1 (.inl h); exact h1 (.inr (.inl h)); exact h1 (.inr (.inr h)); exact h2 h
      have n2 : ¬ ((out i).status ≠ 4 ∨ (clAt k i).unit = -1 ∨ (out i).bearer ≠ a ∨ u + 1 ≤ d) := by rintro (h | h | h | h); exact h1 (.inl h); exact h1 (.inr (.inl h)); exact h1 (.inr (.inr h)); omega
      rw [if_neg n1, if_neg n2]
      split
      · exact .inr ⟨rfl, .inl rfl⟩
      · exact .inl ⟨_, rfl, by rw [show u + 1 - d - 1 = u - d - 1 + 1 by omega]⟩
/-- What a failed clause is to pay is positive. -/
theorem claim_pos {k : K} (hk : KFacts k) {l : List Int} {out : Nat → Oc} {a b u : Int} {i : Nat} (hi : i < k.clauses.length) {c : Clm} (h : claimAt k l out a b u i = some c) : 0 < c.1.val.1 := by
  unfold claimAt at h
  split at h
  · cases h
  · rename_i h1
    split at h
    · cases h
    · injection h with h
      subst h
      rcases (hk.clB hi).2.2.2.2.2.2 with h2 | h2
      · exact absurd (.inr (.inl h2.1)) h1
      · have := h2.2.2.2.2.1
        simp only [posB, Bool.and_eq_true, decide_eq_true_eq] at this
        exact this.1
def freeT (t : Tm) : Tm := { t with cap := (-1, 1) }
def bareT (t : Tm) : Tm := { freeT t with rate := (0, 1) }
theorem gX_next (k : K) (l : List Int) (t : Tm) (out : Nat → Oc) (a b u : Int) (i : Nat) :
    gX k (freeT t) (claimAt k l out a b (u + 1)) i = gX k (freeT t) (claimAt k l out a b u) i + gX k (bareT t) (claimAt k l out a b u) i * rt t.rate + (gX k (bareT t) (claimAt k l out a b (u + 1)) i - gX k (bareT t) (claimAt k l out a b u) i) := by
  have e0 : rt (0, 1) = 0 := rt_zero
  have e1 : ∀ c, prX k (bareT t) c = prX k t c := fun _ => rfl
  have e2 : ∀ c, prX k (freeT t) c = prX k t c := fun _ => rfl
  have e3 : (freeT t).rate = t.rate := rfl
  have e4 : rt (bareT t).rate = 0 := e0
  rcases claim_next k l out a b u i with ⟨c, h1, h2⟩ | ⟨h1, h2 | ⟨x, h2⟩⟩
  · simp only [gX, h1, h2, e1, e2, e3, e4]
    rw [Rat.intCast_add]
    have : prX k t (c.1, c.2 + 1) = prX k t c := rfl
    rw [this]
    simp
    grind
  · simp only [gX, h1, h2]; grind
  · simp only [gX, h1, h2, e1, e2, e3, e4]; grind
theorem S_next (k : K) (l : List Int) (t : Tm) (out : Nat → Oc) (a b u : Int) : ∀ n,
    S (gX k (freeT t) (claimAt k l out a b (u + 1))) n = S (gX k (freeT t) (claimAt k l out a b u)) n + S (gX k (bareT t) (claimAt k l out a b u)) n * rt t.rate + (S (gX k (bareT t) (claimAt k l out a b (u + 1))) n - S (gX k (bareT t) (claimAt k l out a b u)) n)
  | 0 => by simp [S]; grind
  | n + 1 => by
    have ih := S_next k l t out a b u n
    have hg := gX_next k l t out a b u n
    simp only [S_succ]
    rw [ih, hg]
    grind
theorem S_le {g h : Nat → Rat} : ∀ {n : Nat}, (∀ i, i < n → g i ≤ h i) → S g n ≤ S h n
  | 0, _ => Rat.le_refl
  | n + 1, hh => by
    have h1 := S_le (g := g) (h := h) (n := n) (fun i hi => hh i (by omega))
    have h2 := hh n (by omega)
    rw [S_succ, S_succ]
    grind
theorem gX_le {k : K} {l : List Int} {t : Tm} (hr : 0 ≤ rt t.rate) {out : Nat → Oc} {a b u : Int} {i : Nat} (hp : ∀ c, claimAt k l out a b (u + 1) i = some c → 0 < prX k t c) : gX k t (claimAt k l out a b u) i ≤ gX k t (claimAt k l out a b (u + 1)) i := by
  rcases claim_next k l out a b u i with ⟨c, h1, h2⟩ | ⟨h1, h2 | ⟨x, h2⟩⟩
  · have := hp _ h2
    have e : prX k t (c.1, c.2 + 1) = prX k t c := rfl
    rw [e] at this
    simp only [gX, h1, h2, e]
    rw [Rat.intCast_add]
    have h3 := Rat.mul_nonneg (Rat.le_of_lt this) hr
    have h4 : prX k t c * rt t.rate * ((c.2 : Rat) + ((1 : Int) : Rat)) = prX k t c * rt t.rate * (c.2 : Rat) + prX k t c * rt t.rate := by simp; grind
    rw [h4]
    grind
  · simp only [gX, h1, h2]; exact Rat.le_refl
  · have := hp _ h2
    simp only [gX, h1, h2]
    have h3 := Rat.le_of_lt this
    have h4 : prX k t (x, 0) * rt t.rate * (((0 : Int)) : Rat) = 0 := by simp
    rw [h4]
    grind
theorem capped_mono {t : Tm} {a b : Q} (hv : validT t = true) (ha : qOk a = true) (hb : qOk b = true) (h : rt a ≤ rt b) : rt (cappedR t a).1 ≤ rt (cappedR t b).1 := by
  rw [cappedR_pre hv ha, cappedR_pre hv hb]
  split <;> split
  · exact Rat.le_refl
  · rename_i h1 h2
    have : ¬ rt t.cap < rt b := fun h3 => h2 ⟨h1.1, h3⟩
    have := h1.2
    grind
  · rename_i h1 h2
    have : ¬ rt t.cap < rt a := fun h3 => h1 ⟨h2.1, h3⟩
    grind
  · exact h
theorem capped_free {t : Tm} {q : Q} (hv : validT t = true) (hq : qOk q = true) (hc : t.cap.1 < 0) : (cappedR t q).1 = q := by
  rw [cappedR_pre hv hq, if_neg (by omega)]
end Go.Proofs.Ytiiegpjpckkohaa
end
