import Derived.Test.YtiiegpjpckkohaaPP
import Derived.Test.YtiiegpjpckkohaaPL
section
/- The set-off as rational numbers: no program in sight. -/
namespace Go.Proofs.Ytiiegpjpckkohaa
open Go.Eng
set_option maxRecDepth 10000
set_option linter.unusedSimpArgs false
set_option linter.unusedVariables false
noncomputable def sX (k : K) (unit : Int) (sa : Nat → Option (A × Bool)) (i : Nat) : Rat := match sa i with
  | none => 0
  | some c => if c.2 then -(convX (fun j => k.units.getD j default) c.1 unit) else convX (fun j => k.units.getD j default) c.1 unit
theorem S_app1 (L : List Q) (x : Q) : S (fun i => rt ((L ++ [x]).getD i default)) (L ++ [x]).length = S (fun i => rt (L.getD i default)) L.length + rt x := by
  have e : (L ++ [x]).length = L.length + 1 := by simp
  rw [e, S_succ]
  congr 1
  · refine S_congr fun i hi => ?_
    simp [List.getD, List.getElem?_append_left hi]
  · simp [List.getD]
theorem setT_val {k : K} {unit : Int} {sa : Nat → Option (A × Bool)} : ∀ {n : Nat}, (setT k unit sa n).2 = 0 → S (fun i => rt ((setT k unit sa n).1.getD i default)) (setT k unit sa n).1.length = S (sX k unit sa) n ∧ ∀ i, i < n → ∀ c, sa i = some c → (convK k c.1 unit).2 = 0
  | 0, _ => ⟨rfl, fun i hi => absurd hi (Nat.not_lt_zero _)⟩
  | n + 1, h => by
    have h0 : (setT k unit sa n).2 = 0 := by
      apply Classical.byContradiction
      intro h1
      rw [setT_stop h1 (n + 1) (by omega)] at h
      exact h1 h
    obtain ⟨e1, e3⟩ := setT_val (n := n) h0
    cases hc : sa n with
    | none =>
      rw [setT_none hc]
      refine ⟨?_, fun i hi c h2 => ?_⟩
      · rw [e1, S_succ]
        have : sX k unit sa n = 0 := by simp [sX, hc]
        rw [this]; grind
      · by_cases hn : i = n
        · subst hn; rw [hc] at h2; cases h2
        · exact e3 i (by omega) c h2
    | some c =>
      rw [setT_some hc h0] at h ⊢
      split at h
      · exact absurd h ‹_›
      · rename_i h1
        rw [if_neg h1]
        have h1 : (convK k c.1 unit).2 = 0 := by simpa using h1
        obtain ⟨c1, c2, c3, c4⟩ := convR_ok h1
        refine ⟨?_, fun i hi c' h2 => ?_⟩
        · show S _ (_ ++ _ : List Q).length = _
          rw [S_app1, e1, S_succ, rt_sg]
          have e : rt (convK k c.1 unit).1.val = convX (fun j => k.units.getD j default) c.1 unit := c4
          rw [e]
          simp only [sX, hc]
        · by_cases hn : i = n
          · subst hn; rw [hc] at h2; cases h2; exact h1
          · exact e3 i (by omega) c' h2
/-- The set-off without an error. -/
theorem setE_ok {k : K} {unit : Int} {sa : Nat → Option (A × Bool)} {n : Nat} (h : (setE unit (setT k unit sa n)).2 = 0) : (setT k unit sa n).2 = 0 ∧ (setE unit (setT k unit sa n)).1.unit = unit ∧ qOk (setE unit (setT k unit sa n)).1.val = true ∧ rt (setE unit (setT k unit sa n)).1.val = S (sX k unit sa) n := by
  unfold setE at h ⊢
  split at h
  · exact absurd h ‹_›
  · rename_i h1
    rw [if_neg h1]
    have h1 : (setT k unit sa n).2 = 0 := by simpa using h1
    split at h
    · simp at h
    · rename_i h2
      rw [if_neg h2]
      obtain ⟨c1, c2, c3⟩ := collT_val (by simpa using h2)
      exact ⟨h1, rfl, c1, c2.trans (setT_val h1).1⟩
theorem setOff_zero {k : K} {l : List Int} {a b unit : Int} (h : (setOffR k l a b unit).2 = 0) : checkR k l = 0 ∧ setB k a b unit = false ∧ setOffR k l a b unit = setE unit (setT k unit (setAt k l (followR k l l.length).out a b) k.clauses.length) := by
  unfold setOffR at h ⊢
  split at h
  · exact absurd h ‹_›
  · rename_i h1
    rw [if_neg h1]
    split at h
    · simp at h
    · rename_i h2
      rw [if_neg h2]
      exact ⟨by simpa using h1, by simpa using h2, rfl⟩
theorem setOff_val {k : K} {l : List Int} {a b unit : Int} (h : (setOffR k l a b unit).2 = 0) : (setOffR k l a b unit).1.unit = unit ∧ qOk (setOffR k l a b unit).1.val = true ∧ rt (setOffR k l a b unit).1.val = S (sX k unit (setAt k l (followR k l l.length).out a b)) k.clauses.length ∧ (setT k unit (setAt k l (followR k l l.length).out a b) k.clauses.length).2 = 0 := by
  obtain ⟨h1, h2, h3⟩ := setOff_zero h
  rw [h3] at h ⊢
  obtain ⟨e1, e2, e3, e4⟩ := setE_ok h
  exact ⟨e2, e3, e4, e1⟩
theorem setOff_err {k : K} {l : List Int} {a b unit : Int} (h : (setOffR k l a b unit).2 ≠ 0) : (setOffR k l a b unit).1 = zA := by
  unfold setOffR at h ⊢
  split
  · rfl
  · split
    · rfl
    · rename_i h1 h2
      rw [if_neg h1, if_neg h2] at h
      unfold setE at h ⊢
      split
      · rfl
      · split
        · rfl
        · rename_i h3 h4
          rw [if_neg h3, if_neg h4] at h
          exact absurd rfl h
/-- The two parties in the other order. -/
theorem setAt_swap (k : K) (l : List Int) (out : Nat → Oc) {a b : Int} (hab : a ≠ b) (i : Nat) : setAt k l out b a i = (setAt k l out a b i).map (fun c => (c.1, !c.2)) := by
  unfold setAt
  by_cases h1 : (out i).status ≠ 4 ∨ (clAt k i).unit = -1 ∨ ((out i).bearer ≠ a ∧ (out i).bearer ≠ b)
  · rw [if_pos h1, if_pos (by rcases h1 with h | h | h; exact .inl h; exact .inr (.inl h); exact .inr (.inr ⟨h.2, h.1⟩))]; rfl
  · rw [if_neg h1, if_neg (by rintro (h | h | h); exact h1 (.inl h); exact h1 (.inr (.inl h)); exact h1 (.inr (.inr ⟨h.2, h.1⟩)))]
    generalize (holdTo k l (clAt k i).to (out i).to.toNat).1 = hd
    by_cases h2 : hd = (out i).bearer ∨ (hd ≠ a ∧ hd ≠ b)
    · rw [if_pos h2, if_pos (by rcases h2 with h | h; exact .inl h; exact .inr ⟨h.2, h.1⟩)]; rfl
    · rw [if_neg h2, if_neg (by rintro (h | h); exact h2 (.inl h); exact h2 (.inr ⟨h.2, h.1⟩))]
      simp only [Option.map_some, Option.some.injEq, Prod.mk.injEq, true_and]
      by_cases h3 : (out i).bearer = b
      · simp [h3, Ne.symm hab]
      · have : (out i).bearer = a := by
          apply Classical.byContradiction
          intro h4
          exact h1 (.inr (.inr ⟨h4, h3⟩))
        simp [this, hab]
theorem sgQ_not (n : Bool) (q : Q) : sgQ (!n) q = sgQ true (sgQ n q) := by
  cases n <;> simp [sgQ]
theorem setT_swap {k : K} {unit : Int} {sa sb : Nat → Option (A × Bool)} (h : ∀ i, sb i = (sa i).map (fun c => (c.1, !c.2))) : ∀ n, (setT k unit sb n).2 = (setT k unit sa n).2 ∧ (setT k unit sb n).1 = (setT k unit sa n).1.map (sgQ true)
  | 0 => ⟨rfl, rfl⟩
  | n + 1 => by
    obtain ⟨e1, e2⟩ := setT_swap h n
    by_cases h0 : (setT k unit sa n).2 = 0
    · cases hc : sa n with
      | none =>
        have hb : sb n = none := by rw [h, hc]; rfl
        rw [setT_none hc, setT_none hb]
        exact ⟨e1, e2⟩
      | some c =>
        have hb : sb n = some (c.1, !c.2) := by rw [h, hc]; rfl
        rw [setT_some hc h0, setT_some hb (e1.trans h0)]
        split
        · exact ⟨rfl, e2⟩
        · refine ⟨rfl, ?_⟩
          simp only [List.map_append, List.map_cons, List.map_nil]
          rw [e2, sgQ_not]
    · rw [setT_stop h0 (n + 1) (by omega), setT_stop (by rw [e1]; exact h0) (n + 1) (by omega)]
      exact ⟨e1, e2⟩
theorem addR_neg {a b : Q} (ha : qOk a = true) (hb : qOk b = true) : (addR (sgQ true a) (sgQ true b)).2 = (addR a b).2 := by
  rw [addR_toQ ha hb, addR_toQ (sgQ_ok ha) (sgQ_ok hb), rt_sg, rt_sg, ← toQ_neg]
  congr 2
  simp
  grind
theorem addS_go {s : Q × Int} {a : Q} (h : s.2 = 0) : addS s a = if (addR s.1 a).2 ≠ 0 then (s.1, (addR s.1 a).2) else ((addR s.1 a).1, s.2) := by
  unfold addS; rw [if_neg (by simpa using h)]
theorem addS_stop {s : Q × Int} {a : Q} (h : s.2 ≠ 0) : addS s a = s := by
  unfold addS; rw [if_pos h]
theorem collT_neg {f g : Nat → Q} {m : Nat} (hf : ∀ i, i < m → qOk (f i) = true ∧ g i = sgQ true (f i)) : (collT ((0, 1), 0) g m).2 = (collT ((0, 1), 0) f m).2 ∧ ((collT ((0, 1), 0) f m).2 = 0 → (collT ((0, 1), 0) g m).1 = sgQ true (collT ((0, 1), 0) f m).1) := by
  induction m with
  | zero => exact ⟨rfl, fun _ => rfl⟩
  | succ m ih =>
    obtain ⟨e1, e2⟩ := ih fun i hi => hf i (by omega)
    obtain ⟨f1, f2⟩ := hf m (by omega)
    by_cases h0 : (collT ((0, 1), 0) f m).2 = 0
    · have hq := (collT_val h0).1
      have e2 := e2 h0
      have hn := addR_neg hq f1
      have a1 : collT ((0, 1), 0) f (m + 1) = addS (collT ((0, 1), 0) f m) (f m) := rfl
      have a2 : collT ((0, 1), 0) g (m + 1) = addS (collT ((0, 1), 0) g m) (g m) := rfl
      have hg0 : (collT ((0, 1), 0) g m).2 = 0 := e1.trans h0
      rw [a1, a2, addS_go h0, addS_go hg0, e2, f2, hn]
      by_cases h1 : (addR (collT ((0, 1), 0) f m).1 (f m)).2 = 0
      · rw [if_neg (by simpa using h1), if_neg (by simpa using h1)]
        refine ⟨by rw [hg0, h0], fun _ => ?_⟩
        obtain ⟨_, b1, b2⟩ := addR_ok h1
        have h1' : (addR (sgQ true (collT ((0, 1), 0) f m).1) (sgQ true (f m))).2 = 0 := by rw [hn]; exact h1
        obtain ⟨_, b3, b4⟩ := addR_ok h1'
        refine rt_inj b3 (sgQ_ok b1) ?_
        rw [b4, rt_sg, rt_sg, rt_sg, b2]
        simp
        grind
      · rw [if_pos h1, if_pos h1]
        exact ⟨rfl, fun h => absurd h h1⟩
    · have hg0 : (collT ((0, 1), 0) g m).2 ≠ 0 := by rw [e1]; exact h0
      have a1 : collT ((0, 1), 0) f (m + 1) = addS (collT ((0, 1), 0) f m) (f m) := rfl
      have a2 : collT ((0, 1), 0) g (m + 1) = addS (collT ((0, 1), 0) g m) (g m) := rfl
      rw [a1, a2, addS_stop h0, addS_stop hg0]
      exact ⟨e1, fun h => absurd h h0⟩
theorem getD_map' {L : List Q} {f : Q → Q} {i : Nat} (h : i < L.length) : (L.map f).getD i default = f (L.getD i default) := by
  simp [List.getD, h]
/-- What the first owes the second is the opposite of what the second owes the first. -/
theorem setOff_swap {k : K} {l : List Int} {a b unit : Int} : (setOffR k l b a unit).2 = (setOffR k l a b unit).2 ∧ ((setOffR k l a b unit).2 = 0 → addR (setOffR k l a b unit).1.val (setOffR k l b a unit).1.val = ((0, 1), 0)) := by
  have hB : setB k b a unit = setB k a b unit := by
    unfold setB
    rw [show (b == a) = (a == b) by rw [Bool.eq_iff_iff, beq_iff_eq, beq_iff_eq]; exact ⟨Eq.symm, Eq.symm⟩]
    generalize decide (a < 0) = x1
    generalize decide (b < 0) = x2
    generalize decide (k.parties ≤ a) = x3
    generalize decide (k.parties ≤ b) = x4
    cases x1 <;> cases x2 <;> cases x3 <;> cases x4 <;> rfl
  unfold setOffR
  rw [hB]
  split
  · rename_i h; exact ⟨rfl, fun h1 => absurd h1 h⟩
  · split
    · exact ⟨rfl, fun h => by simp at h⟩
    · rename_i h1 h2
      have hab : a ≠ b := by
        intro h
        subst h
        simp [setB] at h2
      obtain ⟨e1, e2⟩ := setT_swap (k := k) (unit := unit) (setAt_swap k l (followR k l l.length).out hab) k.clauses.length
      have hq := setT_q (k := k) (unit := unit) (sa := setAt k l (followR k l l.length).out a b) k.clauses.length
      generalize setT k unit (setAt k l (followR k l l.length).out a b) k.clauses.length = s at *
      generalize setT k unit (setAt k l (followR k l l.length).out b a) k.clauses.length = s' at *
      obtain ⟨g1, g2⟩ := collT_neg (f := fun i => s.1.getD i default) (g := fun i => s'.1.getD i default) (m := s.1.length) fun i hi => ⟨hq _ (getD_memA hi), by
        show s'.1.getD i default = _
        rw [e2, getD_map' hi]⟩
      have hl : s'.1.length = s.1.length := by rw [e2]; simp
      unfold setE
      rw [e1, hl]
      split
      · rename_i h3; exact ⟨rfl, fun h => absurd h h3⟩
      · rw [g1]
        split
        · exact ⟨rfl, fun h => by simp at h⟩
        · rename_i h3
          refine ⟨rfl, fun _ => ?_⟩
          have h3 : (collT ((0, 1), 0) (fun i => s.1.getD i default) s.1.length).2 = 0 := by simpa using h3
          have hv := collT_val h3
          simp only
          rw [g2 h3]
          exact addR_val hv.1 (sgQ_ok hv.1) zeroQ_ok (by rw [rt_sg, rt_zero]; simp; grind)
theorem S_mul {g : Nat → Rat} {x : Rat} : ∀ {n : Nat}, S (fun i => g i * x) n = S g n * x
  | 0 => by simp [S]
  | n + 1 => by
    rw [S_succ, S_succ, S_mul]
    grind
end Go.Proofs.Ytiiegpjpckkohaa
end
