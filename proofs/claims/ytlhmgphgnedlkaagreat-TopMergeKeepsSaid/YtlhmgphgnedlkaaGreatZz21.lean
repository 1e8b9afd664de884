import Derived.Test.YtlhmgphgnedlkaaGreatZz13
import Derived.Test.YtlhmgphgnedlkaaGreatZz20
import Derived.Test.YtlhmgphgnedlkaaGreatZz14
import Derived.Shelf.SlSortCmp.NoneTotal
import Derived.Test.YtlhmgphgnedlkaaGreatZz12
import Derived.Test.YtlhmgphgnedlkaaGreatZz15
section
/- A run under amendments: stages, plain. -/
namespace Go.Proofs.YtlhmgphgnedlkaaGreat
open Go.Eng
set_option maxRecDepth 10000
def amGd (l : List Am) : Prop := ∀ a ∈ l, amW a ∧ a.patch.clauses.length ≤ 1000000 ∧ a.patch.new.start.length ≤ 1000000
theorem amGd.at {l : List Am} (h : amGd l) {i : Nat} (hi : i < l.length) : amW (l.getD i default) ∧ (l.getD i default).patch.clauses.length ≤ 1000000 ∧ (l.getD i default).patch.new.start.length ≤ 1000000 := h _ (getD_memW hi)
noncomputable def preTo (k : K) (l : List Am) : Nat → K
  | 0 => k
  | i + 1 => if 0 < (l.getD i default).day then preTo k l i else if (applyR (preTo k l i) (l.getD i default).patch).2 = 0 then (applyR (preTo k l i) (l.getD i default).patch).1 else preTo k l i
noncomputable def todTo (l : List Am) (c : K × St) : Nat → K × St
  | 0 => c
  | i + 1 => if (l.getD i default).day ≠ (todTo l c i).2.day then todTo l c i else if (migR (todTo l c i).1 (l.getD i default).patch (todTo l c i).2).2 = 0 then (migR (todTo l c i).1 (l.getD i default).patch (todTo l c i).2).1 else todTo l c i
noncomputable def nextS (l : List Am) (c : K × St) (t : Int) : (K × St) × Int :=
  if (stepS c.1 c.2 t).2 = 0 ∧ t = -1 then (todTo l (c.1, (stepS c.1 c.2 t).1) l.length, 0) else ((c.1, (stepS c.1 c.2 t).1), (stepS c.1 c.2 t).2)
noncomputable def stgTo (k : K) (l : List Am) (tr : List Int) : Nat → (K × St) × Int
  | 0 => ((preTo k l l.length, (startS (preTo k l l.length)).1), (startS (preTo k l l.length)).2)
  | i + 1 => if (stgTo k l tr i).2 ≠ 0 then stgTo k l tr i else nextS l (stgTo k l tr i).1 (tr.getD i default)
def kGd (k : K) : Prop := kW k ∧ (kValid k).1 = 0
def cGd (c : K × St) : Prop := kW c.1 ∧ validS c.1 c.2 = true
theorem cGd.kv {c : K × St} (h : cGd c) : kGd c.1 := ⟨h.1, (validS_len h.2).1⟩
theorem apply_gd {k : K} (h : kGd k) {p : Pt} (hp : ptW p) (h0 : (applyR k p).2 = 0) : kGd (applyR k p).1 := by
  refine ⟨applyR_W h.1 hp, ?_⟩
  rcases applyR_cases k p with ⟨h2, _⟩ | ⟨_, _, _, h2, _⟩
  · exact absurd h0 h2
  · exact h2
theorem preTo_gd {k : K} (h : kGd k) {l : List Am} (hl : amGd l) : ∀ {i : Nat}, i ≤ l.length → kGd (preTo k l i)
  | 0, _ => h
  | i + 1, hi => by
    have ih := preTo_gd h hl (show i ≤ l.length by omega)
    rw [preTo]
    split
    · exact ih
    · split
      · rename_i h0
        exact apply_gd ih (hl.at (show i < l.length by omega)).1.2.2.2 h0
      · exact ih
theorem mig_gd {c : K × St} (h : cGd c) {p : Pt} (hp : ptW p) (h0 : (migR c.1 p c.2).2 = 0) : cGd (migR c.1 p c.2).1 := by
  unfold migR at h0 ⊢
  split at h0
  · exact absurd h0 (by assumption)
  · rename_i h1
    have h1 : (applyR c.1 p).2 = 0 := by simpa using h1
    rw [if_neg (by simpa using h1)]
    exact ⟨applyR_W h.1 hp, migS_valid h.1 hp h1 h.2⟩
theorem todTo_gd {l : List Am} (hl : amGd l) {c : K × St} (h : cGd c) : ∀ {i : Nat}, i ≤ l.length → cGd (todTo l c i)
  | 0, _ => h
  | i + 1, hi => by
    have ih := todTo_gd hl h (show i ≤ l.length by omega)
    rw [todTo]
    split
    · exact ih
    · split
      · rename_i h0
        exact mig_gd ih (hl.at (show i < l.length by omega)).1.2.2.2 h0
      · exact ih
theorem step_gd {c : K × St} (h : cGd c) {t : Int} (h0 : (stepS c.1 c.2 t).2 = 0) : cGd (c.1, (stepS c.1 c.2 t).1) := by
  rcases stepS_cases h.1 c.2 t with ⟨_, e⟩ | ⟨_, _, e⟩ | ⟨_, _, e, hw⟩
  · rw [e] at h0; cases h0
  · rw [e] at h0; cases h0
  · refine ⟨h.1, ?_⟩
    show validS c.1 (stepS c.1 c.2 t).1 = true
    rw [e]
    exact validS_of h.1 h.kv.2 hw
theorem stgTo_gd {k : K} (h : kGd k) {l : List Am} (hl : amGd l) {tr : List Int} : ∀ {i : Nat}, (stgTo k l tr i).2 = 0 → cGd (stgTo k l tr i).1
  | 0, h0 => by
    have hp := preTo_gd h hl (Nat.le_refl _)
    rw [stgTo] at h0 ⊢
    exact ⟨hp.1, (startS_zero hp.1 h0).2.1⟩
  | i + 1, h0 => by
    rw [stgTo] at h0 ⊢
    by_cases he : (stgTo k l tr i).2 = 0
    · have ih := stgTo_gd h hl he
      rw [if_neg (by simpa using he)] at h0 ⊢
      unfold nextS at h0 ⊢
      split at h0
      · rename_i h1
        rw [if_pos h1]
        exact todTo_gd hl (step_gd ih h1.1) (Nat.le_refl _)
      · rename_i h1
        rw [if_neg h1]
        exact step_gd ih h0
    · rw [if_pos he] at h0
      exact absurd h0 he
end Go.Proofs.YtlhmgphgnedlkaaGreat
end
section
/- Plain laws of migrated marks: what is kept (MigrateKeeps, MigrateFails). -/
namespace Go.Proofs.YtlhmgphgnedlkaaGreat
open Go.Eng
set_option maxRecDepth 10000
theorem voidM_same {m : Mk} (h0 : m.status ≠ 0) (hr : runsM m = false) : voidM m = m := by
  unfold voidM
  rw [if_neg]
  rw [hr, Bool.or_false]
  simpa using h0
theorem voidM_got (m : Mk) : (voidM m).got = m.got ∧ (voidM m).bearer = m.bearer := by
  unfold voidM
  split <;> exact ⟨rfl, rfl⟩
theorem voidM_run {m : Mk} (hr : runsM m = true) : (voidM m).status = 5 := by
  unfold voidM
  rw [if_pos (by rw [hr, Bool.or_true])]
  rfl
theorem voidM_idle {m : Mk} (h : m.status = 0) : (voidM m).status = 5 := by
  unfold voidM
  rw [if_pos (by rw [h]; rfl)]
  rfl
theorem spanM_ne {d : Int} {old : Cl} {m : Mk} (h : m.status ≠ 1) : spanM d old m = m := if_neg h
theorem spanM_facts (d : Int) (old : Cl) (m : Mk) : (spanM d old m).status = m.status ∧ (spanM d old m).got = m.got ∧ (spanM d old m).bearer = m.bearer := by
  unfold spanM
  split <;> exact ⟨rfl, rfl, rfl⟩
theorem contM_facts (old next : Cl) (m : Mk) : ((contM old next m).status = 3 ∨ (contM old next m).status = m.status ∨ (contM old next m).status = 1) ∧ (contM old next m).got = m.got ∧ (contM old next m).bearer = m.bearer := by
  unfold contM
  split
  · exact ⟨.inl rfl, rfl, rfl⟩
  · split
    · exact ⟨.inr (.inl rfl), rfl, rfl⟩
    · split
      · exact ⟨.inr (.inr rfl), rfl, rfl⟩
      · exact ⟨.inr (.inl rfl), rfl, rfl⟩
theorem chgM_ended {k : K} {p : Pt} {hold : List Int} {x : Nat} {m : Mk} (h0 : m.status ≠ 0) (hr : runsM m = false) : chgM k p hold x m = m := by
  unfold chgM
  split
  · refine spanM_ne fun e => ?_
    rw [runsM_iff.2 (.inl e)] at hr; cases hr
  · split
    · unfold replM
      split
      · exact voidM_same h0 hr
      · first | rfl | rw [if_pos hr]
    · split
      · unfold addM
        split
        · exact voidM_same h0 hr
        · rfl
      · exact voidM_same h0 hr
theorem chgM_runs {k : K} {p : Pt} {hold : List Int} {x : Nat} {m : Mk} (hr : runsM m = true) : (chgM k p hold x m).status ≠ 0 ∧ (chgM k p hold x m).status ≠ 4 ∧
    (¬ (p.kind = 2 ∧ p.new.kind ≠ (clAt k x).kind ∧ p.new.waived = false) → (chgM k p hold x m).got = m.got ∧ (chgM k p hold x m).bearer = m.bearer) := by
  have hs := runsM_iff.1 hr
  have hv := voidM_run hr
  have hg := voidM_got m
  unfold chgM
  split
  · obtain ⟨a1, a2, a3⟩ := spanM_facts p.days (clAt k x) m
    exact ⟨by omega, by omega, fun _ => ⟨a2, a3⟩⟩
  · split
    · rename_i h2
      unfold replM
      split
      · exact ⟨by omega, by omega, fun _ => hg⟩
      · rename_i hw
        rw [if_neg (by rw [hr]; simp)]
        split
        · obtain ⟨a1, a2, a3⟩ := contM_facts (clAt k x) p.new m
          exact ⟨by omega, by omega, fun _ => ⟨a2, a3⟩⟩
        · rename_i hk
          exact ⟨by show (1 : Int) ≠ 0; omega, by show (1 : Int) ≠ 4; omega, fun h => absurd ⟨h2, hk, by simpa using hw⟩ h⟩
    · split
      · unfold addM
        split
        · exact ⟨by omega, by omega, fun _ => hg⟩
        · exact ⟨by omega, by omega, fun _ => ⟨rfl, rfl⟩⟩
      · exact ⟨by omega, by omega, fun _ => hg⟩
theorem chgM_idle {k : K} {p : Pt} {hold : List Int} {x : Nat} {m : Mk} (h : m.status = 0) : (chgM k p hold x m).status = 0 ∨ (chgM k p hold x m).status = 5 := by
  have hn : runsM m = false := by unfold runsM; rw [h]; rfl
  have hv := voidM_idle h
  unfold chgM
  split
  · rw [spanM_ne (by omega)]; exact .inl h
  · split
    · unfold replM
      split
      · exact .inr hv
      · first | exact .inl h | (rw [if_pos hn]; exact .inl h)
    · split
      · unfold addM
        split
        · exact .inr hv
        · exact .inl h
      · exact .inr hv
def namedN (p : Pt) (i : Nat) : Nat → Bool
  | 0 => false
  | j + 1 => namedN p i j || p.clauses.getD j default == (i : Int)
theorem namedN_iff {p : Pt} {i : Nat} : ∀ {j : Nat}, namedN p i j = true ↔ ∃ q, q < j ∧ p.clauses.getD q default = (i : Int)
  | 0 => by simp [namedN]
  | j + 1 => by
    rw [namedN, Bool.or_eq_true, namedN_iff, beq_iff_eq]
    constructor
    · rintro (⟨q, h1, h2⟩ | h)
      · exact ⟨q, by omega, h2⟩
      · exact ⟨j, by omega, h⟩
    · rintro ⟨q, h1, h2⟩
      by_cases e : q = j
      · subst e; exact .inr h2
      · exact .inl ⟨q, by omega, h2⟩
def namedB (p : Pt) (i : Nat) : Bool := namedN p i p.clauses.length
def otherB (k : K) (p : Pt) (i : Nat) : Bool := namedB p i && p.kind == 2 && p.new.kind != (clAt k i).kind && !p.new.waived
theorem mig_at {k : K} {p : Pt} (h : PFacts k p) {s : St} (hv : validS k s = true) {i : Nat} (hi : i < k.clauses.length) :
    (namedB p i = false ∧ migM k p s i = s.marks.getD i default) ∨ (namedB p i = true ∧ migM k p s i = chgM k p s.holders i (s.marks.getD i default)) := by
  obtain ⟨l0, l1, l2, l3, l4, l5, l6, l7⟩ := validS_len hv
  have hpad : padM s.marks i = s.marks.getD i default := by unfold padM; rw [if_pos (by omega)]
  by_cases k1 : p.kind = 1
  · refine .inl ⟨?_, ?_⟩
    · have := (h.add k1).1
      unfold namedB
      rw [this]; rfl
    · have hne : ∀ q, q < (listP k p).length → ((listP k p).getD q default).toNat ≠ i := fun q hq => by
        unfold listP at hq ⊢
        rw [if_pos k1] at hq ⊢
        have : q = 0 := by simpa using hq
        subst this
        show k.clauses.length ≠ i
        omega
      rw [← hpad]
      exact mkTo_keep hne
  · have hLp : listP k p = p.clauses := if_neg k1
    cases hn : namedB p i with
    | true =>
      refine .inr ⟨rfl, ?_⟩
      obtain ⟨q, hq, e⟩ := namedN_iff.1 hn
      have e2 : ((listP k p).getD q default).toNat = i := by rw [hLp, e]; rfl
      have := h.lok.in (k := k) (p := p) (hold := s.holders) (m0 := padM s.marks) (by rw [hLp]; exact hq)
      rw [e2, hpad] at this
      exact this
    | false =>
      refine .inl ⟨rfl, ?_⟩
      rw [← hpad]
      refine mkTo_keep fun q hq e => ?_
      have hr := (h.lok.rng q hq).1
      have : namedB p i = true := namedN_iff.2 ⟨q, by rw [← hLp]; exact hq, by rw [← hLp]; omega⟩
      rw [this] at hn; cases hn
theorem migS_mark {k : K} {p : Pt} {s : St} {i : Nat} (hi : i < (applyR k p).1.clauses.length) : (migS k p s).marks.getD i default = (migW k p s).mark i := map_getD _ hi
theorem mig_keeps {k : K} {p : Pt} (h : PFacts k p) {s : St} (hv : validS k s = true) {i : Nat} (hi : i < k.clauses.length) :
    (endedM (s.marks.getD i default) = true → (migS k p s).marks.getD i default = s.marks.getD i default) ∧
    (runsM (s.marks.getD i default) = true → otherB k p i = false → ((migS k p s).marks.getD i default).got = (s.marks.getD i default).got ∧ ((migS k p s).marks.getD i default).bearer = (s.marks.getD i default).bearer) ∧
    (namedB p i = false → (s.marks.getD i default).status ≠ 0 → (migS k p s).marks.getD i default = s.marks.getD i default) ∧
    (runsM (s.marks.getD i default) = true → ((migS k p s).marks.getD i default).status ≠ 0) ∧
    (((migS k p s).marks.getD i default).status = 4 ↔ (s.marks.getD i default).status = 4) := by
  have hlen := h.len
  have hi' : i < (applyR k p).1.clauses.length := by split at hlen <;> omega
  have hat := mig_at h hv hi
  have hst := (migW_rel (k := k) (p := p) (s := s)).mark i
  rw [migS_mark hi']
  have hst : (migW k p s).mark i = migM k p s i ∨ ((migM k p s i).status = 0 ∧ ((migW k p s).mark i).status = 1) := by
    rcases hst with h1 | ⟨_, h1, _, h2, _⟩
    · exact .inl h1
    · exact .inr ⟨h1, by rw [h2]; rfl⟩
  obtain ⟨l0, l1, l2, l3, l4, l5, l6, l7⟩ := validS_len hv
  have hmk := l7 i (by omega)
  simp only [Bool.and_eq_true] at hmk
  have hms := mark_st hmk.1
  generalize s.marks.getD i default = a at *
  generalize (migW k p s).mark i = b at *
  have hend : endedM a = true → a.status ≠ 0 ∧ runsM a = false := fun e => by
    simp only [endedM, Bool.or_eq_true, beq_iff_eq] at e
    refine ⟨by omega, ?_⟩
    rw [Bool.eq_false_iff]
    intro h2
    have := runsM_iff.1 h2
    omega
  refine ⟨fun e => ?_, fun e1 e2 => ?_, fun e1 e2 => ?_, fun e => ?_, ?_⟩
  · obtain ⟨g1, g2⟩ := hend e
    have hm : migM k p s i = a := by
      rcases hat with ⟨_, h1⟩ | ⟨_, h1⟩
      · exact h1
      · rw [h1, chgM_ended g1 g2]
    rw [hm] at hst
    rcases hst with h1 | ⟨h1, _⟩
    · exact h1
    · exact absurd h1 g1
  · have hs := runsM_iff.1 e1
    rcases hat with ⟨_, h1⟩ | ⟨hn, h1⟩
    · rw [h1] at hst
      rcases hst with h2 | ⟨h2, _⟩
      · rw [h2]; exact ⟨rfl, rfl⟩
      · omega
    · obtain ⟨c1, c2, c3⟩ := chgM_runs (k := k) (p := p) (hold := s.holders) (x := i) e1
      rw [← h1] at c1 c2 c3
      rcases hst with h2 | ⟨h2, _⟩
      · rw [h2]
        refine c3 fun ⟨q1, q2, q3⟩ => ?_
        unfold otherB at e2
        rw [hn, q1, q3] at e2
        simp [q2] at e2
      · exact absurd h2 c1
  · rcases hat with ⟨_, h1⟩ | ⟨hn, _⟩
    · rw [h1] at hst
      rcases hst with h2 | ⟨h2, _⟩
      · exact h2
      · exact absurd h2 e2
    · rw [hn] at e1; cases e1
  · have hs := runsM_iff.1 e
    have hm : (migM k p s i).status ≠ 0 := by
      rcases hat with ⟨_, h1⟩ | ⟨_, h1⟩
      · rw [h1]; omega
      · rw [h1]; exact (chgM_runs e).1
    rcases hst with h2 | ⟨h2, _⟩
    · rw [h2]; exact hm
    · exact absurd h2 hm
  · have hm : (migM k p s i).status = 4 ↔ a.status = 4 := by
      rcases hat with ⟨_, h1⟩ | ⟨_, h1⟩
      · rw [h1]
      · rw [h1]
        by_cases hr : runsM a = true
        · have c2 := (chgM_runs (k := k) (p := p) (hold := s.holders) (x := i) hr).2.1
          have := runsM_iff.1 hr
          constructor <;> intro <;> omega
        · by_cases h0 : a.status = 0
          · have := chgM_idle (k := k) (p := p) (hold := s.holders) (x := i) h0
            constructor <;> intro <;> omega
          · rw [chgM_ended h0 (by simpa using hr)]
    rcases hst with h2 | ⟨h2, h3⟩
    · rw [h2]; exact hm
    · constructor
      · intro; omega
      · intro e; have := hm.2 e; omega
end Go.Proofs.YtlhmgphgnedlkaaGreat
end
section
/- Plain laws of a longer or shorter span (MigrateSpans). -/
namespace Go.Proofs.YtlhmgphgnedlkaaGreat
open Go.Eng
set_option maxRecDepth 10000
theorem kValid_zero {k : K} (h : (kValid k).1 = 0) : (decide (12 < k.parties) || decide (2000 < k.days) || decide ((12 : Int) < k.holders.length) || decide ((20 : Int) < k.units.length) || decide ((60 : Int) < k.acts.length) || decide ((400 : Int) < k.clauses.length)) = false ∧ framedB k = true ∧ badCl k = none := by
  unfold kValid at h
  split at h
  · cases h
  · rename_i h1
    split at h
    · cases h
    · rename_i h2
      split at h
      · cases h
      · rename_i h3
        exact ⟨by simpa using h1, by simpa using h2, h3⟩
theorem badCl_none {k : K} : badCl k = none ↔ ∀ i, i < k.clauses.length → clauseB k i (k.clauses.getD i default) = true := by
  unfold badCl
  rw [List.find?_eq_none]
  simp
theorem kValid_of {k : K} (h1 : (decide (12 < k.parties) || decide (2000 < k.days) || decide ((12 : Int) < k.holders.length) || decide ((20 : Int) < k.units.length) || decide ((60 : Int) < k.acts.length) || decide ((400 : Int) < k.clauses.length)) = false) (h2 : framedB k = true) (h3 : badCl k = none) : (kValid k).1 = 0 := by
  unfold kValid
  rw [if_neg (by rw [h1]; simp), if_neg (by rw [h2]; simp), h3]
theorem clauseB_span {k k' : K} (hk : k' = { k with clauses := k'.clauses }) (hl : k'.clauses.length = k.clauses.length) {i : Int} {x : Cl} {n : Int} (hn : 1 ≤ n ∧ n ≤ 400) (h : clauseB k i x = true) : clauseB k' i { x with after := n } = true := by
  have hc : condB k' i = condB k i := by funext s; unfold condB; rw [hl]
  have hkb : kindB k' { x with after := n } = kindB k x := by rw [hk]; rfl
  have ha : k'.acts = k.acts := by rw [hk]
  have hu : k'.units = k.units := by rw [hk]
  have hnt : natB k' = natB k := by rw [hk]; rfl
  have hmv : movB k' = movB k := by rw [hk]; rfl
  unfold clauseB at h ⊢
  rw [hkb, hc, ha, hu, hnt, hmv]
  split at h
  · cases h
  · rename_i h1
    rw [if_neg]
    · exact h
    · simp only [Bool.or_eq_true, decide_eq_true_eq, not_or] at h1 ⊢
      omega
theorem zClW : clW default := by
  refine ⟨?_, ?_, ?_, ?_, fun x hx => (by cases hx), ?_, ?_, ?_, ?_, ⟨?_, ?_⟩, ?_, ?_⟩ <;> (show _ ≤ _ ∧ _ ≤ _; decide)
end Go.Proofs.YtlhmgphgnedlkaaGreat
end
section
/- Contracts: package migrate: the stages of a run, one after the other (for Run). -/
namespace Go.Proofs.YtlhmgphgnedlkaaGreat
open Go.Eng
set_option maxRecDepth 10000
instance : Inhabited K := ⟨zeroK⟩
instance : Inhabited St := ⟨zS⟩
def runN (e : Int) (cs : List K) (ss : List St) : List (Nat × Ob) := [(1, .cells 71 [.c (.slice none 0 0)]), (2, .cells 35 [.c (.slice none 0 0)]), (3, .cells 32 [.c (.int .i64 e)]),
  (4, .cells 71 [.vec 5 (2 * cs.length)]), (5, .vec 27 7 (2 * cs.length) cs.length (fun i => kC (cs.getD i default))), (6, .cells 35 [.vec 7 (2 * ss.length)]), (7, .vec 41 4 (2 * ss.length) ss.length (fun i => stC (ss.getD i default)))]
end Go.Proofs.YtlhmgphgnedlkaaGreat
end
section
/- Contracts: the references' small functions of layers 24 and 27. -/
namespace Go.Proofs.YtlhmgphgnedlkaaGreat
open Go.Eng
set_option maxRecDepth 10000
def small24B (p : Pt) : Bool := decide ((p.clauses.length : Int) ≤ 500) && decide ((p.new.start.length : Int) ≤ 20)
theorem small24_ok (p : Pt) : Does Tryz.prog 27 [ptV p] (.c (.bool (small24B p))) := by
  refine Does.mk (fun _ => false) TT_ok Tryz.func27 rfl (by kernel_rfl) Tryz.ntmps27 rfl rfl fun E hT hE hN hR => ?_
  have hm := mixO hE
  (repeat (first | refine XK.n ?_ | refine XK.a ?_ | refine XK.b ?_))
  (first | refine XK.out rfl rfl rfl ?_ | refine XK.outN rfl rfl rfl ?_)
  rfl
end Go.Proofs.YtlhmgphgnedlkaaGreat
end
section
/- Plain facts for the laws of layer 27. -/
namespace Go.Proofs.YtlhmgphgnedlkaaGreat
open Go.Eng
set_option maxRecDepth 10000
theorem small24_facts {p : Pt} (h : small24B p = true) : p.clauses.length ≤ 500 ∧ p.new.start.length ≤ 20 := by
  simp only [small24B, Bool.and_eq_true, decide_eq_true_eq] at h
  omega
theorem stg_none (k : K) (tr : List Int) : ∀ i, stgTo k [] tr i = ((k, (runE k tr i).1), (runE k tr i).2)
  | 0 => rfl
  | i + 1 => by
    rw [stgTo, stg_none k tr i, runE]
    by_cases h : (runE k tr i).2 = 0
    · rw [if_neg (by simpa using h), if_pos h]
      unfold nextS
      dsimp only
      by_cases h2 : (stepS k (runE k tr i).1 (tr.getD i default)).2 = 0 ∧ tr.getD i default = -1
      · rw [if_pos h2, h2.1]; rfl
      · rw [if_neg h2]
    · rw [if_pos (by simpa using h), if_neg h]
end Go.Proofs.YtlhmgphgnedlkaaGreat
end
section
/- Patches one after the other, and lists of patches that are merged: plain. -/
namespace Go.Proofs.YtlhmgphgnedlkaaGreat
open Go.Eng
set_option maxRecDepth 10000
def shI (n d i : Int) : Int := if n ≤ i then i + d else i
def shC (n d : Int) (s : Cnd) : Cnd := ⟨shI n d s.clause, s.is⟩
def shCl (n d : Int) (x : Cl) : Cl := { x with start := x.start.map (shC n d) }
def renR (p : Pt) (n d : Int) : Pt := { p with clauses := p.clauses.map (shI n d), new := shCl n d p.new }
theorem shI_lt {n d a b : Int} (hd : 0 ≤ d) (h : a < b) : shI n d a < shI n d b := by
  unfold shI
  split <;> split <;> omega
theorem shI_ne {n d a b : Int} (hd : 0 ≤ d) (h : a ≠ b) : shI n d a ≠ shI n d b := by
  unfold shI
  split <;> split <;> omega
theorem shI_zero (n i : Int) : shI n 0 i = i := by unfold shI; split <;> omega
theorem renR_zero (p : Pt) (n : Int) : renR p n 0 = p := by
  have h1 : shI n 0 = id := funext (shI_zero n)
  have h2 : shC n 0 = id := funext fun s => by unfold shC; rw [shI_zero]; rfl
  unfold renR shCl
  rw [h1, h2, List.map_id, List.map_id]
def restB (k : K) (x : Cl) : Bool := clauseB { k with clauses := [] } 0 { x with start := [] } && decide (x.start.length ≤ 8)
def refB (m i : Int) (s : Cnd) : Bool := decide (0 ≤ s.clause) && decide (s.clause < m) && s.clause != i && decide (1 ≤ s.is) && decide (s.is ≤ 4)
def refsB (m i : Int) (x : Cl) : Bool := x.start.all (refB m i)
theorem condB_iff (k : K) (i : Int) (s : Cnd) : condB k i s = refB k.clauses.length i s := by
  unfold condB refB
  rw [Bool.eq_iff_iff]
  simp only [Bool.not_eq_true', Bool.or_eq_false_iff, Bool.and_eq_true, decide_eq_true_eq, decide_eq_false_iff_not, bne_iff_ne, beq_eq_false_iff_ne]
  omega
theorem clauseB_split (k : K) (i : Int) (x : Cl) : clauseB k i x = (restB k x && refsB k.clauses.length i x) := by
  have hc : condB k i = refB k.clauses.length i := funext (condB_iff k i)
  have hkb : kindB { k with clauses := [] } { x with start := [] } = kindB k x := rfl
  have hnt : natB { k with clauses := [] } = natB k := rfl
  have hmv : movB { k with clauses := [] } = movB k := rfl
  unfold restB refsB clauseB
  rw [hc, hkb, hnt, hmv]
  dsimp only
  generalize x.start.all (refB _ i) = r
  by_cases h8 : x.start.length ≤ 8
  · have e1 : decide ((8 : Int) < x.start.length) = false := by simp only [decide_eq_false_iff_not]; omega
    have e2 : decide (x.start.length ≤ 8) = true := by simpa using h8
    rw [e1, e2, Bool.and_true]
    have e3 : decide ((8 : Int) < ([] : List Cnd).length) = false := by simp
    rw [e3]
    generalize (decide (x.act < 0) || decide ((k.acts.length : Int) ≤ x.act) || decide (x.after < 1) || decide (400 < x.after)) = A
    generalize kindB k x = B
    cases A <;> cases B <;> cases r <;> simp
  · have e1 : decide ((8 : Int) < x.start.length) = true := by simp only [decide_eq_true_eq]; omega
    have e2 : decide (x.start.length ≤ 8) = false := by simpa using h8
    rw [e1, e2, Bool.and_false, Bool.false_and]
    split
    · rfl
    · rw [if_pos (by simp)]
def baseB (k : K) : Bool := !(decide (12 < k.parties) || decide (2000 < k.days) || decide ((12 : Int) < k.holders.length) || decide ((20 : Int) < k.units.length) || decide ((60 : Int) < k.acts.length))
theorem kValid_iff (k : K) : (kValid k).1 = 0 ↔ baseB k = true ∧ framedB k = true ∧ k.clauses.length ≤ 400 ∧ ∀ i : Nat, i < k.clauses.length → restB k (k.clauses.getD i default) = true ∧ refsB k.clauses.length i (k.clauses.getD i default) = true := by
  constructor
  · intro h
    obtain ⟨h1, h2, h3⟩ := kValid_zero h
    rw [Bool.or_eq_false_iff] at h1
    refine ⟨by unfold baseB; rw [h1.1]; rfl, h2, by have := h1.2; simp only [decide_eq_false_iff_not] at this; omega, fun i hi => ?_⟩
    have := badCl_none.1 h3 i hi
    rw [clauseB_split, Bool.and_eq_true] at this
    exact this
  · rintro ⟨h1, h2, h3, h4⟩
    refine kValid_of ?_ h2 (badCl_none.2 fun i hi => by rw [clauseB_split, Bool.and_eq_true]; exact h4 i hi)
    rw [Bool.or_eq_false_iff]
    refine ⟨by simpa [baseB] using h1, by simp only [decide_eq_false_iff_not]; omega⟩
def PV (k : K) (p : Pt) (m : Nat) : Prop :=
  (∃ e, efOf p.kind = some e ∧ fitsB m p e = true) ∧ (p.kind = 1 → m < 400 ∧ restB k p.new = true ∧ refsB (m + 1) m p.new = true) ∧
  (p.kind = 2 → restB k p.new = true ∧ refsB m (p.clauses.getD 0 default) p.new = true)
theorem incB_facts {n : Int} : ∀ {l : List Int} {last : Int}, incB n last l = true → ∀ x ∈ l, last < x ∧ x < n
  | [], _, _, _, h => by cases h
  | a :: l, last, hb, x, hx => by
    simp only [incB, Bool.and_eq_true, decide_eq_true_eq] at hb
    rcases List.mem_cons.1 hx with rfl | hx
    · exact ⟨hb.1.1, hb.1.2⟩
    · have := incB_facts hb.2 x hx
      exact ⟨by omega, this.2⟩
theorem efOf_two {e : Ef} {q : Int} (h : efOf q = some e) (h2 : q = 2) : e.least = 1 ∧ e.most = 1 := by
  subst h2
  have : e = ⟨1, 1, true, false⟩ := by simpa [efOf] using h.symm
  subst this
  exact ⟨rfl, rfl⟩
theorem waive_at {l : List Int} : ∀ {cs : List Cl} {i : Nat}, (waiveL cs l).getD i default = cs.getD i default ∨ (waiveL cs l).getD i default = { cs.getD i default with waived := true } := by
  induction l with
  | nil => intro cs i; exact .inl rfl
  | cons a l ih =>
    intro cs i
    have h : waiveL cs (a :: l) = waiveL (cs.set a.toNat { cs.getD a.toNat default with waived := true }) l := rfl
    rw [h]
    have h2 : (cs.set a.toNat { cs.getD a.toNat default with waived := true }).getD i default = cs.getD i default ∨ (cs.set a.toNat { cs.getD a.toNat default with waived := true }).getD i default = { cs.getD i default with waived := true } := by
      by_cases e : a.toNat = i
      · by_cases hi : i < cs.length
        · right; subst e; simp [List.getD, hi]
        · left; rw [List.set_eq_of_length_le (by omega)]
      · left; simp [List.getD, List.getElem?_set_ne e]
    rcases ih (cs := cs.set a.toNat { cs.getD a.toNat default with waived := true }) (i := i) with h3 | h3
    · rw [h3]; exact h2
    · rw [h3]
      right
      rcases h2 with h2 | h2 <;> rw [h2]
theorem span_at {d : Int} {l : List Int} : ∀ {cs : List Cl} {i : Nat}, (spanL d cs l).getD i default = cs.getD i default ∨ (spanL d cs l).getD i default = { cs.getD i default with after := d } := by
  induction l with
  | nil => intro cs i; exact .inl rfl
  | cons a l ih =>
    intro cs i
    have h : spanL d cs (a :: l) = spanL d (cs.set a.toNat { cs.getD a.toNat default with after := d }) l := rfl
    rw [h]
    have h2 : (cs.set a.toNat { cs.getD a.toNat default with after := d }).getD i default = cs.getD i default ∨ (cs.set a.toNat { cs.getD a.toNat default with after := d }).getD i default = { cs.getD i default with after := d } := by
      by_cases e : a.toNat = i
      · by_cases hi : i < cs.length
        · right; subst e; simp [List.getD, hi]
        · left; rw [List.set_eq_of_length_le (by omega)]
      · left; simp [List.getD, List.getElem?_set_ne e]
    rcases ih (cs := cs.set a.toNat { cs.getD a.toNat default with after := d }) (i := i) with h3 | h3
    · rw [h3]; exact h2
    · rw [h3]
      right
      rcases h2 with h2 | h2 <;> rw [h2]
theorem restB_waived {k : K} {x : Cl} (h : restB k x = true) : restB k { x with waived := true } = true := h
theorem restB_after {k : K} {x : Cl} {d : Int} (hd : 1 ≤ d ∧ d ≤ 400) (h : restB k x = true) : restB k { x with after := d } = true := by
  unfold restB at h ⊢
  rw [Bool.and_eq_true] at h ⊢
  refine ⟨?_, h.2⟩
  exact clauseB_span (x := { x with start := [] }) (k := { k with clauses := [] }) (k' := { k with clauses := [] }) rfl rfl hd h.1
end Go.Proofs.YtlhmgphgnedlkaaGreat
end
section
/- When a patch can be applied; patches that are renumbered. -/
namespace Go.Proofs.YtlhmgphgnedlkaaGreat
open Go.Eng
set_option maxRecDepth 10000
theorem doP_one {cs : List Cl} {p : Pt} (h : p.kind = 1) : doP cs p = cs ++ [p.new] := by unfold doP; rw [if_pos h]
theorem doP_two {cs : List Cl} {p : Pt} (h : p.kind = 2) : doP cs p = cs.set (p.clauses.getD 0 default).toNat p.new := by unfold doP; rw [if_neg (by omega), if_pos h]
theorem doP_five {cs : List Cl} {p : Pt} (h : p.kind = 5) : doP cs p = spanL p.days cs p.clauses := by unfold doP; rw [if_neg (by omega), if_neg (by omega), if_pos h]
theorem doP_else {cs : List Cl} {p : Pt} (h1 : p.kind ≠ 1) (h2 : p.kind ≠ 2) (h5 : p.kind ≠ 5) : doP cs p = waiveL cs p.clauses := by unfold doP; rw [if_neg h1, if_neg h2, if_neg h5]
theorem doP_length (cs : List Cl) (p : Pt) : (doP cs p).length = if p.kind = 1 then cs.length + 1 else cs.length := by
  by_cases h1 : p.kind = 1
  · rw [doP_one h1, if_pos h1]; simp
  · rw [if_neg h1]
    by_cases h2 : p.kind = 2
    · rw [doP_two h2]; simp
    · by_cases h5 : p.kind = 5
      · rw [doP_five h5]; exact spanL_len _ _ _
      · rw [doP_else h1 h2 h5]; exact waiveL_len _ _
theorem fits_two {m : Int} {p : Pt} {e : Ef} (he : efOf p.kind = some e) (hf : fitsB m p e = true) (h : p.kind = 2) : p.clauses.length = 1 ∧ 0 ≤ p.clauses.getD 0 default ∧ p.clauses.getD 0 default < m := by
  obtain ⟨h1, h2⟩ := efOf_two he h
  unfold fitsB at hf
  simp only [Bool.and_eq_true, decide_eq_true_eq] at hf
  have hl : p.clauses.length = 1 := by omega
  have hb := hf.1.1.2
  refine ⟨hl, ?_⟩
  have := incB_facts hb _ (getD_memW (l := p.clauses) (i := 0) (by omega))
  omega
theorem fits_five {m : Int} {p : Pt} {e : Ef} (he : efOf p.kind = some e) (hf : fitsB m p e = true) (h : p.kind = 5) : 1 ≤ p.days ∧ p.days ≤ 400 := by
  rw [h] at he
  have : e = ⟨1, 400, false, true⟩ := by simpa [efOf] using he.symm
  subst this
  unfold fitsB at hf
  simp only [Bool.and_eq_true, decide_eq_true_eq] at hf
  simpa using hf.2
theorem refsB_iff {m i : Int} {x : Cl} : refsB m i x = true ↔ ∀ s ∈ x.start, refB m i s = true := by unfold refsB; rw [List.all_eq_true]
theorem refB_iff {m i : Int} {s : Cnd} : refB m i s = true ↔ 0 ≤ s.clause ∧ s.clause < m ∧ s.clause ≠ i ∧ 1 ≤ s.is ∧ s.is ≤ 4 := by
  unfold refB
  simp only [Bool.and_eq_true, decide_eq_true_eq, bne_iff_ne, and_assoc]
theorem refsB_mono {m n i : Int} {x : Cl} (h : m ≤ n) (hx : refsB m i x = true) : refsB n i x = true := by
  rw [refsB_iff] at hx ⊢
  intro s hs
  have := hx s hs
  rw [refB_iff] at this ⊢
  omega
theorem apply_iff {k : K} (hk : (kValid k).1 = 0) (p : Pt) : (applyR k p).2 = 0 ↔ PV k p k.clauses.length := by
  obtain ⟨b1, b2, b3, b4⟩ := (kValid_iff k).1 hk
  constructor
  · intro h
    rcases applyR_cases k p with ⟨h2, _⟩ | ⟨_, _, h3, h4, e, he, hf⟩
    · exact absurd h h2
    rw [h3] at h4
    obtain ⟨_, _, c3, c4⟩ := (kValid_iff _).1 h4
    dsimp only at c3 c4
    refine ⟨⟨e, he, hf⟩, fun h1 => ?_, fun h2 => ?_⟩
    · rw [doP_one h1] at c3 c4
      rw [List.length_append] at c3 c4
      have := c4 k.clauses.length (by simp)
      have e1 : (k.clauses ++ [p.new]).getD k.clauses.length default = p.new := by simp [List.getD]
      rw [e1] at this
      refine ⟨?_, this.1, ?_⟩
      · simp only [List.length_cons, List.length_nil] at c3; omega
      · have h5 := this.2
        simpa using h5
    · obtain ⟨f1, f2, f3⟩ := fits_two he hf h2
      rw [doP_two h2] at c3 c4
      rw [List.length_set] at c3 c4
      have := c4 (p.clauses.getD 0 default).toNat (by omega)
      have e1 : (k.clauses.set (p.clauses.getD 0 default).toNat p.new).getD (p.clauses.getD 0 default).toNat default = p.new := by
        have : (p.clauses.getD 0 default).toNat < k.clauses.length := by omega
        rw [List.getD_eq_getElem?_getD, List.getElem?_set_self this]
        rfl
      rw [e1] at this
      refine ⟨this.1, ?_⟩
      have h5 := this.2
      rwa [Int.toNat_of_nonneg f2] at h5
  · rintro ⟨⟨e, he, hf⟩, p1, p2⟩
    have hv : (kValid { k with clauses := doP k.clauses p }).1 = 0 := by
      refine (kValid_iff _).2 ⟨b1, b2, ?_, fun i hi => ?_⟩
      · show (doP k.clauses p).length ≤ 400
        rw [doP_length]
        split
        · rename_i h1
          have := (p1 h1).1
          omega
        · exact b3
      · have hi : i < (doP k.clauses p).length := hi
        show restB k ((doP k.clauses p).getD i default) = true ∧ refsB (doP k.clauses p).length i ((doP k.clauses p).getD i default) = true
        have hl := doP_length k.clauses p
        by_cases h1 : p.kind = 1
        · rw [if_pos h1] at hl
          rw [hl] at hi ⊢
          rw [doP_one h1]
          by_cases e1 : i < k.clauses.length
          · have e2 : (k.clauses ++ [p.new]).getD i default = k.clauses.getD i default := by simp [List.getD, List.getElem?_append_left e1]
            rw [e2]
            exact ⟨(b4 i e1).1, refsB_mono (by omega) (b4 i e1).2⟩
          · have e3 : i = k.clauses.length := by omega
            subst e3
            have e2 : (k.clauses ++ [p.new]).getD k.clauses.length default = p.new := by simp [List.getD]
            rw [e2]
            obtain ⟨_, q1, q2⟩ := p1 h1
            exact ⟨q1, by simpa using q2⟩
        · rw [if_neg h1] at hl
          rw [hl] at hi ⊢
          obtain ⟨r1, r2⟩ := b4 i hi
          by_cases h2 : p.kind = 2
          · obtain ⟨f1, f2, f3⟩ := fits_two he hf h2
            obtain ⟨q1, q2⟩ := p2 h2
            rw [doP_two h2]
            by_cases e1 : (p.clauses.getD 0 default).toNat = i
            · have e2 : (k.clauses.set (p.clauses.getD 0 default).toNat p.new).getD i default = p.new := by
                rw [e1, List.getD_eq_getElem?_getD, List.getElem?_set_self hi]
                rfl
              rw [e2]
              refine ⟨q1, ?_⟩
              rwa [← e1, Int.toNat_of_nonneg f2]
            · generalize (p.clauses.getD 0 default).toNat = z at *
              have e2 : (k.clauses.set z p.new).getD i default = k.clauses.getD i default := by simp [List.getD, List.getElem?_set_ne e1]
              rw [e2]
              exact ⟨r1, r2⟩
          · by_cases h5 : p.kind = 5
            · have hd := fits_five he hf h5
              rw [doP_five h5]
              rcases span_at (d := p.days) (l := p.clauses) (cs := k.clauses) (i := i) with e1 | e1 <;> rw [e1]
              · exact ⟨r1, r2⟩
              · exact ⟨restB_after hd r1, r2⟩
            · rw [doP_else h1 h2 h5]
              rcases waive_at (l := p.clauses) (cs := k.clauses) (i := i) with e1 | e1 <;> rw [e1]
              · exact ⟨r1, r2⟩
              · exact ⟨restB_waived r1, r2⟩
    have n3 : ¬ (p.kind = 1 ∧ k.clauses.length = 400) := fun ⟨h1, h2⟩ => by have := (p1 h1).1; omega
    unfold applyR
    rw [if_neg (by simpa using hk), he]
    dsimp only
    rw [if_neg (by rw [hf]; simp), if_neg n3, if_neg (by simpa using hv)]
theorem apply_eq {k : K} {p : Pt} (h : (applyR k p).2 = 0) : (applyR k p).1 = { k with clauses := doP k.clauses p } := by
  rcases applyR_cases k p with ⟨h2, _⟩ | ⟨_, _, h3, _⟩
  · exact absurd h h2
  · exact h3
theorem apply_valid {k : K} {p : Pt} (h : (applyR k p).2 = 0) : (kValid (applyR k p).1).1 = 0 := by
  rcases applyR_cases k p with ⟨h2, _⟩ | ⟨_, _, _, h3, _⟩
  · exact absurd h h2
  · exact h3
theorem incB_shift {n d m : Int} (hd : 0 ≤ d) (hn : n ≤ m) : ∀ {l : List Int} {a : Int}, incB m a l = true → incB (m + d) (shI n d a) (l.map (shI n d)) = true
  | [], _, _ => rfl
  | x :: l, a, h => by
    simp only [incB, Bool.and_eq_true, decide_eq_true_eq] at h
    show incB (m + d) (shI n d a) (shI n d x :: l.map (shI n d)) = true
    simp only [incB, Bool.and_eq_true, decide_eq_true_eq]
    exact ⟨⟨shI_lt hd h.1.1, by unfold shI; split <;> omega⟩, incB_shift hd hn h.2⟩
theorem incB_weak {m a b : Int} (h : b ≤ a) : ∀ {l : List Int}, incB m a l = true → incB m b l = true
  | [], _ => rfl
  | x :: l, h2 => by
    simp only [incB, Bool.and_eq_true, decide_eq_true_eq] at h2 ⊢
    exact ⟨⟨by omega, h2.1.2⟩, h2.2⟩
theorem zeroCl_start {x : Cl} (h : zeroCl x = true) : x.start = [] := by
  unfold zeroCl at h
  simp only [Bool.and_eq_true] at h
  have : (x.start.length : Int) = 0 := by simpa using h.1.1.1.1.1.1.1.1.1.1.1.1.1.1
  exact List.length_eq_zero_iff.1 (by omega)
theorem shCl_nil {x : Cl} {n d : Int} (h : x.start = []) : shCl n d x = x := by
  unfold shCl
  rw [h]
  cases x
  simp only at h
  subst h
  rfl
theorem restB_sh {k : K} {x : Cl} (n d : Int) (h : restB k x = true) : restB k (shCl n d x) = true := by
  unfold restB at h ⊢
  rw [Bool.and_eq_true] at h ⊢
  refine ⟨h.1, ?_⟩
  have := h.2
  simpa [shCl] using this
theorem refsB_sh {n d m i : Int} {x : Cl} (hd : 0 ≤ d) (hn : n ≤ m) (h : refsB m i x = true) : refsB (m + d) (shI n d i) (shCl n d x) = true := by
  rw [refsB_iff] at h ⊢
  intro s hs
  obtain ⟨t, ht, rfl⟩ := List.mem_map.1 hs
  have := h t ht
  rw [refB_iff] at this ⊢
  obtain ⟨a1, a2, a3, a4, a5⟩ := this
  refine ⟨?_, ?_, shI_ne hd a3, a4, a5⟩
  · show 0 ≤ shI n d t.clause
    unfold shI; split <;> omega
  · show shI n d t.clause < m + d
    unfold shI; split <;> omega
theorem PV_sh {k : K} {p : Pt} {m n d : Nat} (hn : n ≤ m) (hm : p.kind = 1 → m + d < 400) (h : PV k p m) : PV k (renR p n d) (m + d) := by
  obtain ⟨⟨e, he, hf⟩, p1, p2⟩ := h
  have hd : (0 : Int) ≤ d := by omega
  have hnm : (n : Int) ≤ m := by omega
  refine ⟨⟨e, he, ?_⟩, fun h1 => ?_, fun h2 => ?_⟩
  · unfold fitsB at hf ⊢
    simp only [Bool.and_eq_true] at hf ⊢
    obtain ⟨⟨⟨⟨f1, f2⟩, f3⟩, f4⟩, f5⟩ := hf
    refine ⟨⟨⟨⟨by simpa [renR] using f1, by simpa [renR] using f2⟩, ?_⟩, ?_⟩, f5⟩
    · have := incB_shift (n := n) hd hnm f3
      rw [Int.natCast_add]
      refine incB_weak (a := shI n d (-1)) ?_ this
      unfold shI; split <;> omega
    · rw [Bool.or_eq_true] at f4 ⊢
      rcases f4 with f4 | f4
      · exact .inl f4
      · right
        show zeroCl (shCl n d p.new) = true
        rw [shCl_nil (zeroCl_start f4)]
        exact f4
  · have h1 : p.kind = 1 := h1
    obtain ⟨q1, q2, q3⟩ := p1 h1
    refine ⟨hm h1, restB_sh _ _ q2, ?_⟩
    have := refsB_sh (n := n) hd (show (n : Int) ≤ m + 1 by omega) q3
    have e1 : shI n d (m : Int) = ((m + d : Nat) : Int) := by unfold shI; rw [if_pos hnm]; omega
    rw [e1] at this
    have e2 : ((m : Int) + 1 + d) = (((m + d : Nat) : Int) + 1) := by omega
    rwa [e2] at this
  · have h2 : p.kind = 2 := h2
    obtain ⟨q2, q3⟩ := p2 h2
    obtain ⟨f1, f2, f3⟩ := fits_two he hf h2
    refine ⟨restB_sh _ _ q2, ?_⟩
    have := refsB_sh (n := n) hd hnm q3
    have e1 : (renR p n d).clauses.getD 0 default = shI n d (p.clauses.getD 0 default) := by
      show (p.clauses.map (shI n d)).getD 0 default = _
      obtain ⟨a, ha⟩ := List.length_eq_one_iff.1 f1
      rw [ha]; rfl
    rw [e1]
    have e2 : ((m + d : Nat) : Int) = (m : Int) + d := by omega
    rwa [e2]
end Go.Proofs.YtlhmgphgnedlkaaGreat
end
section
/- Patches one after the other; merged lists. -/
namespace Go.Proofs.YtlhmgphgnedlkaaGreat
open Go.Eng
set_option maxRecDepth 10000
noncomputable def allTo (k : K) (l : List Pt) : Nat → K × Int
  | 0 => (k, 0)
  | i + 1 => if (allTo k l i).2 ≠ 0 then allTo k l i else applyR (allTo k l i).1 (l.getD i default)
def addP (p : Pt) : Bool := p.kind == 1
def addsN (l : List Pt) (i : Nat) : Nat := (l.take i).countP addP
theorem addsN_succ {l : List Pt} {i : Nat} (hi : i < l.length) : addsN l (i + 1) = if (l.getD i default).kind = 1 then addsN l i + 1 else addsN l i := by
  unfold addsN
  have e : l.getD i default = l[i] := by simp [List.getD, hi]
  rw [List.take_succ_eq_append_getElem hi, List.countP_append, e, List.countP_singleton]
  unfold addP
  by_cases h : l[i].kind = 1
  · rw [if_pos h, if_pos (by simpa using h)]
  · rw [if_neg h, if_neg (by simpa using h), Nat.add_zero]
theorem addsN_le (l : List Pt) (i : Nat) : addsN l i ≤ l.length := by
  unfold addsN
  have := List.countP_le_length (p := addP) (l := l.take i)
  rw [List.length_take] at this
  omega
theorem addsN_mono {l : List Pt} {i j : Nat} (h : i ≤ j) (hj : j ≤ l.length) : addsN l i ≤ addsN l j := by
  induction j with
  | zero => have : i = 0 := by omega
            rw [this]; exact Nat.le_refl _
  | succ j ih =>
    by_cases e : i = j + 1
    · rw [e]; exact Nat.le_refl _
    · have := ih (by omega) (by omega)
      rw [addsN_succ (by omega)]
      split <;> omega
theorem allTo_stop {k : K} {l : List Pt} {i : Nat} (h : (allTo k l i).2 ≠ 0) : ∀ j, i ≤ j → allTo k l j = allTo k l i := by
  intro j hj
  induction j with
  | zero => have : i = 0 := by omega
            rw [this]
  | succ j ih =>
    by_cases e : i = j + 1
    · rw [e]
    · have h2 := ih (by omega)
      rw [allTo, if_pos (by rw [h2]; exact h), h2]
theorem allTo_before {k : K} {l : List Pt} {i : Nat} (h : (allTo k l i).2 = 0) {j : Nat} (hj : j ≤ i) : (allTo k l j).2 = 0 := by
  by_cases h0 : (allTo k l j).2 = 0
  · exact h0
  · rw [allTo_stop h0 i hj] at h; exact absurd h h0
theorem allTo_step {k : K} {l : List Pt} {i : Nat} (h : (allTo k l i).2 = 0) : allTo k l (i + 1) = applyR (allTo k l i).1 (l.getD i default) := by rw [allTo, if_neg (by simpa using h)]
structure AllF (k : K) (l : List Pt) (i : Nat) : Prop where
  ok : (allTo k l i).2 = 0
  valid : (kValid (allTo k l i).1).1 = 0
  len : (allTo k l i).1.clauses.length = k.clauses.length + addsN l i
  fr : (allTo k l i).1 = { k with clauses := (allTo k l i).1.clauses }
theorem allTo_ok {k : K} (hk : (kValid k).1 = 0) {l : List Pt} : ∀ {i : Nat}, i ≤ l.length → (∀ j, j < i → PV k (l.getD j default) (k.clauses.length + addsN l j)) → AllF k l i
  | 0, _, _ => ⟨rfl, hk, by simp [allTo, addsN], rfl⟩
  | i + 1, hi, h => by
    obtain ⟨a1, a2, a3, a4⟩ := allTo_ok hk (i := i) (by omega) fun j hj => h j (by omega)
    have hp := h i (by omega)
    rw [← a3] at hp
    have hp2 : PV (allTo k l i).1 (l.getD i default) (allTo k l i).1.clauses.length := by rw [a4]; exact hp
    have h0 := (apply_iff a2 _).2 hp2
    have he := apply_eq h0
    have hv := apply_valid h0
    rw [← allTo_step a1] at h0 he hv
    refine ⟨h0, hv, ?_, ?_⟩
    · rw [he, addsN_succ (by omega)]
      show (doP _ _).length = _
      rw [doP_length, a3]
      split <;> omega
    · rw [he]
      show ({ (allTo k l i).1 with clauses := _ } : K) = { k with clauses := _ }
      rw [a4]
theorem allTo_all {k : K} (hk : (kValid k).1 = 0) {l : List Pt} : ∀ {i : Nat}, i ≤ l.length → (allTo k l i).2 = 0 → AllF k l i ∧ ∀ j, j < i → PV k (l.getD j default) (k.clauses.length + addsN l j)
  | 0, _, _ => ⟨⟨rfl, hk, by simp [allTo, addsN], rfl⟩, fun j hj => absurd hj (Nat.not_lt_zero _)⟩
  | i + 1, hi, h => by
    have h0 := allTo_before h (show i ≤ i + 1 by omega)
    obtain ⟨⟨a1, a2, a3, a4⟩, a5⟩ := allTo_all hk (i := i) (by omega) h0
    rw [allTo_step a1] at h
    have hp := (apply_iff a2 _).1 h
    rw [a3] at hp
    have hp2 : PV k (l.getD i default) (k.clauses.length + addsN l i) := by rw [a4] at hp; exact hp
    have hall : ∀ j, j < i + 1 → PV k (l.getD j default) (k.clauses.length + addsN l j) := fun j hj => by
      by_cases e : j = i
      · subst e; exact hp2
      · exact a5 j (by omega)
    exact ⟨allTo_ok hk hi hall, hall⟩
def mergL (n : Nat) (left right : List Pt) : List Pt := left.map (fun p => renR p n 0) ++ right.map (fun p => renR p n (addsN left left.length))
theorem mergL_len (n : Nat) (left right : List Pt) : (mergL n left right).length = left.length + right.length := by simp [mergL]
theorem mergL_left {n : Nat} {left right : List Pt} {j : Nat} (h : j < left.length) : (mergL n left right).getD j default = left.getD j default := by
  unfold mergL
  have e : left.map (fun p => renR p n 0) = left := by
    have : (fun p => renR p n 0) = id := funext fun p => renR_zero p n
    rw [this, List.map_id]
  rw [e]
  generalize List.map _ right = r
  simp [List.getD, List.getElem?_append_left h]
theorem mergL_right {n : Nat} {left right : List Pt} {j : Nat} (h : j < right.length) : (mergL n left right).getD (left.length + j) default = renR (right.getD j default) n (addsN left left.length) := by
  unfold mergL
  have e : (left.map (fun p => renR p n 0)).length = left.length := List.length_map _
  generalize left.map (fun p => renR p n 0) = L at *
  rw [← e]
  simp [List.getD, h]
theorem addsN_mergL_left {n : Nat} {left right : List Pt} : ∀ {j : Nat}, j ≤ left.length → addsN (mergL n left right) j = addsN left j
  | 0, _ => rfl
  | j + 1, h => by
    rw [addsN_succ (by rw [mergL_len]; omega), addsN_succ (by omega), addsN_mergL_left (j := j) (by omega), mergL_left (by omega)]
theorem addsN_mergL_right {n : Nat} {left right : List Pt} : ∀ {j : Nat}, j ≤ right.length → addsN (mergL n left right) (left.length + j) = addsN left left.length + addsN right j
  | 0, _ => by rw [Nat.add_zero, addsN_mergL_left (Nat.le_refl _)]; rfl
  | j + 1, h => by
    rw [← Nat.add_assoc, addsN_succ (by rw [mergL_len]; omega), addsN_succ (by omega), addsN_mergL_right (j := j) (by omega), mergL_right (by omega)]
    show (if (right.getD j default).kind = 1 then _ else _) = _
    split <;> omega
theorem merge_PV {k : K} (hk : (kValid k).1 = 0) {left right : List Pt} (hl : (allTo k left left.length).2 = 0) (hr : (allTo k right right.length).2 = 0) (hm : k.clauses.length + addsN left left.length + addsN right right.length ≤ 400) :
    ∀ j, j < (mergL k.clauses.length left right).length → PV k ((mergL k.clauses.length left right).getD j default) (k.clauses.length + addsN (mergL k.clauses.length left right) j) := by
  obtain ⟨-, pl⟩ := allTo_all hk (Nat.le_refl _) hl
  obtain ⟨-, pr⟩ := allTo_all hk (Nat.le_refl _) hr
  intro j hj
  rw [mergL_len] at hj
  by_cases h : j < left.length
  · rw [mergL_left h, addsN_mergL_left (by omega)]
    exact pl j h
  · have e : j = left.length + (j - left.length) := by omega
    generalize j - left.length = t at *
    subst e
    rw [mergL_right (by omega), addsN_mergL_right (by omega)]
    have := PV_sh (n := k.clauses.length) (d := addsN left left.length) (by omega) (fun h1 => ?_) (pr t (by omega))
    · have e : k.clauses.length + addsN right t + addsN left left.length = k.clauses.length + (addsN left left.length + addsN right t) := by omega
      rwa [e] at this
    · have h2 := addsN_succ (l := right) (i := t) (by omega)
      rw [if_pos h1] at h2
      have h3 := addsN_mono (l := right) (i := t + 1) (j := right.length) (by omega) (Nat.le_refl _)
      omega
end Go.Proofs.YtlhmgphgnedlkaaGreat
end
section
/- A state that is migrated by patches one after the other: plain. -/
namespace Go.Proofs.YtlhmgphgnedlkaaGreat
open Go.Eng
set_option maxRecDepth 10000
theorem spanM_paused (d : Int) (old : Cl) (m : Mk) : (spanM d old m).paused = m.paused := by unfold spanM; split <;> rfl
theorem runs_void {m : Mk} (hr : runsM m = true) : runsM (voidM m) = false := by
  unfold runsM
  rw [voidM_run hr]
  rfl
theorem chgM_paused {k : K} {p : Pt} {hold : List Int} {x : Nat} {m : Mk} (hr : runsM m = true) (h2 : p.kind ≠ 2) (hb : runsM (chgM k p hold x m) = true) : (chgM k p hold x m).paused = m.paused := by
  have hv := runs_void hr
  unfold chgM at hb ⊢
  split
  · exact spanM_paused _ _ _
  · rename_i h5
    rw [if_neg h5, if_neg h2] at hb
    first | rw [if_neg h2] | skip
    split
    · rename_i h1
      rw [if_pos h1] at hb
      unfold addM at hb ⊢
      split
      · rename_i hw
        rw [if_pos hw] at hb
        rw [hv] at hb; cases hb
      · rfl
    · rename_i h1
      rw [if_neg h1, hv] at hb
      cases hb
theorem keep_mark {k : K} {p : Pt} (h : PFacts k p) {s : St} (hv : validS k s = true) {i : Nat} (hi : i < k.clauses.length) :
    (endedM (s.marks.getD i default) = true → (migS k p s).marks.getD i default = s.marks.getD i default) ∧
    (((migS k p s).marks.getD i default).status = 4 → (s.marks.getD i default).status = 4) ∧
    (runsM (s.marks.getD i default) = true → ¬ (p.kind = 2 ∧ namedB p i = true) → ((migS k p s).marks.getD i default).got = (s.marks.getD i default).got ∧ ((migS k p s).marks.getD i default).bearer = (s.marks.getD i default).bearer ∧
      (runsM ((migS k p s).marks.getD i default) = true → ((migS k p s).marks.getD i default).paused = (s.marks.getD i default).paused) ∧ (runsM ((migS k p s).marks.getD i default) = false → namedB p i = true)) := by
  obtain ⟨g1, g2, g3, g4, g5⟩ := mig_keeps h hv hi
  refine ⟨g1, g5.1, fun hr hn => ?_⟩
  have hlen := h.len
  have hi' : i < (applyR k p).1.clauses.length := by split at hlen <;> omega
  have ho : otherB k p i = false := by
    unfold otherB
    cases h1 : namedB p i with
    | false => simp
    | true =>
      have h2 : p.kind ≠ 2 := fun h2 => hn ⟨h2, h1⟩
      simp [h2]
  obtain ⟨c1, c2⟩ := g2 hr ho
  refine ⟨c1, c2, ?_⟩
  cases h1 : namedB p i with
  | false =>
    have e := g3 h1 (by have := runsM_iff.1 hr; omega)
    rw [e]
    exact ⟨fun _ => rfl, fun h => by rw [hr] at h; cases h⟩
  | true =>
    refine ⟨fun hb => ?_, fun _ => rfl⟩
    have h2 : p.kind ≠ 2 := fun h2 => hn ⟨h2, h1⟩
    have hst := (migW_rel (k := k) (p := p) (s := s)).mark i
    have hat := mig_at h hv hi
    rw [migS_mark hi'] at hb ⊢
    rcases hat with ⟨q1, _⟩ | ⟨_, q2⟩
    · rw [q1] at h1; cases h1
    · have hst : (migW k p s).mark i = migM k p s i ∨ (migM k p s i).status = 0 := by
        rcases hst with e | ⟨_, e1, _⟩
        · exact .inl e
        · exact .inr e1
      rcases hst with e | e1
      · rw [e, q2] at hb ⊢
        exact chgM_paused hr h2 hb
      · exfalso
        rw [q2] at e1
        exact (chgM_runs hr).1 e1
noncomputable def stMig (k : K) (l : List Pt) (s : St) : Nat → St
  | 0 => s
  | i + 1 => migS (allTo k l i).1 (l.getD i default) (stMig k l s i)
theorem allTo_W {k : K} (hk : kW k) {l : List Pt} (hl : ∀ p ∈ l, ptW p) : ∀ {i : Nat}, i ≤ l.length → kW (allTo k l i).1
  | 0, _ => hk
  | i + 1, hi => by
    have ih := allTo_W hk hl (i := i) (by omega)
    rw [allTo]
    split
    · exact ih
    · exact applyR_W ih (hl _ (getD_memW (by omega)))
theorem stMig_valid {k : K} (hk : kW k) {l : List Pt} (hl : ∀ p ∈ l, ptW p) {s : St} (hs : validS k s = true) (h : (allTo k l l.length).2 = 0) : ∀ {i : Nat}, i ≤ l.length → validS (allTo k l i).1 (stMig k l s i) = true
  | 0, _ => hs
  | i + 1, hi => by
    have ih := stMig_valid hk hl hs h (i := i) (by omega)
    have h1 := allTo_before h hi
    have h0 := allTo_before h (show i ≤ l.length by omega)
    rw [allTo_step h0] at h1 ⊢
    exact migS_valid (allTo_W hk hl (by omega)) (hl _ (getD_memW (by omega))) h1 ih
end Go.Proofs.YtlhmgphgnedlkaaGreat
end
section
/- The order of amendments, in plain Lean. -/
namespace Go.Proofs.YtlhmgphgnedlkaaGreat
open Go.Eng
set_option maxRecDepth 10000
section
variable {α : Type}
end
end Go.Proofs.YtlhmgphgnedlkaaGreat
end
section
/- slices.SortFunc over amendments with their places: the library's functions as they lie in the program. -/
namespace Go.Proofs.YtlhmgphgnedlkaaGreat
open Go.Eng Go.Shelf Go.Sort Go.RowKit
set_option maxRecDepth 10000
end Go.Proofs.YtlhmgphgnedlkaaGreat
end
section
/- The library's sort at a row of the call's own: a contract. -/
namespace Go.Eng
open Go.Shelf Go.Sort Go.RowKit Go.Proofs
section
variable {α : Type} [Inhabited α] {enc : α → List Value} {k : Nat} {w : World} {blk m : Nat} {d : Array α} {os : Array Obj}
end
end Go.Eng
end
section
/- Contracts: cmp; package version: compare, Order. -/
namespace Go.Proofs.YtlhmgphgnedlkaaGreat
open Go.Eng
set_option maxRecDepth 10000
end Go.Proofs.YtlhmgphgnedlkaaGreat
end
section
/- Contracts: package version: the order. -/
namespace Go.Proofs.YtlhmgphgnedlkaaGreat
open Go.Eng Go.Sort
set_option maxRecDepth 10000
end Go.Proofs.YtlhmgphgnedlkaaGreat
end
section
/- Contracts: package version: same, check, copied, counting. -/
namespace Go.Proofs.YtlhmgphgnedlkaaGreat
open Go.Eng
set_option maxRecDepth 10000
def listB {α : Type} (f : α → α → Bool) : List α → List α → Bool
  | [], [] => true
  | x :: l, y :: m => f x y && listB f l m
  | _, _ => false
theorem listB_at {α : Type} [Inhabited α] {f : α → α → Bool} : ∀ {l m : List α}, listB f l m = true ↔ l.length = m.length ∧ ∀ i, i < l.length → f (l.getD i default) (m.getD i default) = true
  | [], [] => by simp [listB]
  | [], y :: m => by simp [listB]
  | x :: l, [] => by simp [listB]
  | x :: l, y :: m => by
    simp only [listB, Bool.and_eq_true, listB_at, List.length_cons]
    constructor
    · rintro ⟨h1, h2, h3⟩
      refine ⟨by omega, fun i hi => ?_⟩
      cases i with
      | zero => exact h1
      | succ i => exact h3 i (by omega)
    · rintro ⟨h1, h2⟩
      exact ⟨h2 0 (by omega), by omega, fun i hi => h2 (i + 1) (by omega)⟩
theorem listB_no {α : Type} [Inhabited α] {f : α → α → Bool} {l m : List α} (h : l.length ≠ m.length ∨ ∃ i, i < l.length ∧ f (l.getD i default) (m.getD i default) = false) : listB f l m = false := by
  rw [Bool.eq_false_iff]
  intro hb
  obtain ⟨h1, h2⟩ := listB_at.1 hb
  rcases h with h | ⟨i, hi, h⟩
  · exact h h1
  · rw [h2 i hi] at h; cases h
theorem listB_iff {α : Type} {f : α → α → Bool} (hf : ∀ x y, f x y = true ↔ x = y) : ∀ {l m : List α}, listB f l m = true ↔ l = m
  | [], [] => by simp [listB]
  | [], y :: m => by simp [listB]
  | x :: l, [] => by simp [listB]
  | x :: l, y :: m => by simp only [listB, Bool.and_eq_true, listB_iff hf, hf, List.cons.injEq]
def cndB (a b : Cnd) : Bool := a.clause == b.clause && a.is == b.is
theorem cndB_iff (a b : Cnd) : cndB a b = true ↔ a = b := by
  cases a; cases b; simp [cndB]
def clB (a b : Cl) : Bool := listB cndB a.start b.start && a.kind == b.kind && a.role == b.role && a.act == b.act && a.need == b.need && a.after == b.after && a.grace == b.grace && a.business == b.business && a.final == b.final && a.pause == b.pause && a.resume == b.resume && (a.value.1 == b.value.1 && a.value.2 == b.value.2) && a.unit == b.unit && a.to == b.to && a.waived == b.waived
theorem clB_iff (a b : Cl) : clB a b = true ↔ a = b := by
  obtain ⟨a1, a2, a3, a4, a5, a6, a7, a8, a9, a10, a11, ⟨a12, a13⟩, a14, a15, a16⟩ := a
  obtain ⟨b1, b2, b3, b4, b5, b6, b7, b8, b9, b10, b11, ⟨b12, b13⟩, b14, b15, b16⟩ := b
  simp only [clB, Bool.and_eq_true, listB_iff cndB_iff, beq_iff_eq, Cl.mk.injEq, Prod.mk.injEq]
  constructor <;> (intro h; simp only [h, and_self])
theorem eqCnds_ok (l m : List Cnd) (hl : l.length ≤ 1000000) : Does Tryz.prog 124 [cndsV l, cndsV m] (.c (.bool (listB cndB l m))) := by
  refine Does.mk (fun _ => false) TT_ok Tryz.func124 rfl (by kernel_rfl) Tryz.ntmps124 rfl rfl fun E hT hE hN hR => ?_
  have hm := mixO hE
  (repeat (first | refine XK.n ?_ | refine XK.a ?_ | refine XK.b ?_)); refine XK.cond rfl (fun h1 => ?_) (fun h1 => ?_) <;> (try simp at h1)
  · (repeat (first | refine XK.n ?_ | refine XK.a ?_ | refine XK.b ?_))
    (first | refine XK.out rfl rfl rfl ?_ | refine XK.outN rfl rfl rfl ?_)
    exact cB (listB_no (.inl (by omega))).symm
  (repeat (first | refine XK.n ?_ | refine XK.a ?_ | refine XK.b ?_))
  refine XK.loop (ι := Nat) (fun i => ST.of [(0, cndsV l), (1, cndsV m), (11, cndsV l), (12, .c (.int .i64 l.length)), (13, .c (.int .i64 i))] [] 1000 26 (fun _ => false))
    (fun i => i ≤ l.length ∧ ∀ j, j < i → cndB (l.getD j default) (m.getD j default) = true) (fun i => l.length - i) 0 ⟨Nat.zero_le _, fun j hj => absurd hj (Nat.not_lt_zero _)⟩ (Weak.of hN rfl rfl rfl frI frI) fun i hi => ?_
  obtain ⟨hi, hj⟩ := hi
  (repeat (first | refine XK.n ?_ | refine XK.a ?_ | refine XK.b ?_)); refine XK.cond rfl (fun hlt => ?_) (fun hlt => ?_) <;> (try simp at hlt)
  · have fx : l.getD (i : Int).toNat default = l.getD i default := rfl
    have fy : m.getD (i : Int).toNat default = m.getD i default := rfl
    have hb : cndB (l.getD i default) (m.getD i default) = ((l.getD i default).clause == (m.getD i default).clause && (l.getD i default).is == (m.getD i default).is) := rfl
    (repeat (first | refine XK.n ?_ | refine XK.a ?_ | refine XK.b ?_))
    rw [fx, fy]
    (repeat (first | refine XK.n ?_ | refine XK.a ?_ | refine XK.b ?_)); refine XK.cond rfl (fun h2 => ?_) (fun h2 => ?_)
    · (repeat (first | refine XK.n ?_ | refine XK.a ?_ | refine XK.b ?_))
      (first | refine XK.out rfl rfl rfl ?_ | refine XK.outN rfl rfl rfl ?_)
      refine cB (listB_no (.inr ⟨i, hlt, ?_⟩)).symm
      rw [hb]
      simp only [Bool.not_eq_true'] at h2
      exact h2
    · (repeat (first | refine XK.n ?_ | refine XK.a ?_ | refine XK.b ?_))
      refine XK.inv ⟨i + 1, ⟨hlt, fun j hj' => ?_⟩, (Weak.of hN rfl rfl rfl frI frI), by omega⟩
      by_cases e : j = i
      · subst e; rw [hb]; simpa using h2
      · exact hj j (by omega)
  · (repeat (first | refine XK.n ?_ | refine XK.a ?_ | refine XK.b ?_))
    (first | refine XK.out rfl rfl rfl ?_ | refine XK.outN rfl rfl rfl ?_)
    exact cB (listB_at.2 ⟨by omega, fun j hj' => hj j (by omega)⟩).symm
end Go.Proofs.YtlhmgphgnedlkaaGreat
end
