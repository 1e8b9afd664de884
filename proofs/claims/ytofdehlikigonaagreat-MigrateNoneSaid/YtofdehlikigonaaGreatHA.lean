import Derived.Test.YtofdehlikigonaaGreatH6
import Derived.Test.YtofdehlikigonaaGreatH7
section
/- Plain laws of migrated marks: what is kept (MigrateKeeps, MigrateFails). -/
namespace Go.Proofs.YtofdehlikigonaaGreat
open Go.Eng
set_option maxRecDepth 10000
set_option linter.unusedSimpArgs false
set_option linter.unusedVariables false
theorem voidM_same {m : Mk} (h0 : m.status ≠ 0) (hr : runsM m = false) : voidM m = m := by
  unfold voidM
  rw [if_neg]
  rw [hr, Bool.or_false]
  simpa using h0
theorem voidM_got (m : Mk) : (voidM m).got = m.got ∧ (voidM m).bearer = m.bearer := by
  unfold voidM
  split <;> exact ⟨rfl, rfl⟩
theorem voidM_run {m : Mk} (hr : runsM m = true) : (voidM m).status = 5 := by
  unfold voidM
  rw [if_pos (by rw [hr, Bool.or_true])]
  rfl
theorem voidM_idle {m : Mk} (h : m.status = 0) : (voidM m).status = 5 := by
  unfold voidM
  rw [if_pos (by rw [h]; rfl)]
  rfl
theorem spanM_ne {d : Int} {old : Cl} {m : Mk} (h : m.status ≠ 1) : spanM d old m = m := if_neg h
theorem spanM_facts (d : Int) (old : Cl) (m : Mk) : (spanM d old m).status = m.status ∧ (spanM d old m).got = m.got ∧ (spanM d old m).bearer = m.bearer := by
  unfold spanM
  split <;> exact ⟨rfl, rfl, rfl⟩
theorem contM_facts (old next : Cl) (m : Mk) : ((contM old next m).status = 3 ∨ (contM old next m).status = m.status ∨ (contM old next m).status = 1) ∧ (contM old next m).got = m.got ∧ (contM old next m).bearer = m.bearer := by
  unfold contM
  split
  · exact ⟨.inl rfl, rfl, rfl⟩
  · split
    · exact ⟨.inr (.inl rfl), rfl, rfl⟩
    · split
      · exact ⟨.inr (.inr rfl), rfl, rfl⟩
      · exact ⟨.inr (.inl rfl), rfl, rfl⟩
theorem chgM_ended {k : K} {p : Pt} {hold : List Int} {x : Nat} {m : Mk} (h0 : m.status ≠ 0) (hr : runsM m = false) : chgM k p hold x m = m := by
  unfold chgM
  split
  · refine spanM_ne fun e => ?_
    rw [runsM_iff.2 (.inl e)] at hr; cases hr
  · split
    · unfold replM
      split
      · exact voidM_same h0 hr
      · first | rfl | rw [if_pos hr]
    · split
      · unfold addM
        split
        · exact voidM_same h0 hr
        · rfl
      · exact voidM_same h0 hr
theorem chgM_runs {k : K} {p : Pt} {hold : List Int} {x : Nat} {m : Mk} (hr : runsM m = true) : (chgM k p hold x m).status ≠ 0 ∧ (chgM k p hold x m).status ≠ 4 ∧
    (¬ (p.kind = 2 ∧ p.new.kind ≠ (clAt k x).kind ∧ p.new.waived = false) → (chgM k p hold x m).got = m.got ∧ (chgM k p hold x m).bearer = m.bearer) := by
  have hs := runsM_iff.1 hr
  have hv := voidM_run hr
  have hg := voidM_got m
  unfold chgM
  split
  · obtain ⟨a1, a2, a3⟩ := spanM_facts p.days (clAt k x) m
    exact ⟨by omega, by omega, fun _ => ⟨a2, a3⟩⟩
  · split
    · rename_i h2
      unfold replM
      split
      · exact ⟨by omega, by omega, fun _ => hg⟩
      · rename_i hw
        rw [if_neg (by rw [hr]; simp)]
        split
        · obtain ⟨a1, a2, a3⟩ := contM_facts (clAt k x) p.new m
          exact ⟨by omega, by omega, fun _ => ⟨a2, a3⟩⟩
        · rename_i hk
          exact ⟨by show (1 : Int) ≠ 0; omega, by show (1 : Int) ≠ 4; omega, fun h => absurd ⟨h2, hk, by simpa using hw⟩ h⟩
    · split
      · unfold addM
        split
        · exact ⟨by omega, by omega, fun _ => hg⟩
        · exact ⟨by omega, by omega, fun _ => ⟨rfl, rfl⟩⟩
      · exact ⟨by omega, by omega, fun _ => hg⟩
theorem chgM_idle {k : K} {p : Pt} {hold : List Int} {x : Nat} {m : Mk} (h : m.status = 0) : (chgM k p hold x m).status = 0 ∨ (chgM k p hold x m).status = 5 := by
  have hn : runsM m = false := by unfold runsM; rw [h]; rfl
  have hv := voidM_idle h
  unfold chgM
  split
  · rw [spanM_ne (by omega)]; exact .inl h
  · split
    · unfold replM
      split
      · exact .inr hv
      · first | exact .inl h | (rw [if_pos hn]; exact .inl h)
    · split
      · unfold addM
        split
        · exact .inr hv
        · exact .inl h
      · exact .inr hv
/-- Whether one of the first clauses of a patch is this one. -/
def namedN (p : Pt) (i : Nat) : Nat → Bool
  | 0 => false
  | j + 1 => namedN p i j || p.clauses.getD j default == (i : Int)
theorem namedN_iff {p : Pt} {i : Nat} : ∀ {j : Nat}, namedN p i j = true ↔ ∃ q, q < j ∧ p.clauses.getD q default = (i : Int)
  | 0 => by simp [namedN]
  | j + 1 => by
    rw [namedN, Bool.or_eq_true, namedN_iff, beq_iff_eq]
    constructor
    · rintro (⟨q, h1, h2⟩ | h)
      · exact ⟨q, by omega, h2⟩
      · exact ⟨j, by omega, h⟩
    · rintro ⟨q, h1, h2⟩
      by_cases e : q = j
      · subst e; exact .inr h2
      · exact .inl ⟨q, by omega, h2⟩
def namedB (p : Pt) (i : Nat) : Bool := namedN p i p.clauses.length
def otherB (k : K) (p : Pt) (i : Nat) : Bool := namedB p i && p.kind == 2 && p.new.kind != (clAt k i).kind && !p.new.waived
theorem mig_at {k : K} {p : Pt} (h : PFacts k p) {s : St} (hv : validS k s = true) {i : Nat} (hi : i < k.clauses.length) :
    (namedB p i = false ∧ migM k p s i = s.marks.getD i default) ∨ (namedB p i = true ∧ migM k p s i = chgM k p s.holders i (s.marks.getD i default)) := by
  obtain ⟨l0, l1, l2, l3, l4, l5, l6, l7⟩ := validS_len hv
  have hpad : padM s.marks i = s.marks.getD i default := by unfold padM; rw [if_pos (by omega)]
  by_cases k1 : p.kind = 1
  · refine .inl ⟨?_, ?_⟩
    · have := (h.add k1).1
      unfold namedB
      rw [this]; rfl
    · have hne : ∀ q, q < (listP k p).length → ((listP k p).getD q default).toNat ≠ i := fun q hq => by
        unfold listP at hq ⊢
        rw [if_pos k1] at hq ⊢
        have : q = 0 := by simpa using hq
        subst this
        show k.clauses.length ≠ i
        omega
      rw [← hpad]
      exact mkTo_keep hne
  · have hLp : listP k p = p.clauses := if_neg k1
    cases hn : namedB p i with
    | true =>
      refine .inr ⟨rfl, ?_⟩
      obtain ⟨q, hq, e⟩ := namedN_iff.1 hn
      have e2 : ((listP k p).getD q default).toNat = i := by rw [hLp, e]; rfl
      have := h.lok.in (k := k) (p := p) (hold := s.holders) (m0 := padM s.marks) (by rw [hLp]; exact hq)
      rw [e2, hpad] at this
      exact this
    | false =>
      refine .inl ⟨rfl, ?_⟩
      rw [← hpad]
      refine mkTo_keep fun q hq e => ?_
      have hr := (h.lok.rng q hq).1
      have : namedB p i = true := namedN_iff.2 ⟨q, by rw [← hLp]; exact hq, by rw [← hLp]; omega⟩
      rw [this] at hn; cases hn
theorem migS_len (k : K) (p : Pt) (s : St) : (migS k p s).marks.length = (applyR k p).1.clauses.length := by simp [migS]
theorem migS_mark {k : K} {p : Pt} {s : St} {i : Nat} (hi : i < (applyR k p).1.clauses.length) : (migS k p s).marks.getD i default = (migW k p s).mark i := map_getD _ hi
/-- What is kept of a mark. -/
theorem mig_keeps {k : K} {p : Pt} (h : PFacts k p) {s : St} (hv : validS k s = true) {i : Nat} (hi : i < k.clauses.length) :
    (endedM (s.marks.getD i default) = true → (migS k p s).marks.getD i default = s.marks.getD i default) ∧
    (runsM (s.marks.getD i default) = true → otherB k p i = false → ((migS k p s).marks.getD i default).got = (s.marks.getD i default).got ∧ ((migS k p s).marks.getD i default).bearer = (s.marks.getD i default).bearer) ∧
    (namedB p i = false → (s.marks.getD i default).status ≠ 0 → (migS k p s).marks.getD i default = s.marks.getD i default) ∧
    (runsM (s.marks.getD i default) = true → ((migS k p s).marks.getD i default).status ≠ 0) ∧
    (((migS k p s).marks.getD i default).status = 4 ↔ (s.marks.getD i default).status = 4) := by
  have hlen := h.len
  have hi' : i < (applyR k p).1.clauses.length := by split at hlen <;> omega
  have hat := mig_at h hv hi
  have hst := (migW_rel (k := k) (p := p) (s := s)).mark i
  rw [migS_mark hi']
  have hst : (migW k p s).mark i = migM k p s i ∨ ((migM k p s i).status = 0 ∧ ((migW k p s).mark i).status = 1) := by
    rcases hst with h1 | ⟨_, h1, _, h2, _⟩
    · exact .inl h1
    · exact .inr ⟨h1, by rw [h2]; rfl⟩
  obtain ⟨l0, l1, l2, l3, l4, l5, l6, l7⟩ := validS_len hv
  have hmk := l7 i (by omega)
  simp only [Bool.and_eq_true] at hmk
  have hms := mark_st hmk.1
  generalize s.marks.getD i default = a at *
  generalize (migW k p s).mark i = b at *
  have hend : endedM a = true → a.status ≠ 0 ∧ runsM a = false := fun e => by
    simp only [endedM, Bool.or_eq_true, beq_iff_eq] at e
    refine ⟨by omega, ?_⟩
    rw [Bool.eq_false_iff]
    intro h2
    have := runsM_iff.1 h2
    omega
  refine ⟨fun e => ?_, fun e1 e2 => ?_, fun e1 e2 => ?_, fun e => ?_, ?_⟩
  · obtain ⟨g1, g2⟩ := hend e
    have hm : migM k p s i = a := by
      rcases hat with ⟨_, h1⟩ | ⟨_, h1⟩
      · exact h1
      · rw [h1, chgM_ended g1 g2]
    rw [hm] at hst
    rcases hst with h1 | ⟨h1, _⟩
    · exact h1
    · exact absurd h1 g1
  · have hs := runsM_iff.1 e1
    rcases hat with ⟨_, h1⟩ | ⟨hn, h1⟩
    · rw [h1] at hst
      rcases hst with h2 | ⟨h2, _⟩
      · rw [h2]; exact ⟨rfl, rfl⟩
      · omega
    · obtain ⟨c1, c2, c3⟩ := chgM_runs (k := k) (p := p) (hold := s.holders) (x := i) e1
      rw [← h1] at c1 c2 c3
      rcases hst with h2 | ⟨h2, _⟩
      · rw [h2]
        refine c3 fun ⟨q1, q2, q3⟩ => ?_
        unfold otherB at e2
        rw [hn, q1, q3] at e2
        simp [q2] at e2
      · exact absurd h2 c1
  · rcases hat with ⟨_, h1⟩ | ⟨hn, _⟩
    · rw [h1] at hst
      rcases hst with h2 | ⟨h2, _⟩
      · exact h2
      · exact absurd h2 e2
    · rw [hn] at e1; cases e1
  · have hs := runsM_iff.1 e
    have hm : (migM k p s i).status ≠ 0 := by
      rcases hat with ⟨_, h1⟩ | ⟨_, h1⟩
      · rw [h1]; omega
      · rw [h1]; exact (chgM_runs e).1
    rcases hst with h2 | ⟨h2, _⟩
    · rw [h2]; exact hm
    · exact absurd h2 hm
  · have hm : (migM k p s i).status = 4 ↔ a.status = 4 := by
      rcases hat with ⟨_, h1⟩ | ⟨_, h1⟩
      · rw [h1]
      · rw [h1]
        by_cases hr : runsM a = true
        · have c2 := (chgM_runs (k := k) (p := p) (hold := s.holders) (x := i) hr).2.1
          have := runsM_iff.1 hr
          constructor <;> intro <;> omega
        · by_cases h0 : a.status = 0
          · have := chgM_idle (k := k) (p := p) (hold := s.holders) (x := i) h0
            constructor <;> intro <;> omega
          · rw [chgM_ended h0 (by simpa using hr)]
    rcases hst with h2 | ⟨h2, h3⟩
    · rw [h2]; exact hm
    · constructor
      · intro; omega
      · intro e; have := hm.2 e; omega
/-- The mark of an added clause. -/
theorem mig_added {k : K} {p : Pt} (h : PFacts k p) {s : St} (hv : validS k s = true) (k1 : p.kind = 1) : ((migS k p s).marks.getD k.clauses.length default).status ≠ 4 := by
  have hlen := h.len
  rw [if_pos k1] at hlen
  obtain ⟨l0, l1, l2, l3, l4, l5, l6, l7⟩ := validS_len hv
  have hst := (migW_rel (k := k) (p := p) (s := s)).mark k.clauses.length
  rw [migS_mark (by omega)]
  have hL : listP k p = [(k.clauses.length : Int)] := if_pos k1
  have hm : migM k p s k.clauses.length = chgM k p s.holders k.clauses.length (padM s.marks k.clauses.length) := by
    have := h.lok.in (k := k) (p := p) (hold := s.holders) (m0 := padM s.marks) (i := 0) (by rw [hL]; simp)
    rw [show ((listP k p).getD 0 default).toNat = k.clauses.length by rw [hL]; rfl] at this
    exact this
  have hpad : padM s.marks k.clauses.length = idleMk := by unfold padM; rw [if_neg (by omega)]
  rw [hpad] at hm
  have hs := chgM_idle (k := k) (p := p) (hold := s.holders) (x := k.clauses.length) (m := idleMk) rfl
  rw [← hm] at hs
  rcases hst with h1 | ⟨_, h1, _, h2, _⟩
  · rw [h1]; show (migM k p s k.clauses.length).status ≠ 4; omega
  · rw [h2]; show (1 : Int) ≠ 4; omega
end Go.Proofs.YtofdehlikigonaaGreat
end
section
/- Plain laws of a longer or shorter span (MigrateSpans). -/
namespace Go.Proofs.YtofdehlikigonaaGreat
open Go.Eng
set_option maxRecDepth 10000
set_option linter.unusedSimpArgs false
set_option linter.unusedVariables false
theorem kValid_zero {k : K} (h : (kValid k).1 = 0) : (decide (12 < k.parties) || decide (2000 < k.days) || decide ((12 : Int) < k.holders.length) || decide ((20 : Int) < k.units.length) || decide ((60 : Int) < k.acts.length) || decide ((400 : Int) < k.clauses.length)) = false ∧ framedB k = true ∧ badCl k = none := by
  unfold kValid at h
  split at h
  · cases h
  · rename_i h1
    split at h
    · cases h
    · rename_i h2
      split at h
      · cases h
      · rename_i h3
        exact ⟨by simpa using h1, by simpa using h2, h3⟩
theorem badCl_none {k : K} : badCl k = none ↔ ∀ i, i < k.clauses.length → clauseB k i (k.clauses.getD i default) = true := by
  unfold badCl
  rw [List.find?_eq_none]
  simp
theorem kValid_of {k : K} (h1 : (decide (12 < k.parties) || decide (2000 < k.days) || decide ((12 : Int) < k.holders.length) || decide ((20 : Int) < k.units.length) || decide ((60 : Int) < k.acts.length) || decide ((400 : Int) < k.clauses.length)) = false) (h2 : framedB k = true) (h3 : badCl k = none) : (kValid k).1 = 0 := by
  unfold kValid
  rw [if_neg (by rw [h1]; simp), if_neg (by rw [h2]; simp), h3]
theorem clauseB_span {k k' : K} (hk : k' = { k with clauses := k'.clauses }) (hl : k'.clauses.length = k.clauses.length) {i : Int} {x : Cl} {n : Int} (hn : 1 ≤ n ∧ n ≤ 400) (h : clauseB k i x = true) : clauseB k' i { x with after := n } = true := by
  have hc : condB k' i = condB k i := by funext s; unfold condB; rw [hl]
  have hkb : kindB k' { x with after := n } = kindB k x := by rw [hk]; rfl
  have ha : k'.acts = k.acts := by rw [hk]
  have hu : k'.units = k.units := by rw [hk]
  have hnt : natB k' = natB k := by rw [hk]; rfl
  have hmv : movB k' = movB k := by rw [hk]; rfl
  unfold clauseB at h ⊢
  rw [hkb, hc, ha, hu, hnt, hmv]
  split at h
  · cases h
  · rename_i h1
    rw [if_neg]
    · exact h
    · simp only [Bool.or_eq_true, decide_eq_true_eq, not_or] at h1 ⊢
      omega
theorem clauseB_same {k k' : K} (hk : k' = { k with clauses := k'.clauses }) (hl : k'.clauses.length = k.clauses.length) {i : Int} {x : Cl} (h : clauseB k i x = true) : clauseB k' i x = true := by
  have hn : 1 ≤ x.after ∧ x.after ≤ 400 := by
    unfold clauseB at h
    split at h
    · cases h
    · rename_i h1
      simp only [Bool.or_eq_true, decide_eq_true_eq, not_or] at h1
      omega
  exact clauseB_span hk hl hn h
theorem spanV {k : K} (h : (kValid k).1 = 0) {i : Nat} (hi : i < k.clauses.length) {n : Int} (hn : 1 ≤ n ∧ n ≤ 400) : (kValid { k with clauses := k.clauses.set i { clAt k i with after := n } }).1 = 0 := by
  obtain ⟨h1, h2, h3⟩ := kValid_zero h
  have h3 := badCl_none.1 h3
  refine kValid_of ?_ h2 (badCl_none.2 fun j hj => ?_)
  · show _ = false
    simpa using h1
  · have hj : j < (k.clauses.set i { clAt k i with after := n }).length := hj
    rw [List.length_set] at hj
    show clauseB _ j ((k.clauses.set i { clAt k i with after := n }).getD j default) = true
    by_cases e : i = j
    · subst e
      have : (k.clauses.set i { clAt k i with after := n }).getD i default = { clAt k i with after := n } := by simp [List.getD, hi]
      rw [this]
      exact clauseB_span rfl (by simp) hn (h3 i hi)
    · have : (k.clauses.set i { clAt k i with after := n }).getD j default = k.clauses.getD j default := by simp [List.getD, List.getElem?_set_ne e]
      rw [this]
      exact clauseB_same rfl (by simp) (h3 j hj)
def spanP (i : Nat) (n : Int) : Pt := ⟨5, [(i : Int)], default, n⟩
theorem span_apply {k : K} (h : (kValid k).1 = 0) {i : Nat} (hi : i < k.clauses.length) {n : Int} (hn : 1 ≤ n ∧ n ≤ 400) : (applyR k (spanP i n)).2 = 0 ∧ (applyR k (spanP i n)).1 = { k with clauses := k.clauses.set i { clAt k i with after := n } } := by
  have hv := spanV h hi hn
  have hd : doP k.clauses (spanP i n) = k.clauses.set i { clAt k i with after := n } := rfl
  have he : efOf (spanP i n).kind = some ⟨1, 400, false, true⟩ := rfl
  have hf : fitsB k.clauses.length (spanP i n) ⟨1, 400, false, true⟩ = true := by
    unfold fitsB
    have hz : zeroCl (spanP i n).new = true := rfl
    rw [hz]
    have e1 : decide ((-1 : Int) < (i : Int)) = true := by simp only [decide_eq_true_eq]; omega
    have e2 : decide ((i : Int) < (k.clauses.length : Int)) = true := by simp only [decide_eq_true_eq]; omega
    have e3 : decide (1 ≤ n) = true := by simp only [decide_eq_true_eq]; omega
    have e4 : decide (n ≤ 400) = true := by simp only [decide_eq_true_eq]; omega
    show (decide ((1 : Int) ≤ 1) && decide ((1 : Int) ≤ 400) && (decide ((-1 : Int) < (i : Int)) && decide ((i : Int) < (k.clauses.length : Int)) && true) && (false || true) && (decide (1 ≤ n) && decide (n ≤ 400))) = true
    rw [e1, e2, e3, e4]
    rfl
  unfold applyR
  rw [if_neg (by simpa using h), he]
  dsimp only
  rw [hf, hd, if_neg (by simp), if_neg (by simp [spanP]), if_neg (by simpa using hv)]
  exact ⟨rfl, rfl⟩
theorem pass_still {k : K} {w : Wk} : ∀ n, (∀ j, j < n → rdyB k w.mark j = false) → passTo k w n = (w, false)
  | 0, _ => rfl
  | n + 1, h => by
    rw [passTo, pass_still n fun j hj => h j (by omega), if_neg (by rw [h n (by omega)]; simp)]
theorem start_still {k : K} {w : Wk} (h : ∀ j, j < k.clauses.length → rdyB k w.mark j = false) : startW k w = w := by
  unfold startW
  rw [startN, pass_still _ h, if_neg (by simp)]
theorem condHB_stat {mk mk' : Nat → Mk} (h : ∀ j, (mk' j).status = (mk j).status) (c : Cnd) : condHB mk' c = condHB mk c := by
  unfold condHB
  rw [h]
theorem rdyB_stat {k k' : K} {mk mk' : Nat → Mk} (h : ∀ j, (mk' j).status = (mk j).status) {i : Nat} (hw : (clAt k' i).waived = (clAt k i).waived) (hs : (clAt k' i).start = (clAt k i).start) : rdyB k' mk' i = rdyB k mk i := by
  unfold rdyB
  rw [h, hw, hs]
  have : condHB mk' = condHB mk := funext (condHB_stat h)
  rw [this]
theorem zClW : clW default := by
  refine ⟨?_, ?_, ?_, ?_, fun x hx => (by cases hx), ?_, ?_, ?_, ?_, ⟨?_, ?_⟩, ?_, ?_⟩ <;> (show _ ≤ _ ∧ _ ≤ _; decide)
theorem span_marks {k : K} (hk : kW k) {s : St} (hv : validS k s = true) {i : Nat} (hi : i < k.clauses.length) {n : Int} (hn : 1 ≤ n ∧ n ≤ 400) (hn2 : inK .i64 n) :
    (migrateR k (spanP i n) s).2 = 0 ∧ (migrateR k (spanP i n) s).1.marks.length = s.marks.length ∧
    ∀ j, j < s.marks.length → (migrateR k (spanP i n) s).1.marks.getD j default = if j = i then spanM n (clAt k i) (s.marks.getD i default) else s.marks.getD j default := by
  obtain ⟨l0, l1, l2, l3, l4, l5, l6, l7⟩ := validS_len hv
  obtain ⟨a1, a2⟩ := span_apply l0 hi hn
  have hp : ptW (spanP i n) := by
    have hF := (show kOk k from ⟨hk, l0⟩).facts
    have := hF.nc
    refine ⟨by show inK .i64 5; simp [inK], ?_, ?_, hn2⟩
    · intro z hz
      have : z = (i : Int) := by simpa [spanP] using hz
      subst this
      show -9223372036854775808 ≤ (i : Int) ∧ (i : Int) ≤ 9223372036854775807
      omega
    · exact zClW
  have h := patch_facts hk hp a1
  have hlen : (applyR k (spanP i n)).1.clauses.length = k.clauses.length := by rw [a2]; simp
  have hname : ∀ j, namedB (spanP i n) j = decide (j = i) := fun j => by
    show (false || ((i : Int) == (j : Int))) = _
    rw [Bool.false_or]
    by_cases e : j = i
    · subst e; simp
    · simp [e]; omega
  have hM : ∀ j, j < k.clauses.length → migM k (spanP i n) s j = if j = i then spanM n (clAt k i) (s.marks.getD i default) else s.marks.getD j default := fun j hj => by
    rcases mig_at h hv hj with ⟨g1, g2⟩ | ⟨g1, g2⟩
    · rw [hname] at g1
      have g1 : j ≠ i := by simpa using g1
      rw [g2, if_neg g1]
    · rw [hname] at g1
      have g1 : j = i := by simpa using g1
      subst g1
      rw [g2, if_pos rfl]
      rfl
  have hst : ∀ j, (migM k (spanP i n) s j).status = (s.wk.mark j).status := fun j => by
    show _ = (s.marks.getD j default).status
    by_cases hj : j < k.clauses.length
    · rw [hM j hj]
      by_cases e : j = i
      · subst e
        rw [if_pos rfl]
        exact (spanM_facts _ _ _).1
      · rw [if_neg e]
    · have h1 : migM k (spanP i n) s j = padM s.marks j := mkTo_keep fun q hq e => by
        have : q = 0 := by simpa [listP, spanP] using hq
        subst this
        have e : i = j := e
        omega
      rw [h1]
      unfold padM
      rw [if_neg (by omega), List.getD_eq_getElem?_getD, List.getElem?_eq_none (by omega)]
      rfl
  have hcl : ∀ j, j < k.clauses.length → (clAt (applyR k (spanP i n)).1 j).waived = (clAt k j).waived ∧ (clAt (applyR k (spanP i n)).1 j).start = (clAt k j).start := fun j hj => by
    rw [a2]
    unfold clAt
    by_cases e : i = j
    · subst e
      simp [List.getD, hi]
    · simp [List.getD, List.getElem?_set_ne e]
  have hW : migW k (spanP i n) s = ⟨s.day, fun i => s.holders.getD i default, fun i => s.used.getD i default, migM k (spanP i n) s⟩ := by
    refine start_still fun j hj => ?_
    rw [hlen] at hj
    obtain ⟨c1, c2⟩ := hcl j hj
    rw [rdyB_stat (k := k) (mk := s.wk.mark) hst c1 c2]
    have := l7 j (by omega)
    simp only [Bool.and_eq_true, Bool.not_eq_true'] at this
    exact this.2
  have hR : migrateR k (spanP i n) s = (migS k (spanP i n) s, 0) := by
    unfold migrateR migR
    rw [if_pos hv, if_neg (by simpa using a1)]
  rw [hR]
  refine ⟨rfl, by show (migS k (spanP i n) s).marks.length = _; rw [migS_len, hlen, l3], fun j hj => ?_⟩
  show (migS k (spanP i n) s).marks.getD j default = _
  rw [migS_mark (by omega), hW]
  exact hM j (by omega)
end Go.Proofs.YtofdehlikigonaaGreat
end
section
/- Plain facts for the laws of layer 27. -/
namespace Go.Proofs.YtofdehlikigonaaGreat
open Go.Eng
set_option maxRecDepth 10000
set_option linter.unusedSimpArgs false
set_option linter.unusedVariables false
theorem eqIS_self (l : List Int) : eqIS l l = true := by simp [eqIS]
theorem eqBS_self (l : List Bool) : eqBS l l = true := by simp [eqBS]
theorem eqMS_self (l : List Mk) : eqMS l l = true := by
  unfold eqMS
  rw [beq_self_eq_true, Bool.true_and, List.all_eq_true]
  exact fun i _ => eqMk_iff.2 rfl
theorem sameS_self (s : St) : sameS s s = true := by simp [sameS, eqIS_self, eqBS_self, eqMS_self]
theorem small24_facts {p : Pt} (h : small24B p = true) : p.clauses.length ≤ 500 ∧ p.new.start.length ≤ 20 := by
  simp only [small24B, Bool.and_eq_true, decide_eq_true_eq] at h
  omega
theorem migR_e (k : K) (p : Pt) (s : St) : (migR k p s).2 = (applyR k p).2 := by
  unfold migR
  split
  · rfl
  · rename_i h
    have h : (applyR k p).2 = 0 := by simpa using h
    exact h.symm
theorem migR_bad {k : K} {p : Pt} {s : St} (h : (applyR k p).2 ≠ 0) : (migR k p s).1.2 = zS := by unfold migR; rw [if_pos h]
theorem migR_good {k : K} {p : Pt} {s : St} (h : (applyR k p).2 = 0) : (migR k p s).1.2 = migS k p s := by unfold migR; rw [if_neg (by simpa using h)]
theorem smallQ_len {k : K} {n : Int} (h : smallQ k n = true) : k.holders.length ≤ 20 ∧ k.units.length ≤ 30 ∧ k.acts.length ≤ 70 ∧ k.clauses.length ≤ n ∧ k.off.length ≤ 100 ∧ ∀ i, i < k.clauses.length → (k.clauses.getD i default).start.length ≤ 20 := by
  unfold smallQ at h
  split at h
  · cases h
  · rename_i h1
    simp only [Bool.or_eq_true, decide_eq_true_eq, not_or] at h1
    refine ⟨by omega, by omega, by omega, by omega, by omega, fun i hi => ?_⟩
    rw [List.all_eq_true] at h
    have := h _ (getD_memW hi)
    simpa using this
theorem migrateR_zero {k : K} {p : Pt} {s : St} (h : (migrateR k p s).2 = 0) : validS k s = true ∧ (applyR k p).2 = 0 ∧ (migrateR k p s).1 = migS k p s := by
  unfold migrateR at h ⊢
  by_cases hv : validS k s = true
  · rw [if_pos hv] at h ⊢
    rw [migR_e] at h
    exact ⟨hv, h, migR_good h⟩
  · rw [if_neg hv] at h
    cases h
theorem fails_ext {s t : St} : ∀ {n : Nat}, (∀ i, i < n → ((s.marks.getD i default).status = 4 ↔ (t.marks.getD i default).status = 4)) → failsN s n = failsN t n
  | 0, _ => rfl
  | n + 1, h => by
    rw [failsN_succ, failsN_succ, fails_ext (n := n) fun i hi => h i (by omega)]
    by_cases e : (s.marks.getD n default).status = 4
    · rw [if_pos e, if_pos ((h n (by omega)).1 e)]
    · rw [if_neg e, if_neg fun e2 => e ((h n (by omega)).2 e2)]
theorem fails_mig {k : K} {p : Pt} (h : PFacts k p) {s : St} (hv : validS k s = true) : failsN (migS k p s) (migS k p s).marks.length = failsN s s.marks.length := by
  have hl := (validS_len hv).2.2.2.1
  have hlen := h.len
  have e : failsN (migS k p s) k.clauses.length = failsN s k.clauses.length := fails_ext fun i hi => (mig_keeps h hv hi).2.2.2.2
  rw [migS_len, hl]
  by_cases k1 : p.kind = 1
  · rw [if_pos k1] at hlen
    rw [hlen, failsN_succ, if_neg (mig_added h hv k1), e]
  · rw [if_neg k1] at hlen
    rw [hlen, e]
/-- What a law of layer 27 knows of a migrated state. -/
theorem mig_law {k : K} (hk : kW k) {p : Pt} (hp : ptW p) {s : St} (h : (migrateR k p s).2 = 0) : s.marks.length = k.clauses.length ∧ s.marks.length ≤ (migrateR k p s).1.marks.length ∧ (migrateR k p s).1.marks.length ≤ s.marks.length + 1 ∧
    failsN (migrateR k p s).1 (migrateR k p s).1.marks.length = failsN s s.marks.length ∧
    ∀ i, i < s.marks.length → (endedM (s.marks.getD i default) = true → (migrateR k p s).1.marks.getD i default = s.marks.getD i default) ∧
    (runsM (s.marks.getD i default) = true → otherB k p i = false → ((migrateR k p s).1.marks.getD i default).got = (s.marks.getD i default).got ∧ ((migrateR k p s).1.marks.getD i default).bearer = (s.marks.getD i default).bearer) ∧
    (namedB p i = false → (s.marks.getD i default).status ≠ 0 → (migrateR k p s).1.marks.getD i default = s.marks.getD i default) ∧
    (runsM (s.marks.getD i default) = true → ((migrateR k p s).1.marks.getD i default).status ≠ 0) := by
  obtain ⟨hv, ha, he⟩ := migrateR_zero h
  have hF := patch_facts hk hp ha
  have hl := (validS_len hv).2.2.2.1
  have hlen := hF.len
  have hf := fails_mig hF hv
  rw [he]
  refine ⟨hl, ?_, ?_, hf, fun i hi => ?_⟩
  · rw [migS_len]
    split at hlen <;> omega
  · rw [migS_len]
    split at hlen <;> omega
  · obtain ⟨a1, a2, a3, a4, -⟩ := mig_keeps hF hv (i := i) (by omega)
    exact ⟨a1, a2, a3, a4⟩
/-- A run without amendments. -/
theorem stg_none (k : K) (tr : List Int) : ∀ i, stgTo k [] tr i = ((k, (runE k tr i).1), (runE k tr i).2)
  | 0 => rfl
  | i + 1 => by
    rw [stgTo, stg_none k tr i, runE]
    by_cases h : (runE k tr i).2 = 0
    · rw [if_neg (by simpa using h), if_pos h]
      unfold nextS
      dsimp only
      by_cases h2 : (stepS k (runE k tr i).1 (tr.getD i default)).2 = 0 ∧ tr.getD i default = -1
      · rw [if_pos h2, h2.1]; rfl
      · rw [if_neg h2]
    · rw [if_pos (by simpa using h), if_neg h]
end Go.Proofs.YtofdehlikigonaaGreat
end
