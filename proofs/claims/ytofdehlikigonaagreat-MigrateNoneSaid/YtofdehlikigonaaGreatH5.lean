import Derived.Test.YtofdehlikigonaaGreatH4
section
/- A state carried over: it is well-formed for the amended contract. -/
namespace Go.Proofs.YtofdehlikigonaaGreat
open Go.Eng
set_option maxRecDepth 10000
set_option linter.unusedSimpArgs false
set_option linter.unusedVariables false
theorem mark_st {k : K} {i : Nat} {m : Mk} (h : markB k i m = true) : m.status = 0 ∨ m.status = 1 ∨ m.status = 2 ∨ m.status = 3 ∨ m.status = 4 ∨ m.status = 5 := by
  unfold markB at h
  repeat (split at h; · omega)
  cases h
theorem mark_end {k : K} {i : Nat} {m : Mk} (hs : m.status = 3 ∨ m.status = 4 ∨ m.status = 5) : markB k i m = endB k m := by
  unfold markB
  rw [if_neg (by omega), if_neg (by omega), if_neg (by omega), if_pos hs]
theorem endB_par {k k' : K} (hp : k'.parties = k.parties) (m : Mk) : endB k' m = endB k m := by unfold endB; rw [hp]
theorem idle_eq {m : Mk} (h : idleB m = true) : m = idleMk := by
  obtain ⟨a, b, c, d, e⟩ := m
  simp only [idleB, Bool.and_eq_true, beq_iff_eq, Bool.not_eq_true'] at h
  obtain ⟨⟨⟨⟨rfl, rfl⟩, rfl⟩, rfl⟩, rfl⟩ := h
  rfl
theorem mark_idle {k : K} {i : Nat} {m : Mk} (h : markB k i m = true) (hs : m.status = 0) : m = idleMk ∧ (clAt k i).waived = false := by
  unfold markB at h
  rw [if_pos hs] at h
  simp only [Bool.and_eq_true, Bool.not_eq_true'] at h
  exact ⟨idle_eq h.2, h.1⟩
theorem end_idle {k : K} (hp : 0 ≤ k.parties) (hp2 : 1 ≤ k.parties) (i : Nat) (s : Int) (hs : s = 3 ∨ s = 4 ∨ s = 5) : markB k i (endM idleMk s) = true :=
  endF ⟨by decide, by decide⟩ ⟨by decide, by show (-1 : Int) < k.parties; omega⟩ hs
/-- A mark that is voided is well-formed. -/
theorem void_keep {k k' : K} (hk : KFacts k) (hp : k'.parties = k.parties) {i : Nat} (hi : i < k.clauses.length) {m : Mk} (h : markB k i m = true) : markB k' i (voidM m) = true := by
  have hpar := hk.parties
  unfold voidM
  by_cases hc : (m.status == 0 || runsM m) = true
  · rw [if_pos hc]
    rcases mark_st h with h0 | h1 | h1 | h3
    · rw [(mark_idle h h0).1]
      exact end_idle (by omega) (by omega) i 5 (by omega)
    · have hr := (markB_run (k := k) (i := i) (m := m) (runsM_iff.2 (by omega))).1 h
      have hb := run_bd hk hi hr
      exact endF hb.1 (by rw [hp]; exact hb.2.1) (by omega)
    · have hr := (markB_run (k := k) (i := i) (m := m) (runsM_iff.2 (by omega))).1 h
      have hb := run_bd hk hi hr
      exact endF hb.1 (by rw [hp]; exact hb.2.1) (by omega)
    · simp only [Bool.or_eq_true, beq_iff_eq, runsM_iff] at hc
      omega
  · rw [if_neg hc]
    simp only [Bool.or_eq_true, beq_iff_eq, runsM_iff] at hc
    have hs : m.status = 3 ∨ m.status = 4 ∨ m.status = 5 := by have := mark_st h; omega
    rw [mark_end hs] at h ⊢
    rw [endB_par hp]; exact h
end Go.Proofs.YtofdehlikigonaaGreat
end
section
/- A state carried over: each mark is well-formed for the amended contract. -/
namespace Go.Proofs.YtofdehlikigonaaGreat
open Go.Eng
set_option maxRecDepth 10000
set_option linter.unusedSimpArgs false
set_option linter.unusedVariables false
theorem mark_kept {k k' : K} (hp : k'.parties = k.parties) {i : Nat} {m : Mk} (h : markB k i m = true) (hr : runsM m = false) (hw : m.status = 0 → (clAt k' i).waived = false) : markB k' i m = true := by
  rcases mark_st h with h0 | h1 | h1 | h3
  · obtain ⟨e, _⟩ := mark_idle h h0
    subst e
    unfold markB
    rw [if_pos h0, hw h0]
    rfl
  · have : runsM m = true := runsM_iff.2 (by omega)
    rw [this] at hr; cases hr
  · have : runsM m = true := runsM_iff.2 (by omega)
    rw [this] at hr; cases hr
  · rw [mark_end h3] at h ⊢
    rw [endB_par hp]; exact h
theorem span_keep {k k' : K} (hp : k'.parties = k.parties) {i : Nat} {d : Int} (hd : 1 ≤ d) (hc : clAt k' i = { clAt k i with after := d }) {m : Mk} (h : markB k i m = true) : markB k' i (spanM d (clAt k i) m) = true := by
  by_cases hr : runsM m = true
  · have hR := (markB_run hr).1 h
    obtain ⟨r1, r2, r3, r4, r5, r6⟩ := hR
    have hR' : RunF k' (clAt k' i) (spanM d (clAt k i) m) := by
      rw [hc]
      unfold spanM
      split
      · refine ⟨r1, ?_, r3, r4, by rw [hp]; exact r5, .inl ⟨by assumption, ?_⟩⟩
        · show 1 ≤ max 1 _; omega
        · show max 1 (m.left + d - (clAt k i).after) ≤ d; omega
      · refine ⟨r1, r2, r3, r4, by rw [hp]; exact r5, ?_⟩
        rcases r6 with r6 | r6
        · exact absurd r6.1 (by assumption)
        · exact .inr r6
    exact (markB_run hR'.runs).2 hR'
  · have hr : runsM m = false := by simpa using hr
    have he : spanM d (clAt k i) m = m := by
      unfold spanM
      rw [if_neg fun e => by rw [runsM_iff.2 (.inl e)] at hr; cases hr]
    rw [he]
    exact mark_kept hp h hr fun h0 => by rw [hc]; exact (mark_idle h h0).2
theorem repl_keep {k k' : K} (hk : KFacts k) (hk' : KFacts k') (hp : k'.parties = k.parties) {i : Nat} (hi : i < k.clauses.length) (hi' : i < k'.clauses.length) {new : Cl} (hc : clAt k' i = new) {hold : List Int} (hh : hold.length = k'.holders.length)
    (hd : ∀ j, j < hold.length → 0 ≤ hold.getD j default ∧ hold.getD j default < k.parties) {m : Mk} (h : markB k i m = true) : markB k' i (replM new (clAt k i) m hold) = true := by
  have hcb := hk'.clB hi'
  have hkw := kindW hcb.2.2.1
  have haf := hcb.2.1
  rw [hc] at hkw haf
  clear hcb
  unfold replM
  split
  · exact void_keep hk hp hi h
  · rename_i hw
    have hw : new.waived = false := by simpa using hw
    split
    · rename_i hr
      exact mark_kept hp h hr fun _ => by rw [hc]; exact hw
    · rename_i hr
      have hr : runsM m = true := by simpa using hr
      have hR := (markB_run hr).1 h
      have hbd := run_bd hk hi hR
      obtain ⟨r1, r2, r3, r4, r5, r6⟩ := hR
      split
      · rename_i hkk
        unfold contM
        split
        · exact endF (m := contP new m) hbd.1 (by rw [hp]; exact hbd.2.1) (by omega)
        · rename_i hne
          have hg : m.got = 0 ∨ (new.kind = 1 ∧ 0 ≤ m.got ∧ m.got < new.need) := by
            rcases r4 with r4 | r4
            · exact .inl r4
            · exact .inr ⟨by omega, r4.2.1, by omega⟩
          have hpa : (m.paused && (new.pause != -1)) = true → new.pause ≠ -1 := fun e => by
            simp only [Bool.and_eq_true, bne_iff_ne, ne_eq] at e; exact e.2
          have hbe : new.kind = 4 ∧ m.bearer = -1 ∨ new.kind ≠ 4 ∧ 0 ≤ m.bearer ∧ m.bearer < k'.parties := by rw [hp, hkk]; exact r5
          split
          · rename_i h1
            have hR' : RunF k' (clAt k' i) ⟨m.status, max 1 (m.left + new.after - (clAt k i).after), m.got, m.bearer, m.paused && (new.pause != -1)⟩ := by
              rw [hc]
              exact ⟨hw, by show 1 ≤ max 1 _; omega, hpa, hg, hbe, .inl ⟨h1, by show max 1 (m.left + new.after - (clAt k i).after) ≤ new.after; omega⟩⟩
            exact (markB_run hR'.runs).2 hR'
          · split
            · have hR' : RunF k' (clAt k' i) ⟨1, 1, m.got, m.bearer, m.paused && (new.pause != -1)⟩ := by
                rw [hc]
                exact ⟨hw, Int.le_refl _, hpa, hg, hbe, .inl ⟨rfl, haf.1⟩⟩
              exact (markB_run hR'.runs).2 hR'
            · rename_i h1 h2
              have hR' : RunF k' (clAt k' i) ⟨m.status, max 1 (m.left + new.grace - (clAt k i).grace), m.got, m.bearer, m.paused && (new.pause != -1)⟩ := by
                rw [hc]
                refine ⟨hw, by show 1 ≤ max 1 _; omega, hpa, hg, hbe, .inr ?_⟩
                rcases r6 with r6 | r6
                · exact absurd r6.1 h1
                · refine ⟨r6.1, by omega, ?_⟩
                  show max 1 (m.left + new.grace - (clAt k i).grace) ≤ new.grace
                  rcases hkw with hkw | ⟨_, _, hkw | hkw | hkw⟩ <;> omega
              exact (markB_run hR'.runs).2 hR'
      · rename_i hkk
        have hR' : RunF k' (clAt k' i) (restM (clAt k i) new m hold) := by
          rw [hc]
          refine ⟨hw, haf.1, fun e => (nomatch e), .inl rfl, ?_, .inl ⟨rfl, Int.le_refl _⟩⟩
          show new.kind = 4 ∧ (if new.kind = 4 then _ else _) = _ ∨ new.kind ≠ 4 ∧ 0 ≤ (if new.kind = 4 then _ else _) ∧ (if new.kind = 4 then _ else _) < _
          by_cases h4 : new.kind = 4
          · exact .inl ⟨h4, if_pos h4⟩
          · refine .inr ⟨h4, ?_⟩
            rw [if_neg h4]
            rcases hkw with hkw | hkw
            · exact absurd hkw.1 h4
            · split
              · rw [hp]; exact hd _ (by omega)
              · rename_i h5
                rcases r5 with r5 | r5
                · exact absurd r5.1 h5
                · rw [hp]; exact r5.2
        exact (markB_run hR'.runs).2 hR'
end Go.Proofs.YtofdehlikigonaaGreat
end
section
/- A state carried over is well-formed. -/
namespace Go.Proofs.YtofdehlikigonaaGreat
open Go.Eng
set_option maxRecDepth 10000
set_option linter.unusedSimpArgs false
set_option linter.unusedVariables false
theorem foldSet_getD (f : Cl → Cl) (hf : ∀ x, f (f x) = f x) : ∀ (l : List Int) (cs : List Cl) (j : Nat), j < cs.length →
    ((∃ q, q < l.length ∧ (l.getD q default).toNat = j) → (l.foldl (fun cs i => cs.set i.toNat (f (cs.getD i.toNat default))) cs).getD j default = f (cs.getD j default)) ∧
    ((∀ q, q < l.length → (l.getD q default).toNat ≠ j) → (l.foldl (fun cs i => cs.set i.toNat (f (cs.getD i.toNat default))) cs).getD j default = cs.getD j default)
  | [], cs, j, hj => ⟨fun ⟨q, hq, _⟩ => absurd hq (Nat.not_lt_zero _), fun _ => rfl⟩
  | a :: l, cs, j, hj => by
    have hj' : j < (cs.set a.toNat (f (cs.getD a.toNat default))).length := by rw [List.length_set]; exact hj
    obtain ⟨h1, h2⟩ := foldSet_getD f hf l (cs.set a.toNat (f (cs.getD a.toNat default))) j hj'
    have hs : (cs.set a.toNat (f (cs.getD a.toNat default))).getD j default = if a.toNat = j then f (cs.getD j default) else cs.getD j default := by
      by_cases e : a.toNat = j
      · subst e; rw [if_pos rfl]; simp [List.getD, hj]
      · rw [if_neg e]; simp [List.getD, List.getElem?_set_ne e]
    rw [hs] at h1 h2
    refine ⟨fun ⟨q, hq, e⟩ => ?_, fun h => ?_⟩
    · rw [List.foldl_cons]
      by_cases hex : ∃ q, q < l.length ∧ (l.getD q default).toNat = j
      · rw [h1 hex]
        split
        · rw [hf]
        · rfl
      · have hne : ∀ q, q < l.length → (l.getD q default).toNat ≠ j := fun q hq e => hex ⟨q, hq, e⟩
        cases q with
        | zero =>
          have e : a.toNat = j := e
          rw [h2 hne, if_pos e]
        | succ q => exact absurd ⟨q, by simpa using hq, e⟩ hex
    · rw [List.foldl_cons]
      have ha : a.toNat ≠ j := h 0 (by simp)
      rw [h2 fun q hq => h (q + 1) (by simpa using hq), if_neg ha]
theorem waiveL_getD (cs : List Cl) (l : List Int) (j : Nat) (hj : j < cs.length) :
    ((∃ q, q < l.length ∧ (l.getD q default).toNat = j) → (waiveL cs l).getD j default = { cs.getD j default with waived := true }) ∧ ((∀ q, q < l.length → (l.getD q default).toNat ≠ j) → (waiveL cs l).getD j default = cs.getD j default) :=
  foldSet_getD (fun x => { x with waived := true }) (fun _ => rfl) l cs j hj
theorem spanL_getD (d : Int) (cs : List Cl) (l : List Int) (j : Nat) (hj : j < cs.length) :
    ((∃ q, q < l.length ∧ (l.getD q default).toNat = j) → (spanL d cs l).getD j default = { cs.getD j default with after := d }) ∧ ((∀ q, q < l.length → (l.getD q default).toNat ≠ j) → (spanL d cs l).getD j default = cs.getD j default) :=
  foldSet_getD (fun x => { x with after := d }) (fun _ => rfl) l cs j hj
/-- A clause that is not named stays. -/
theorem PFacts.stay {k : K} {p : Pt} (h : PFacts k p) {i : Nat} (hi : i < k.clauses.length) (hn : ∀ q, q < (listP k p).length → ((listP k p).getD q default).toNat ≠ i) : clAt (applyR k p).1 i = clAt k i := by
  unfold clAt
  rw [h.eq]
  show (doP k.clauses p).getD i default = _
  unfold doP
  unfold listP at hn
  split
  · simp [List.getD, List.getElem?_append_left hi]
  · rename_i h1
    rw [if_neg h1] at hn
    split
    · rename_i h2
      obtain ⟨x, hx, _⟩ := h.one h2
      rw [hx] at hn ⊢
      have : x.toNat ≠ i := hn 0 (by simp)
      show (k.clauses.set x.toNat p.new).getD i default = _
      simp [List.getD, List.getElem?_set_ne this]
    · split
      · exact (spanL_getD p.days k.clauses p.clauses i hi).2 hn
      · exact (waiveL_getD k.clauses p.clauses i hi).2 hn
theorem markB_same {k k' : K} (hp : k'.parties = k.parties) {i : Nat} (hc : clAt k' i = clAt k i) (m : Mk) : markB k' i m = markB k i m := by
  unfold markB runB endB
  rw [hp, hc]
theorem mig_mark {k : K} {p : Pt} (h : PFacts k p) {s : St} (hv : validS k s = true) {i : Nat} (hi : i < (applyR k p).1.clauses.length) : markB (applyR k p).1 i (migM k p s i) = true := by
  obtain ⟨l0, l1, l2, l3, l4, l5, l6, l7⟩ := validS_len hv
  have hpar : (applyR k p).1.parties = k.parties := by rw [h.eq]
  have hhold : s.holders.length = (applyR k p).1.holders.length := by rw [h.eq]; exact l1
  have hlen := h.len
  have hpp := h.kk.parties
  by_cases hex : ∃ q, q < (listP k p).length ∧ ((listP k p).getD q default).toNat = i
  · obtain ⟨q, hq, e⟩ := hex
    have hm : migM k p s i = chgM k p s.holders i (padM s.marks i) := by
      unfold migM
      have := h.lok.in (k := k) (p := p) (hold := s.holders) (m0 := padM s.marks) hq
      rwa [e] at this
    rw [hm]
    by_cases k1 : p.kind = 1
    · have hin : i = k.clauses.length := by
        unfold listP at hq e
        rw [if_pos k1] at hq e
        have : q = 0 := by simpa using hq
        subst this
        exact e.symm
      have hpad : padM s.marks i = idleMk := by unfold padM; rw [if_neg (by omega)]
      have hcl := (h.add k1).2
      rw [← hin] at hcl
      unfold chgM
      rw [if_neg (by omega), if_neg (by omega), if_pos k1, hpad]
      unfold addM
      split
      · show markB _ i (voidM idleMk) = true
        exact end_idle (by omega) (by omega) i 5 (by omega)
      · rename_i hw
        unfold markB
        rw [if_pos (show idleMk.status = 0 from rfl), hcl]
        have hw : p.new.waived = false := by simpa using hw
        rw [hw]; rfl
    · have hik : i < k.clauses.length := by rw [hlen, if_neg k1] at hi; exact hi
      have hpad : padM s.marks i = s.marks.getD i default := by unfold padM; rw [if_pos (by omega)]
      have hmk := l7 i (by omega)
      simp only [Bool.and_eq_true] at hmk
      have hmk := hmk.1
      rw [hpad]
      have hLp : listP k p = p.clauses := if_neg k1
      rw [hLp] at hq e
      unfold chgM
      split
      · rename_i k5
        have hd := h.days k5
        refine span_keep hpar hd.1 ?_ hmk
        unfold clAt
        rw [h.eq]
        show (doP k.clauses p).getD i default = _
        unfold doP
        rw [if_neg k1, if_neg (by omega), if_pos k5]
        exact (spanL_getD p.days k.clauses p.clauses i hik).1 ⟨q, hq, e⟩
      · split
        · rename_i k2
          obtain ⟨x, hx, hx1, hx2, hx3⟩ := h.one k2
          have hxi : x.toNat = i := by
            rw [hx] at hq e
            have : q = 0 := by simpa using hq
            subst this
            exact e
          rw [hxi] at hx3
          exact repl_keep h.kk h.kn hpar hik hi hx3 hhold l5 hmk
        · exact void_keep h.kk hpar hik hmk
  · have hne : ∀ q, q < (listP k p).length → ((listP k p).getD q default).toNat ≠ i := fun q hq e => hex ⟨q, hq, e⟩
    have hm : migM k p s i = padM s.marks i := mkTo_keep hne
    have hik : i < k.clauses.length := by
      rw [hlen] at hi
      split at hi
      · rename_i k1
        have h0 := hne 0 (by unfold listP; rw [if_pos k1]; simp)
        unfold listP at h0
        rw [if_pos k1] at h0
        have h0 : k.clauses.length ≠ i := h0
        omega
      · exact hi
    have hpad : padM s.marks i = s.marks.getD i default := by unfold padM; rw [if_pos (by omega)]
    have hmk := l7 i (by omega)
    simp only [Bool.and_eq_true] at hmk
    rw [hm, hpad, markB_same hpar (h.stay hik hne)]
    exact hmk.1
/-- The migrated state is well-formed. -/
theorem mig_WOk {k : K} {p : Pt} (h : PFacts k p) {s : St} (hv : validS k s = true) : WOk (applyR k p).1 (migW k p s) := by
  obtain ⟨l0, l1, l2, l3, l4, l5, l6, l7⟩ := validS_len hv
  unfold migW
  refine startW_keep h.kn ⟨?_, fun i hi => ?_, fun i hi hu => ?_, fun i hi => mig_mark h hv hi⟩
  · rw [h.eq]; exact l4
  · rw [h.eq] at hi ⊢
    have hi : i < k.holders.length := hi
    exact l5 i (by omega)
  · rw [h.eq] at hi ⊢
    have hi : i < k.acts.length := hi
    exact (validS_W hv).used i hi hu
end Go.Proofs.YtofdehlikigonaaGreat
end
