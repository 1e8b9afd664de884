import Derived.Test.YtiiegpjpckkohaaPE
section
/- The reading of a trace, clause by clause: plain laws. -/
namespace Go.Proofs.Ytiiegpjpckkohaa
open Go.Eng
set_option maxRecDepth 10000
set_option linter.unusedSimpArgs false
set_option linter.unusedVariables false
/-- What starting clauses makes of the outcomes. -/
structure Rel (k : K) (r r' : Rd) : Prop where
  hold : r'.hold = r.hold
  steps : r'.steps = r.steps
  wait : ∀ z x, x ∈ r'.wait z → x ∈ r.wait z
  out : ∀ j, r'.out j = r.out j ∨ ((r.out j).from_ < 0 ∧ (∃ z, (j : Int) ∈ r.wait z) ∧ r'.out j = startOne k r j)
theorem Rel.refl (k : K) (r : Rd) : Rel k r r := ⟨rfl, rfl, fun _ _ h => h, fun _ => .inl rfl⟩
theorem Rel.trans {k : K} {a b c : Rd} (hs : 0 ≤ a.steps) (h : Rel k a b) (h' : Rel k b c) : Rel k a c := by
  refine ⟨h'.hold.trans h.hold, h'.steps.trans h.steps, fun z x hx => h.wait z x (h'.wait z x hx), fun j => ?_⟩
  rcases h'.out j with h1 | ⟨h1, ⟨z, h2⟩, h3⟩
  · rw [h1]; exact h.out j
  · rcases h.out j with h4 | ⟨_, _, h6⟩
    · refine .inr ⟨h4 ▸ h1, ⟨z, h.wait z _ h2⟩, ?_⟩
      rw [h3]
      simp only [startOne]
      rw [h4, h.hold, h.steps]
    · rw [h6] at h1
      simp only [startOne] at h1
      omega
theorem inner_rel {k : K} {r : Rd} {kn ws : List Int} (hst : 0 ≤ r.steps) (hws : ∀ x ∈ ws, (0 ≤ x ∧ x < k.clauses.length) ∧ ∃ z, x ∈ r.wait z) : ∀ p, p ≤ ws.length → Rel k r (innerTo k r kn ws p).1
  | 0, _ => Rel.refl k r
  | p + 1, hp => by
    have ih := inner_rel (kn := kn) hst hws p (by omega)
    have hm := getD_mem' (l := ws) (i := p) (by omega)
    obtain ⟨hz, z0, hz0⟩ := hws _ hm
    have hsame := (inner_inv (kn := kn) hst (fun x hx => (hws x hx).1) p (by omega)).same
    show Rel k r (istep k (innerTo k r kn ws p) (ws.getD p default)).1
    generalize ws.getD p default = z at hm hz hz0
    generalize innerTo k r kn ws p = s at ih hsame
    unfold istep
    split
    · exact ih
    · split
      · exact ih
      · rename_i h2
        refine Rel.trans hst ih ⟨rfl, rfl, fun _ _ h => h, fun j => ?_⟩
        simp only [Rd.upOut]
        by_cases h : j = z.toNat
        · rw [if_pos h]
          subst h
          refine .inr ⟨by omega, ⟨z0, ?_⟩, rfl⟩
          rw [Int.toNat_of_nonneg hz.1, hsame]
          exact hz0
        · rw [if_neg h]; exact .inl rfl
theorem round_rel {k : K} {r : Rd} {kn : List Int} {n : Nat} (hst : 0 ≤ r.steps) (hw : WaitOk k r) : Rel k r (roundR k r kn n).1 := by
  have hws := hw (kn.getD n default)
  have h := inner_rel (k := k) (r := r) (kn := kn) hst (fun x hx => ⟨hws.2 x hx, _, hx⟩) _ (Nat.le_refl _)
  have hin := inner_inv (k := k) (r := r) (kn := kn) hst hws.2 _ (Nat.le_refl _)
  unfold roundR
  simp only
  generalize innerTo k r kn (r.wait (kn.getD n default)) (r.wait (kn.getD n default)).length = s at h hin
  refine ⟨h.hold, h.steps, fun z x hx => ?_, h.out⟩
  simp only [putWait] at hx
  split at hx
  · rename_i e
    rw [e]
    exact hin.rest.2 x hx
  · exact h.wait z x hx
theorem runS_rel {k : K} : ∀ (f n : Nat) (r : Rd) (kn : List Int), 0 ≤ r.steps → WaitOk k r → Rel k r (runS k f n r kn)
  | 0, _, r, _, _, _ => Rel.refl k r
  | f + 1, n, r, kn, hst, hw => by
    rw [runS]
    split
    · have h := round_rel (k := k) (r := r) (kn := kn) (n := n) hst hw
      have h2 := roundR_kept (k := k) (r := r) (kn := kn) (n := n) hst hw
      exact Rel.trans hst h (runS_rel f (n + 1) _ _ (by rw [h.steps]; exact hst) (h2.wait hw))
    · exact Rel.refl k r
theorem startR_rel {k : K} {r : Rd} {kn : List Int} (hst : 0 ≤ r.steps) (hw : WaitOk k r) : Rel k r (startR k r kn) := runS_rel _ _ _ _ hst hw
/-- Those that wait are not waived. -/
def WaitNW (k : K) (r : Rd) : Prop := ∀ z x, x ∈ r.wait z → (clAt k x.toNat).waived = false
theorem WaitNW.of_rel {k : K} {r r' : Rd} (h : WaitNW k r) (hr : Rel k r r') : WaitNW k r' := fun z x hx => h z x (hr.wait z x hx)
theorem addW_nw {k : K} {w : Wt2} {z : Int} {i : Nat} (hi : (clAt k i).waived = false) (h : ∀ y, ∀ x ∈ w.1 y, (clAt k x.toNat).waived = false) : ∀ y, ∀ x ∈ (addW w z i).1 y, (clAt k x.toNat).waived = false := by
  intro y x hx
  simp only [addW] at hx
  split at hx
  · simp at hx
    rcases hx with hx | rfl
    · exact h y x hx
    · simpa using hi
  · exact h y x hx
theorem condsTo_nw {k : K} {w : Wt2} {x : Cl} {i : Nat} (hi : (clAt k i).waived = false) (h : ∀ y, ∀ x ∈ w.1 y, (clAt k x.toNat).waived = false) : ∀ p, ∀ y, ∀ x_1 ∈ (condsTo x i w p).1 y, (clAt k x_1.toNat).waived = false
  | 0 => h
  | p + 1 => addW_nw hi (condsTo_nw hi h p)
theorem waitTo_nw (k : K) : ∀ n, ∀ y, ∀ x ∈ (waitTo k n).1 y, (clAt k x.toNat).waived = false
  | 0 => fun y x hx => by simp [waitTo] at hx
  | n + 1 => by
    have ih := waitTo_nw k n
    intro y
    simp only [waitTo]
    split
    · exact ih y
    · rename_i hw
      have hw : (clAt k n).waived = false := by simpa using hw
      split
      · exact condsTo_nw hw (addW_nw hw ih) _ y
      · exact condsTo_nw hw ih _ y
theorem followR_nw {k : K} (hk : KFacts k) (l : List Int) : ∀ n, n < 900000 → WaitNW k (followR k l n)
  | 0, _ => by
    have h : WaitNW k (begin0 k) := fun z x hx => waitTo_nw k _ z x hx
    exact h.of_rel (startR_rel (by simp [begin0]) (begin0_ok hk).wait)
  | n + 1, hn => by
    have ih := followR_nw hk l n (by omega)
    obtain ⟨h1, h2⟩ := followR_ok hk l n (by omega)
    show WaitNW k (stepR k (followR k l n) (l.getD n default))
    generalize followR k l n = r at ih h1 h2
    have h0 := h1.steps
    unfold stepR
    split
    · exact WaitNW.of_rel (r := tickTo k { r with steps := r.steps + 1 } (freeB k r.day) k.clauses.length) ih (startR_rel (by simp only [tickTo]; omega) h1.wait)
    · have hs := actR_same k { r with steps := r.steps + 1 } (l.getD n default).toNat
      refine WaitNW.of_rel (r := actR k { r with steps := r.steps + 1 } (l.getD n default).toNat) ?_ (startR_rel (by rw [hs.2.1]; simp only; omega) (by unfold WaitOk; rw [hs.1]; exact h1.wait))
      unfold WaitNW
      rw [hs.1]
      exact ih
/-- What a step makes of a clause, before clauses start. -/
def preOut (k : K) (r : Rd) (s : Int) (j : Nat) : Oc × (Int × Bool) :=
  if s = -1 then ((tickAt k { r with steps := r.steps + 1 } (freeB k r.day) j).1, (tickAt k { r with steps := r.steps + 1 } (freeB k r.day) j).2.1, (r.cnt j).2)
  else ((actR k { r with steps := r.steps + 1 } s.toNat).out j, (r.cnt j).1, (actAt1 k { r with steps := r.steps + 1 } s.toNat j).2.1)
/-- A step, clause by clause. -/
theorem step_out {k : K} {r : Rd} (h : RdOk k r) (hnw : WaitNW k r) (s : Int) {j : Nat} (hj : j < k.clauses.length) :
    (stepR k r s).cnt j = (preOut k r s j).2 ∧
    ((stepR k r s).out j = (preOut k r s j).1 ∨
      ((clAt k j).waived = false ∧ ((preOut k r s j).1).from_ < 0 ∧
        (stepR k r s).out j = { (preOut k r s j).1 with status := 1, from_ := r.steps + 1, bearer := if (clAt k j).kind ≠ 4 then (stepR k r s).hold (clAt k j).role.toNat else (preOut k r s j).1.bearer })) := by
  have h0 := h.steps
  unfold stepR preOut
  split
  · have hw : WaitOk k (tickTo k { r with steps := r.steps + 1 } (freeB k r.day) k.clauses.length) := h.wait
    have h1 := startR_kept (kn := endedT k { r with steps := r.steps + 1 } (freeB k r.day) k.clauses.length) (by simp only [tickTo]; omega) hw
    have h2 := startR_rel (kn := endedT k { r with steps := r.steps + 1 } (freeB k r.day) k.clauses.length) (by simp only [tickTo]; omega) hw
    have e1 : (tickTo k { r with steps := r.steps + 1 } (freeB k r.day) k.clauses.length).out j = (tickAt k { r with steps := r.steps + 1 } (freeB k r.day) j).1 := by simp [tickTo, hj]
    refine ⟨by rw [h1.cnt]; simp [tickTo, hj], ?_⟩
    simp only
    rw [h1.hold]
    rcases h2.out j with h3 | ⟨h3, ⟨z, h4⟩, h5⟩
    · exact .inl (h3.trans e1)
    · refine .inr ⟨by simpa using hnw z j h4, e1 ▸ h3, ?_⟩
      rw [h5, ← e1]
      rfl
  · have hs := actR_same k { r with steps := r.steps + 1 } s.toNat
    have hw : WaitOk k (actR k { r with steps := r.steps + 1 } s.toNat) := by unfold WaitOk; rw [hs.1]; exact h.wait
    have h1 := startR_kept (kn := endedA k { r with steps := r.steps + 1 } s.toNat k.clauses.length) (by rw [hs.2.1]; simp only; omega) hw
    have h2 := startR_rel (kn := endedA k { r with steps := r.steps + 1 } s.toNat k.clauses.length) (by rw [hs.2.1]; simp only; omega) hw
    refine ⟨?_, ?_⟩
    · rw [h1.cnt]
      unfold actR
      simp only
      split <;> simp [actTo, novTo, hj]
    · simp only
      rw [h1.hold]
      rcases h2.out j with h3 | ⟨h3, ⟨z, h4⟩, h5⟩
      · exact .inl h3
      · rw [hs.1] at h4
        refine .inr ⟨by simpa using hnw z j h4, h3, ?_⟩
        rw [h5]
        simp only [startOne]
        rw [hs.2.1]
end Go.Proofs.Ytiiegpjpckkohaa
end
section
/- The life of a clause in a trace: plain laws. -/
namespace Go.Proofs.Ytiiegpjpckkohaa
open Go.Eng
set_option maxRecDepth 10000
set_option linter.unusedSimpArgs false
set_option linter.unusedVariables false
/-- All days count for a clause. -/
def plainC (k : K) (x : Cl) : Prop := x.pause < 0 ∧ (x.business = false ∨ k.off = [])
/-- What is known of a clause after n steps. -/
inductive CInv (k : K) (x : Cl) (l : List Int) (n : Nat) (o : Oc) (c : Int × Bool) : Prop
  | waived (hw : x.waived = true) (ho : o = ⟨5, -1, 0, 0, -1⟩)
  | idle (hw : x.waived = false) (ho : o = ⟨0, -1, -1, 0, -1⟩) (hc : c = (0, false))
  | run (f : Nat) (hw : x.waived = false) (hf : o.from_ = f) (hfn : f ≤ n) (ht : o.to = -1) (hst : o.status = 1 ∨ o.status = 2) (h2 : o.status = 2 ↔ x.after ≤ c.1) (hc0 : 0 ≤ c.1) (hc1 : c.1 < x.after + x.grace)
      (hg1 : x.kind = 1 → 0 ≤ o.got ∧ o.got < x.need) (hg : x.kind ≠ 1 → o.got = 0) (hd : c.1 ≤ daysTo l n - daysTo l f) (hp : plainC k x → c.1 = daysTo l n - daysTo l f ∧ c.2 = false)
  | fin (f t : Nat) (hw : x.waived = false) (hf : o.from_ = f) (ht : o.to = (t + 1 : Nat)) (hft : f ≤ t) (htn : t < n) (hd : c.1 ≤ daysTo l (t + 1) - daysTo l f) (hp : plainC k x → c.1 = daysTo l (t + 1) - daysTo l f)
      (he : (l.getD t default = -1 ∧ o.status = (if x.kind = 1 then 4 else if x.kind = 2 then 3 else 5) ∧ (x.kind = 1 → 0 ≤ o.got ∧ o.got < x.need) ∧ (x.kind ≠ 1 → o.got = 0) ∧ c.1 = x.after + x.grace) ∨
        (l.getD t default = x.act ∧ o.status = (if x.kind = 2 then 4 else 3) ∧ (x.kind = 1 → o.got = x.need) ∧ (x.kind ≠ 1 → o.got = 0) ∧ c.1 < x.after + x.grace))
/-- What a valid clause gives. -/
structure ClOk (k : K) (x : Cl) : Prop where
  after : 1 ≤ x.after
  grace : 0 ≤ x.grace
  graceK : x.kind ≠ 1 → x.grace = 0
  need : 1 ≤ x.need
  act : 0 ≤ x.act
  kind : x.kind = 1 ∨ x.kind = 2 ∨ x.kind = 3 ∨ x.kind = 4
  pause : x.pause < 0 → x.pause = -1 ∧ x.resume = -1
theorem KFacts.clOk {k : K} (h : KFacts k) {i : Nat} (hi : i < k.clauses.length) : ClOk k (clAt k i) := by
  have hb := h.clB hi
  have hk := kind_facts hb.2.2.1
  have hp := hb.2.2.2.2.2.1
  refine ⟨hb.2.1.1, (grace_bd hb.2.2.1).1, ?_, ?_, hb.1.1, ?_, ?_⟩
  · rcases hk with h | ⟨_, _, h | h | h⟩ <;> intro h2 <;> omega
  · rcases hk with h | ⟨_, _, h | h | h⟩ <;> omega
  · rcases hk with h | ⟨_, _, h | h | h⟩ <;> omega
  · intro h2
    rcases hp with h | ⟨_, h, _⟩
    · exact h
    · simp only [natB, Bool.and_eq_true, decide_eq_true_eq] at h
      omega
theorem runsB_iff {o : Oc} : runsB o = true ↔ 0 ≤ o.from_ ∧ o.to < 0 := by simp [runsB]
theorem CInv.runs {k : K} {x : Cl} {l : List Int} {n : Nat} {o : Oc} {c : Int × Bool} (h : CInv k x l n o c) (hr : runsB o = true) : ∃ f : Nat, x.waived = false ∧ o.from_ = f ∧ f ≤ n ∧ o.to = -1 ∧ (o.status = 1 ∨ o.status = 2) ∧ (o.status = 2 ↔ x.after ≤ c.1) ∧ 0 ≤ c.1 ∧ c.1 < x.after + x.grace ∧
    (x.kind = 1 → 0 ≤ o.got ∧ o.got < x.need) ∧ (x.kind ≠ 1 → o.got = 0) ∧ c.1 ≤ daysTo l n - daysTo l f ∧ (plainC k x → c.1 = daysTo l n - daysTo l f ∧ c.2 = false) := by
  have hr := runsB_iff.1 hr
  cases h with
  | waived hw ho => rw [ho] at hr; simp at hr
  | idle hw ho => rw [ho] at hr; simp at hr
  | run f hw hf hfn ht hst h2 hc0 hc1 hg1 hg hd hp => exact ⟨f, hw, hf, hfn, ht, hst, h2, hc0, hc1, hg1, hg, hd, hp⟩
  | fin f t hw hf ht => omega
/-- A clause that does not run stays as it is. -/
theorem CInv.later {k : K} {x : Cl} {l : List Int} {n : Nat} {o : Oc} {c : Int × Bool} (h : CInv k x l n o c) (hr : runsB o = false) : CInv k x l (n + 1) o c := by
  cases h with
  | waived hw ho => exact .waived hw ho
  | idle hw ho hc => exact .idle hw ho hc
  | run f hw hf hfn ht =>
    have : runsB o = true := runsB_iff.2 ⟨by omega, by omega⟩
    rw [this] at hr; cases hr
  | fin f t hw hf ht hft htn hd hp he => exact .fin f t hw hf ht hft (by omega) hd hp he
theorem CInv.bearer {k : K} {x : Cl} {l : List Int} {n : Nat} {o : Oc} {c : Int × Bool} (h : CInv k x l n o c) (hr : runsB o = true) (b : Int) : CInv k x l n { o with bearer := b } c := by
  obtain ⟨f, hw, hf, hfn, ht, hst, h2, hc0, hc1, hg1, hg, hd, hp⟩ := h.runs hr
  exact .run f hw hf hfn ht hst h2 hc0 hc1 hg1 hg hd hp
theorem daysTo_tick {l : List Int} {n : Nat} (h : l.getD n default = -1) : daysTo l (n + 1) = daysTo l n + 1 := by
  rw [daysTo, if_pos h]
theorem daysTo_act {l : List Int} {n : Nat} (h : l.getD n default ≠ -1) : daysTo l (n + 1) = daysTo l n := by
  rw [daysTo, if_neg h]
theorem CInv.tick {k : K} {x : Cl} (hx : ClOk k x) {l : List Int} {n : Nat} {o : Oc} {c : Int × Bool} (h : CInv k x l n o c) (hs : l.getD n default = -1) (day : Int) :
    CInv k x l (n + 1) (tickOne x (freeB k day) (n + 1) o c).1 ((tickOne x (freeB k day) (n + 1) o c).2.1, c.2) := by
  have hdt := daysTo_tick hs
  have hgr := hx.grace
  have haf := hx.after
  unfold tickOne
  by_cases hr : runsB o = true
  · obtain ⟨f, hw, hf, hfn, ht, hst, h2, hc0, hc1, hg1, hg, hd, hp⟩ := h.runs hr
    have hfn' : f ≤ n + 1 := by omega
    split
    · rename_i h3
      refine .run f hw hf hfn' ht hst h2 hc0 hc1 hg1 hg (by simp only; omega) fun hpl => ?_
      exfalso
      have h4 := hp hpl
      simp only [hr, Bool.not_true, Bool.false_or, h4.2, Bool.and_eq_true] at h3
      rcases hpl.2 with h5 | h5
      · rw [h5] at h3; simp at h3
      · have : freeB k day = false := by simp [freeB, h5]
        rw [this] at h3; simp at h3
    · split
      · rename_i h4
        refine .run f hw hf hfn' ht hst ?_ (by simp only; omega) (by simp only; omega) hg1 hg (by simp only; omega) fun hpl => ⟨by have := (hp hpl).1; simp only; omega, (hp hpl).2⟩
        simp only
        constructor
        · intro h5; have := h2.1 h5; omega
        · intro h5; omega
      · split
        · rename_i h4 h5
          refine .run f hw hf hfn' ht (.inr rfl) ?_ (by simp only; omega) (by simp only; omega) hg1 hg (by simp only; omega) fun hpl => ⟨by have := (hp hpl).1; simp only; omega, (hp hpl).2⟩
          simp only
          exact ⟨fun _ => by omega, fun _ => trivial⟩
        · rename_i h4 h5
          refine .fin f n hw hf rfl hfn (by omega) (by simp only; omega) (fun hpl => by have := (hp hpl).1; simp only; omega) (.inl ⟨hs, rfl, hg1, hg, by simp only; omega⟩)
  · have hr : runsB o = false := by simpa using hr
    rw [if_pos (by simp [hr])]
    exact h.later hr
theorem CInv.act {k : K} {x : Cl} (hx : ClOk k x) {l : List Int} {n : Nat} {o : Oc} {c : Int × Bool} (h : CInv k x l n o c) {s : Int} (hs : l.getD n default = s) (hs0 : 0 ≤ s) (takes : Bool) (doer : Int) :
    CInv k x l (n + 1) (actOne x s takes doer (n + 1) o c.2).1 (c.1, (actOne x s takes doer (n + 1) o c.2).2.1) := by
  have hdt := daysTo_act (l := l) (n := n) (by rw [hs]; omega)
  unfold actOne
  by_cases hr : runsB o = true
  · rw [if_pos hr]
    obtain ⟨f, hw, hf, hfn, ht, hst, h2, hc0, hc1, hg1, hg, hd, hp⟩ := h.runs hr
    have hfn' : f ≤ n + 1 := by omega
    simp only
    have hpp : plainC k x → (if x.resume = s then false else if x.pause = s then true else c.2) = c.2 := fun hpl => by
      have := hx.pause hpl.1
      rw [if_neg (by omega), if_neg (by omega)]
    generalize (if x.resume = s then false else if x.pause = s then true else c.2) = c2 at hpp
    have hrun : ∀ o' : Oc, o'.from_ = o.from_ → o'.to = o.to → o'.status = o.status → (x.kind = 1 → 0 ≤ o'.got ∧ o'.got < x.need) → (x.kind ≠ 1 → o'.got = 0) → CInv k x l (n + 1) o' (c.1, c2) := fun o' e1 e2 e3 e4 e5 =>
      .run f hw (e1.trans hf) hfn' (e2.trans ht) (by rw [e3]; exact hst) (by rw [e3]; exact h2) hc0 hc1 e4 e5 (by simp only; omega) fun hpl => ⟨by have := (hp hpl).1; simp only; omega, by rw [hpp hpl]; exact (hp hpl).2⟩
    split
    · rename_i hta
      have hta : x.act = s := by
        simp only [Bool.and_eq_true, beq_iff_eq] at hta
        exact hta.2
      have hfin : ∀ o' : Oc, o'.from_ = o.from_ → o'.to = (n + 1 : Nat) → o'.status = (if x.kind = 2 then 4 else 3) → (x.kind = 1 → o'.got = x.need) → (x.kind ≠ 1 → o'.got = 0) → CInv k x l (n + 1) o' (c.1, c2) := fun o' e1 e2 e3 e4 e5 =>
        .fin f n hw (e1.trans hf) e2 hfn (by omega) (by simp only; omega) (fun hpl => by have := (hp hpl).1; simp only; omega) (.inr ⟨hs.trans hta.symm, e3, e4, e5, hc1⟩)
      unfold countOne
      split
      · exact hrun o rfl rfl rfl hg1 hg
      · split
        · rename_i h3
          have h4 := hg1 h3
          split
          · exact hrun _ rfl rfl rfl (fun _ => ⟨by simp only; omega, by simp only; assumption⟩) (fun h5 => absurd h3 h5)
          · exact hfin _ rfl rfl (by rw [if_neg (by omega)]) (fun _ => by simp only; omega) (fun h5 => absurd h3 h5)
        · rename_i h3
          split
          · rename_i h4
            split
            · exact hrun o rfl rfl rfl hg1 hg
            · exact hfin _ rfl rfl (by rw [if_pos h4]) (fun h5 => absurd h5 h3) (fun _ => hg h3)
          · rename_i h4
            exact hfin _ rfl rfl (by rw [if_neg h4]) (fun h5 => absurd h5 h3) (fun _ => hg h3)
    · exact hrun o rfl rfl rfl hg1 hg
  · have hr' : runsB o = false := by simpa using hr
    rw [if_neg hr]
    exact h.later hr'
theorem CInv.start {k : K} {x : Cl} (hx : ClOk k x) {l : List Int} {n : Nat} {o : Oc} {c : Int × Bool} (h : CInv k x l n o c) (hw : x.waived = false) (hf : o.from_ < 0) (b : Int) : CInv k x l n { o with status := 1, from_ := n, bearer := b } c := by
  cases h with
  | waived hw' => rw [hw] at hw'; cases hw'
  | idle _ ho hc =>
    subst ho hc
    have h1 := hx.after
    have h2 := hx.grace
    have h3 := hx.need
    exact .run n hw rfl (Nat.le_refl _) rfl (.inl rfl) (by simp only; omega) (by simp) (by simp only; omega) (fun _ => ⟨by simp, by simp only; omega⟩) (fun _ => rfl) (by simp) (fun _ => ⟨by simp, rfl⟩)
  | run f hw' hf' => omega
  | fin f t hw' hf' => omega
theorem actR_out (k : K) (r : Rd) (s j : Nat) : (actR k r s).out j = (actTo k r s k.clauses.length).out j ∨ (runsB ((actTo k r s k.clauses.length).out j) = true ∧ takesB k r s = true ∧ (acAt k s).kind = 3 ∧ (clAt k j).role = (acAt k s).give ∧ (clAt k j).kind ≠ 4 ∧ (actR k r s).out j = { (actTo k r s k.clauses.length).out j with bearer := (acAt k s).to }) := by
  unfold actR
  simp only
  split
  · exact .inl rfl
  · rename_i h1
    simp only [novTo]
    split
    · split
      · rename_i h2
        exact .inr ⟨h2.2.1, by simpa using fun h => h1 (.inl h), h2.1, h2.2.2.2, h2.2.2.1, rfl⟩
      · exact .inl rfl
    · exact .inl rfl
/-- The law of a clause's life. -/
theorem clause_inv {k : K} (hk : KFacts k) {l : List Int} (hl : stepsOk k l) {j : Nat} (hj : j < k.clauses.length) : ∀ n, n ≤ l.length → n < 900000 → CInv k (clAt k j) l n ((followR k l n).out j) ((followR k l n).cnt j)
  | 0, _, _ => by
    have hx := hk.clOk hj
    have h0 := begin0_ok hk
    have hb : CInv k (clAt k j) l 0 ((begin0 k).out j) ((begin0 k).cnt j) := by
      simp only [begin0, firstOut]
      split
      · rename_i hw; exact .waived hw rfl
      · rename_i hw; exact .idle (by simpa using hw) rfl rfl
    have h1 := startR_kept (k := k) (r := begin0 k) (kn := knownTo k k.clauses.length) (by simp [begin0]) h0.wait
    show CInv k (clAt k j) l 0 ((beginR k).out j) ((beginR k).cnt j)
    rw [beginR, h1.cnt]
    rcases (startR_rel (k := k) (r := begin0 k) (kn := knownTo k k.clauses.length) (by simp [begin0]) h0.wait).out j with h2 | ⟨h2, ⟨z, h3⟩, h4⟩
    · rw [h2]; exact hb
    · rw [h4]
      exact hb.start hx (by simpa using waitTo_nw k _ z j h3) h2 _
  | n + 1, hn, hn2 => by
    have hx := hk.clOk hj
    have ih := clause_inv hk hl hj n (by omega) (by omega)
    obtain ⟨hok, hst⟩ := followR_ok hk l n (by omega)
    have hnw := followR_nw hk l n (by omega)
    have hs := hl n (by omega)
    show CInv k (clAt k j) l (n + 1) ((stepR k (followR k l n) (l.getD n default)).out j) ((stepR k (followR k l n) (l.getD n default)).cnt j)
    obtain ⟨h1, h2⟩ := step_out hok hnw (l.getD n default) hj
    generalize hz : l.getD n default = s at hs h1 h2 ⊢
    generalize followR k l n = r at ih hok hst hnw h1 h2 ⊢
    have hpre : CInv k (clAt k j) l (n + 1) (preOut k r s j).1 (preOut k r s j).2 := by
      unfold preOut
      split
      · rename_i h3
        have := ih.tick hx (by rw [hz, h3]) r.day
        simp only [tickAt, hst]
        exact this
      · rename_i h3
        have hs0 : 0 ≤ s ∧ s < k.acts.length := hs.resolve_left h3
        have h4 := ih.act hx hz hs0.1 (takesB k { r with steps := r.steps + 1 } s.toNat) (doerOf k { r with steps := r.steps + 1 } s.toNat)
        have h5 : (actTo k { r with steps := r.steps + 1 } s.toNat k.clauses.length).out j = (actAt1 k { r with steps := r.steps + 1 } s.toNat j).1 := by simp [actTo, hj]
        have h6 : actAt1 k { r with steps := r.steps + 1 } s.toNat j = actOne (clAt k j) s (takesB k { r with steps := r.steps + 1 } s.toNat) (doerOf k { r with steps := r.steps + 1 } s.toNat) (n + 1) (r.out j) (r.cnt j).2 := by
          simp only [actAt1, hst]
          rw [Int.toNat_of_nonneg hs0.1]
        rw [h6] at h5 ⊢
        rcases actR_out k { r with steps := r.steps + 1 } s.toNat j with h7 | ⟨h7, _, _, _, _, h8⟩
        · simp only
          rw [h7, h5]; exact h4
        · simp only
          rw [h8, h5]
          rw [h5] at h7
          exact h4.bearer h7 _
    rw [h1]
    rcases h2 with h2 | ⟨h2, h3, h4⟩
    · rw [h2]; exact hpre
    · rw [h4]
      have := hpre.start hx h2 h3 (if (clAt k j).kind ≠ 4 then (stepR k r s).hold (clAt k j).role.toNat else (preOut k r s j).1.bearer)
      rw [show (r.steps + 1 : Int) = ((n + 1 : Nat) : Int) by rw [hst]; rfl]
      exact this
end Go.Proofs.Ytiiegpjpckkohaa
end
