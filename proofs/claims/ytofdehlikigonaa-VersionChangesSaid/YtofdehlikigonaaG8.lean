import Derived.Test.YtofdehlikigonaaG7
section
/- Contracts: the references' comparisons (layer 13). -/
namespace Go.Proofs.Ytofdehlikigonaa
open Go.Eng
set_option maxRecDepth 10000
set_option linter.unusedSimpArgs false
set_option linter.unusedVariables false
def intB (a b : Int) : Bool := a == b
theorem intB_iff (a b : Int) : intB a b = true ↔ a = b := by simp [intB]
theorem ints13_ok (l m : List Int) (hl : l.length ≤ 1000000) : Does Try.prog 15 [intsV l, intsV m] (.c (.bool (listB intB l m))) := by
  refine Does.mk (fun _ => false) TT_ok Try.func15 rfl (by kernel_rfl) Try.ntmps15 rfl rfl fun E hT hE hN hR => ?_
  have hm : E.P.follows .mixedOrders = true := by rw [hE]; kernel_rfl
  (repeat (first | refine XK.norm rfl rfl ?_ | refine XK.rgnA hT rfl rfl rfl ?_ | refine XK.rgnB hT hm rfl rfl rfl ?_)); refine XK.cond rfl (fun h1 => ?_) (fun h1 => ?_) <;> (try simp at h1)
  · (repeat (first | refine XK.norm rfl rfl ?_ | refine XK.rgnA hT rfl rfl rfl ?_ | refine XK.rgnB hT hm rfl rfl rfl ?_))
    (first | refine XK.out rfl rfl rfl ?_ | refine XK.outN rfl rfl rfl ?_)
    exact cB (listB_no (.inl (by omega))).symm
  (repeat (first | refine XK.norm rfl rfl ?_ | refine XK.rgnA hT rfl rfl rfl ?_ | refine XK.rgnB hT hm rfl rfl rfl ?_))
  refine XK.loop (ι := Nat) (fun i => ST.of [(0, intsV l), (1, intsV m), (5, .c (.int .i64 i))] [] 1000 26 (fun _ => false))
    (fun i => i ≤ l.length ∧ ∀ j, j < i → intB (l.getD j default) (m.getD j default) = true) (fun i => l.length - i) 0 ⟨Nat.zero_le _, fun j hj => absurd hj (Nat.not_lt_zero _)⟩ (Weak.of hN rfl rfl rfl (by (repeat' (first | exact rfl | exact AvIs.refl _ | exact trivial | exact fun _ _ => rfl | exact fun _ _ => ⟨rfl, AvIs.refl _⟩ | refine ⟨?_, ?_⟩))) (by (repeat' (first | exact rfl | exact AvIs.refl _ | exact trivial | exact fun _ _ => rfl | exact fun _ _ => ⟨rfl, AvIs.refl _⟩ | refine ⟨?_, ?_⟩)))) fun i hi => ?_
  obtain ⟨hi, hj⟩ := hi
  (repeat (first | refine XK.norm rfl rfl ?_ | refine XK.rgnA hT rfl rfl rfl ?_ | refine XK.rgnB hT hm rfl rfl rfl ?_)); refine XK.cond rfl (fun hlt => ?_) (fun hlt => ?_) <;> (try simp at hlt)
  · have fx : l.getD (i : Int).toNat default = l.getD i default := rfl
    have fy : m.getD (i : Int).toNat default = m.getD i default := rfl
    (repeat (first | refine XK.norm rfl rfl ?_ | refine XK.rgnA hT rfl rfl rfl ?_ | refine XK.rgnB hT hm rfl rfl rfl ?_))
    rw [fx, fy]
    (repeat (first | refine XK.norm rfl rfl ?_ | refine XK.rgnA hT rfl rfl rfl ?_ | refine XK.rgnB hT hm rfl rfl rfl ?_)); refine XK.cond rfl (fun h2 => ?_) (fun h2 => ?_)
    · have h2 : l.getD i default ≠ m.getD i default := by simpa using h2
      (repeat (first | refine XK.norm rfl rfl ?_ | refine XK.rgnA hT rfl rfl rfl ?_ | refine XK.rgnB hT hm rfl rfl rfl ?_))
      (first | refine XK.out rfl rfl rfl ?_ | refine XK.outN rfl rfl rfl ?_)
      exact cB (listB_no (.inr ⟨i, hlt, by simpa [intB] using h2⟩)).symm
    · have h2 : l.getD i default = m.getD i default := by simpa using h2
      (repeat (first | refine XK.norm rfl rfl ?_ | refine XK.rgnA hT rfl rfl rfl ?_ | refine XK.rgnB hT hm rfl rfl rfl ?_))
      refine XK.inv ⟨i + 1, ⟨hlt, fun j hj' => ?_⟩, (Weak.of hN rfl rfl rfl (by (repeat' (first | exact rfl | exact AvIs.refl _ | exact trivial | exact fun _ _ => rfl | exact fun _ _ => ⟨rfl, AvIs.refl _⟩ | refine ⟨?_, ?_⟩))) (by (repeat' (first | exact rfl | exact AvIs.refl _ | exact trivial | exact fun _ _ => rfl | exact fun _ _ => ⟨rfl, AvIs.refl _⟩ | refine ⟨?_, ?_⟩)))), by omega⟩
      by_cases e : j = i
      · subst e; simpa [intB] using h2
      · exact hj j (by omega)
  · (repeat (first | refine XK.norm rfl rfl ?_ | refine XK.rgnA hT rfl rfl rfl ?_ | refine XK.rgnB hT hm rfl rfl rfl ?_))
    (first | refine XK.out rfl rfl rfl ?_ | refine XK.outN rfl rfl rfl ?_)
    exact cB (listB_at.2 ⟨by omega, fun j hj' => hj j (by omega)⟩).symm
theorem clauses13_ok (a b : Cl) (hs : a.start.length ≤ 1000000) : Does Try.prog 30 [clV a, clV b] (.c (.bool (clB a b))) := by
  refine Does.mk (fun _ => false) TT_ok Try.func30 rfl (by kernel_rfl) Try.ntmps30 rfl rfl fun E hT hE hN hR => ?_
  have hm : E.P.follows .mixedOrders = true := by rw [hE]; kernel_rfl
  (repeat (first | refine XK.norm rfl rfl ?_ | refine XK.rgnA hT rfl rfl rfl ?_ | refine XK.rgnB hT hm rfl rfl rfl ?_)); refine XK.cond rfl (fun h1 => ?_) (fun h1 => ?_)
  · (repeat (first | refine XK.norm rfl rfl ?_ | refine XK.rgnA hT rfl rfl rfl ?_ | refine XK.rgnB hT hm rfl rfl rfl ?_))
    (first | refine XK.out rfl rfl rfl ?_ | refine XK.outN rfl rfl rfl ?_)
    refine cB (Eq.symm ?_)
    rw [Bool.eq_false_iff]
    intro h
    rw [clB_iff] at h
    subst h
    simp at h1
  have h1' : a.start.length = b.start.length ∧ a.kind = b.kind ∧ a.role = b.role ∧ a.act = b.act ∧ a.need = b.need ∧ a.after = b.after ∧ a.grace = b.grace ∧ a.business = b.business ∧ a.final = b.final := by
    simp only [Bool.or_eq_false_iff, bne_eq_false_iff_eq, Bool.not_eq_false', beq_iff_eq] at h1
    obtain ⟨⟨⟨⟨⟨⟨⟨⟨e1, e2⟩, e3⟩, e4⟩, e5⟩, e6⟩, e7⟩, e8⟩, e9⟩ := h1
    exact ⟨by omega, e2, e3, e4, e5, e6, e7, e8, e9⟩
  obtain ⟨e1, e2, e3, e4, e5, e6, e7, e8, e9⟩ := h1'
  clear h1
  (repeat (first | refine XK.norm rfl rfl ?_ | refine XK.rgnA hT rfl rfl rfl ?_ | refine XK.rgnB hT hm rfl rfl rfl ?_))
  refine XK.loop (ι := Nat) (fun i => ST.of [(2, .rptr (clC a)), (3, .rptr (clC b)), (5, .c (.int .i64 i))] [] 1000 127 (fun _ => false))
    (fun i => i ≤ a.start.length ∧ ∀ j, j < i → cndB (a.start.getD j default) (b.start.getD j default) = true) (fun i => a.start.length - i) 0 ⟨Nat.zero_le _, fun j hj => absurd hj (Nat.not_lt_zero _)⟩ (Weak.trans (Weak.frozenC (k := 2) hN rfl rfl rfl) (Weak.trans (Weak.frozenC (k := 3) hN rfl rfl rfl) (Weak.of hN rfl rfl rfl (by (repeat' (first | exact rfl | exact AvIs.refl _ | exact trivial | exact fun _ _ => rfl | exact fun _ _ => ⟨rfl, AvIs.refl _⟩ | refine ⟨?_, ?_⟩))) (by (repeat' (first | exact rfl | exact AvIs.refl _ | exact trivial | exact fun _ _ => rfl | exact fun _ _ => ⟨rfl, AvIs.refl _⟩ | refine ⟨?_, ?_⟩)))))) fun i hi => ?_
  obtain ⟨hi, hj⟩ := hi
  (repeat (first | refine XK.norm rfl rfl ?_ | refine XK.rgnA hT rfl rfl rfl ?_ | refine XK.rgnB hT hm rfl rfl rfl ?_)); refine XK.cond rfl (fun hlt => ?_) (fun hlt => ?_) <;> (try simp at hlt)
  · have fx : a.start.getD (i : Int).toNat default = a.start.getD i default := rfl
    have fy : b.start.getD (i : Int).toNat default = b.start.getD i default := rfl
    have hb : cndB (a.start.getD i default) (b.start.getD i default) = ((a.start.getD i default).clause == (b.start.getD i default).clause && (a.start.getD i default).is == (b.start.getD i default).is) := rfl
    (repeat (first | refine XK.norm rfl rfl ?_ | refine XK.rgnA hT rfl rfl rfl ?_ | refine XK.rgnB hT hm rfl rfl rfl ?_))
    rw [fx, fy]
    (repeat (first | refine XK.norm rfl rfl ?_ | refine XK.rgnA hT rfl rfl rfl ?_ | refine XK.rgnB hT hm rfl rfl rfl ?_)); refine XK.cond rfl (fun h2 => ?_) (fun h2 => ?_)
    · (repeat (first | refine XK.norm rfl rfl ?_ | refine XK.rgnA hT rfl rfl rfl ?_ | refine XK.rgnB hT hm rfl rfl rfl ?_))
      (first | refine XK.out rfl rfl rfl ?_ | refine XK.outN rfl rfl rfl ?_)
      refine cB (Eq.symm ?_)
      rw [Bool.eq_false_iff]
      intro h
      rw [clB_iff] at h
      subst h
      rw [← hb, (cndB_iff _ _).2 rfl] at h2
      cases h2
    · (repeat (first | refine XK.norm rfl rfl ?_ | refine XK.rgnA hT rfl rfl rfl ?_ | refine XK.rgnB hT hm rfl rfl rfl ?_))
      refine XK.inv ⟨i + 1, ⟨hlt, fun j hj' => ?_⟩, (Weak.of hN rfl rfl rfl (by (repeat' (first | exact rfl | exact AvIs.refl _ | exact trivial | exact fun _ _ => rfl | exact fun _ _ => ⟨rfl, AvIs.refl _⟩ | refine ⟨?_, ?_⟩))) (by (repeat' (first | exact rfl | exact AvIs.refl _ | exact trivial | exact fun _ _ => rfl | exact fun _ _ => ⟨rfl, AvIs.refl _⟩ | refine ⟨?_, ?_⟩)))), by omega⟩
      by_cases e : j = i
      · subst e; rw [hb]; simpa using h2
      · exact hj j (by omega)
  · have hs : listB cndB a.start b.start = true := listB_at.2 ⟨e1, fun j hj' => hj j (by omega)⟩
    (repeat (first | refine XK.norm rfl rfl ?_ | refine XK.rgnA hT rfl rfl rfl ?_ | refine XK.rgnB hT hm rfl rfl rfl ?_))
    (first | refine XK.out rfl rfl rfl ?_ | refine XK.outN rfl rfl rfl ?_)
    refine cB ?_
    unfold clB
    rw [hs, e2, e3, e4, e5, e6, e7, e8, e9]
    simp
end Go.Proofs.Ytofdehlikigonaa
end
section
/- Contracts: the references' comparison of contracts (layer 13). -/
namespace Go.Proofs.Ytofdehlikigonaa
open Go.Eng
set_option maxRecDepth 10000
set_option linter.unusedSimpArgs false
set_option linter.unusedVariables false
def unitB (a b : U) : Bool := a.name == b.name && (a.kind == b.kind && (a.base == b.base && (a.fac.1 == b.fac.1 && a.fac.2 == b.fac.2)))
theorem unitB_iff (a b : U) : unitB a b = true ↔ a = b := by
  obtain ⟨a1, a2, a3, a4, a5⟩ := a
  obtain ⟨b1, b2, b3, b4, b5⟩ := b
  simp only [unitB, Bool.and_eq_true, beq_iff_eq, U.mk.injEq, Prod.mk.injEq, Go.MapKept.bytes_beq]
def actEq (a b : Act) : Bool := a.kind == b.kind && (a.role == b.role && (a.give == b.give && (a.to == b.to && (a.unit == b.unit && (a.lot.1 == b.lot.1 && a.lot.2 == b.lot.2)))))
theorem actEq_iff (a b : Act) : actEq a b = true ↔ a = b := by
  obtain ⟨a1, a2, a3, a4, a5, a6, a7⟩ := a
  obtain ⟨b1, b2, b3, b4, b5, b6, b7⟩ := b
  simp only [actEq, Bool.and_eq_true, beq_iff_eq, Act.mk.injEq, Prod.mk.injEq]
def sameR (a b : K) : Bool := a.parties == b.parties && a.days == b.days && listB intB a.holders b.holders && listB intB a.off b.off && listB unitB a.units b.units && listB actEq a.acts b.acts && listB clB a.clauses b.clauses
theorem sameR_iff (a b : K) : sameR a b = true ↔ a = b := by
  cases a; cases b
  simp only [sameR, Bool.and_eq_true, beq_iff_eq, listB_iff intB_iff, listB_iff unitB_iff, listB_iff actEq_iff, listB_iff clB_iff, K.mk.injEq]
  constructor <;> (intro h; simp only [h, and_self])
structure KB (k : K) : Prop where
  h : k.holders.length ≤ 1000000
  o : k.off.length ≤ 1000000
  u : k.units.length ≤ 1000000
  a : k.acts.length ≤ 1000000
  c : k.clauses.length ≤ 1000000
  s : ∀ i, i < k.clauses.length → (k.clauses.getD i default).start.length ≤ 1000000
theorem same13_ok (a b : K) (hb : KB a) : Does Try.prog 14 [kV a, kV b] (.c (.bool (sameR a b))) := by
  obtain ⟨b1, b2, b3, b4, b5, b6⟩ := hb
  refine Does.mk (fun _ => false) TT_ok Try.func14 rfl (by kernel_rfl) Try.ntmps14 rfl rfl fun E hT hE hN hR => ?_
  have hm : E.P.follows .mixedOrders = true := by rw [hE]; kernel_rfl
  (repeat (first | refine XK.norm rfl rfl ?_ | refine XK.rgnA hT rfl rfl rfl ?_ | refine XK.rgnB hT hm rfl rfl rfl ?_)); refine XK.region ?_; refine XL.goA hT rfl rfl rfl rfl ?_
  refine XL.callGA hE rfl rfl rfl rfl rfl rfl rfl rfl (ints13_ok a.holders b.holders b1) rfl ?_
  refine XL.goA hT rfl rfl rfl rfl ?_
  refine XL.callGA hE rfl rfl rfl rfl rfl rfl rfl rfl (ints13_ok a.off b.off b2) rfl ?_
  refine XL.goA hT rfl rfl rfl rfl ?_; refine XL.fin ?_; (repeat (first | refine XK.norm rfl rfl ?_ | refine XK.rgnA hT rfl rfl rfl ?_ | refine XK.rgnB hT hm rfl rfl rfl ?_))
  (repeat (first | refine XK.norm rfl rfl ?_ | refine XK.rgnA hT rfl rfl rfl ?_ | refine XK.rgnB hT hm rfl rfl rfl ?_)); refine XK.cond rfl (fun h1 => ?_) (fun h1 => ?_)
  · (repeat (first | refine XK.norm rfl rfl ?_ | refine XK.rgnA hT rfl rfl rfl ?_ | refine XK.rgnB hT hm rfl rfl rfl ?_))
    (first | refine XK.out rfl rfl rfl ?_ | refine XK.outN rfl rfl rfl ?_)
    refine cB (Eq.symm ?_)
    rw [Bool.eq_false_iff]
    intro h
    rw [sameR_iff] at h
    subst h
    rw [(listB_iff intB_iff).2 rfl, (listB_iff intB_iff).2 rfl] at h1
    simp at h1
  simp only [Bool.or_eq_false_iff, bne_eq_false_iff_eq, Bool.not_eq_false'] at h1
  obtain ⟨⟨⟨⟨⟨⟨e1, e2⟩, e3⟩, e4⟩, e5⟩, e6⟩, e7⟩ := h1
  (repeat (first | refine XK.norm rfl rfl ?_ | refine XK.rgnA hT rfl rfl rfl ?_ | refine XK.rgnB hT hm rfl rfl rfl ?_))
  refine XK.loop (ι := Nat) (fun i => ST.of [(2, .rptr (kC a)), (3, .rptr (kC b)), (5, .c (.int .i64 i))] [] 1000 118 (fun _ => false))
    (fun i => i ≤ a.units.length ∧ ∀ j, j < i → unitB (a.units.getD j default) (b.units.getD j default) = true) (fun i => a.units.length - i) 0 ⟨Nat.zero_le _, fun j hj => absurd hj (Nat.not_lt_zero _)⟩ (Weak.trans (Weak.frozenC (k := 2) hN rfl rfl rfl) (Weak.trans (Weak.frozenC (k := 3) hN rfl rfl rfl) (Weak.of hN rfl rfl rfl (by (repeat' (first | exact rfl | exact AvIs.refl _ | exact trivial | exact fun _ _ => rfl | exact fun _ _ => ⟨rfl, AvIs.refl _⟩ | refine ⟨?_, ?_⟩))) (by (repeat' (first | exact rfl | exact AvIs.refl _ | exact trivial | exact fun _ _ => rfl | exact fun _ _ => ⟨rfl, AvIs.refl _⟩ | refine ⟨?_, ?_⟩)))))) fun i hi => ?_
  obtain ⟨hi, hj⟩ := hi
  (repeat (first | refine XK.norm rfl rfl ?_ | refine XK.rgnA hT rfl rfl rfl ?_ | refine XK.rgnB hT hm rfl rfl rfl ?_)); refine XK.cond rfl (fun hlt => ?_) (fun hlt => ?_) <;> (try simp at hlt)
  · have fx : a.units.getD (i : Int).toNat default = a.units.getD i default := rfl
    have fy : b.units.getD (i : Int).toNat default = b.units.getD i default := rfl
    (repeat (first | refine XK.norm rfl rfl ?_ | refine XK.rgnA hT rfl rfl rfl ?_ | refine XK.rgnB hT hm rfl rfl rfl ?_))
    rw [fx, fy]
    (repeat (first | refine XK.norm rfl rfl ?_ | refine XK.rgnA hT rfl rfl rfl ?_ | refine XK.rgnB hT hm rfl rfl rfl ?_)); refine XK.cond rfl (fun h2 => ?_) (fun h2 => ?_)
    · (repeat (first | refine XK.norm rfl rfl ?_ | refine XK.rgnA hT rfl rfl rfl ?_ | refine XK.rgnB hT hm rfl rfl rfl ?_))
      (first | refine XK.out rfl rfl rfl ?_ | refine XK.outN rfl rfl rfl ?_)
      refine cB (Eq.symm ?_)
      rw [Bool.eq_false_iff]
      intro h
      rw [sameR_iff] at h
      subst h
      have : unitB (a.units.getD i default) (a.units.getD i default) = true := (unitB_iff _ _).2 rfl
      simp only [unitB] at this
      rw [this] at h2
      cases h2
    · have h2 : unitB (a.units.getD i default) (b.units.getD i default) = true := by simpa [unitB] using h2
      (repeat (first | refine XK.norm rfl rfl ?_ | refine XK.rgnA hT rfl rfl rfl ?_ | refine XK.rgnB hT hm rfl rfl rfl ?_))
      refine XK.inv ⟨i + 1, ⟨hlt, fun j hj' => ?_⟩, (Weak.of hN rfl rfl rfl (by (repeat' (first | exact rfl | exact AvIs.refl _ | exact trivial | exact fun _ _ => rfl | exact fun _ _ => ⟨rfl, AvIs.refl _⟩ | refine ⟨?_, ?_⟩))) (by (repeat' (first | exact rfl | exact AvIs.refl _ | exact trivial | exact fun _ _ => rfl | exact fun _ _ => ⟨rfl, AvIs.refl _⟩ | refine ⟨?_, ?_⟩)))), by omega⟩
      by_cases e : j = i
      · subst e; exact h2
      · exact hj j (by omega)
  have hu : listB unitB a.units b.units = true := listB_at.2 ⟨by omega, fun j hj' => hj j (by omega)⟩
  clear hj hi hlt
  (repeat (first | refine XK.norm rfl rfl ?_ | refine XK.rgnA hT rfl rfl rfl ?_ | refine XK.rgnB hT hm rfl rfl rfl ?_))
  refine XK.loop (ι := Nat) (fun i => ST.of [(2, .rptr (kC a)), (3, .rptr (kC b)), (6, .c (.int .i64 i))] [] 2000 118 (fun _ => false))
    (fun i => i ≤ a.acts.length ∧ ∀ j, j < i → actEq (a.acts.getD j default) (b.acts.getD j default) = true) (fun i => a.acts.length - i) 0 ⟨Nat.zero_le _, fun j hj => absurd hj (Nat.not_lt_zero _)⟩ (Weak.of hN rfl rfl rfl (by (repeat' (first | exact rfl | exact AvIs.refl _ | exact trivial | exact fun _ _ => rfl | exact fun _ _ => ⟨rfl, AvIs.refl _⟩ | refine ⟨?_, ?_⟩))) (by (repeat' (first | exact rfl | exact AvIs.refl _ | exact trivial | exact fun _ _ => rfl | exact fun _ _ => ⟨rfl, AvIs.refl _⟩ | refine ⟨?_, ?_⟩)))) fun i hi => ?_
  obtain ⟨hi, hj⟩ := hi
  (repeat (first | refine XK.norm rfl rfl ?_ | refine XK.rgnA hT rfl rfl rfl ?_ | refine XK.rgnB hT hm rfl rfl rfl ?_)); refine XK.cond rfl (fun hlt => ?_) (fun hlt => ?_) <;> (try simp at hlt)
  · have fx : a.acts.getD (i : Int).toNat default = a.acts.getD i default := rfl
    have fy : b.acts.getD (i : Int).toNat default = b.acts.getD i default := rfl
    (repeat (first | refine XK.norm rfl rfl ?_ | refine XK.rgnA hT rfl rfl rfl ?_ | refine XK.rgnB hT hm rfl rfl rfl ?_))
    rw [fx, fy]
    (repeat (first | refine XK.norm rfl rfl ?_ | refine XK.rgnA hT rfl rfl rfl ?_ | refine XK.rgnB hT hm rfl rfl rfl ?_)); refine XK.cond rfl (fun h2 => ?_) (fun h2 => ?_)
    · (repeat (first | refine XK.norm rfl rfl ?_ | refine XK.rgnA hT rfl rfl rfl ?_ | refine XK.rgnB hT hm rfl rfl rfl ?_))
      (first | refine XK.out rfl rfl rfl ?_ | refine XK.outN rfl rfl rfl ?_)
      refine cB (Eq.symm ?_)
      rw [Bool.eq_false_iff]
      intro h
      rw [sameR_iff] at h
      subst h
      have : actEq (a.acts.getD i default) (a.acts.getD i default) = true := (actEq_iff _ _).2 rfl
      simp only [actEq] at this
      rw [this] at h2
      cases h2
    · have h2 : actEq (a.acts.getD i default) (b.acts.getD i default) = true := by simpa [actEq] using h2
      (repeat (first | refine XK.norm rfl rfl ?_ | refine XK.rgnA hT rfl rfl rfl ?_ | refine XK.rgnB hT hm rfl rfl rfl ?_))
      refine XK.inv ⟨i + 1, ⟨hlt, fun j hj' => ?_⟩, (Weak.of hN rfl rfl rfl (by (repeat' (first | exact rfl | exact AvIs.refl _ | exact trivial | exact fun _ _ => rfl | exact fun _ _ => ⟨rfl, AvIs.refl _⟩ | refine ⟨?_, ?_⟩))) (by (repeat' (first | exact rfl | exact AvIs.refl _ | exact trivial | exact fun _ _ => rfl | exact fun _ _ => ⟨rfl, AvIs.refl _⟩ | refine ⟨?_, ?_⟩)))), by omega⟩
      by_cases e : j = i
      · subst e; exact h2
      · exact hj j (by omega)
  have ha : listB actEq a.acts b.acts = true := listB_at.2 ⟨by omega, fun j hj' => hj j (by omega)⟩
  clear hj hi hlt
  (repeat (first | refine XK.norm rfl rfl ?_ | refine XK.rgnA hT rfl rfl rfl ?_ | refine XK.rgnB hT hm rfl rfl rfl ?_))
  refine XK.loop (ι := Nat) (fun i => ST.of [(2, .rptr (kC a)), (3, .rptr (kC b)), (7, .c (.int .i64 i))] [] 3000 118 (fun _ => false))
    (fun i => i ≤ a.clauses.length ∧ ∀ j, j < i → clB (a.clauses.getD j default) (b.clauses.getD j default) = true) (fun i => a.clauses.length - i) 0 ⟨Nat.zero_le _, fun j hj => absurd hj (Nat.not_lt_zero _)⟩ (Weak.of hN rfl rfl rfl (by (repeat' (first | exact rfl | exact AvIs.refl _ | exact trivial | exact fun _ _ => rfl | exact fun _ _ => ⟨rfl, AvIs.refl _⟩ | refine ⟨?_, ?_⟩))) (by (repeat' (first | exact rfl | exact AvIs.refl _ | exact trivial | exact fun _ _ => rfl | exact fun _ _ => ⟨rfl, AvIs.refl _⟩ | refine ⟨?_, ?_⟩)))) fun i hi => ?_
  obtain ⟨hi, hj⟩ := hi
  (repeat (first | refine XK.norm rfl rfl ?_ | refine XK.rgnA hT rfl rfl rfl ?_ | refine XK.rgnB hT hm rfl rfl rfl ?_)); refine XK.cond rfl (fun hlt => ?_) (fun hlt => ?_) <;> (try simp at hlt)
  · have fx : a.clauses.getD (i : Int).toNat default = a.clauses.getD i default := rfl
    have fy : b.clauses.getD (i : Int).toNat default = b.clauses.getD i default := rfl
    have cl := clauses13_ok (a.clauses.getD i default) (b.clauses.getD i default) (b6 i hlt)
    (repeat (first | refine XK.norm rfl rfl ?_ | refine XK.rgnA hT rfl rfl rfl ?_ | refine XK.rgnB hT hm rfl rfl rfl ?_))
    refine XK.drawn hm ?_
    refine XD.goA hT rfl rfl rfl rfl ?_
    rw [fx, fy]
    refine XD.callLA hE rfl rfl rfl rfl trivial rfl (cl) rfl ?_
    refine XD.goA hT rfl rfl rfl rfl ?_; refine XD.fin (by kernel_rfl) ?_; (repeat (first | refine XK.norm rfl rfl ?_ | refine XK.rgnA hT rfl rfl rfl ?_ | refine XK.rgnB hT hm rfl rfl rfl ?_))
    (repeat (first | refine XK.norm rfl rfl ?_ | refine XK.rgnA hT rfl rfl rfl ?_ | refine XK.rgnB hT hm rfl rfl rfl ?_)); refine XK.cond rfl (fun h2 => ?_) (fun h2 => ?_)
    · (repeat (first | refine XK.norm rfl rfl ?_ | refine XK.rgnA hT rfl rfl rfl ?_ | refine XK.rgnB hT hm rfl rfl rfl ?_))
      (first | refine XK.out rfl rfl rfl ?_ | refine XK.outN rfl rfl rfl ?_)
      refine cB (Eq.symm ?_)
      rw [Bool.eq_false_iff]
      intro h
      rw [sameR_iff] at h
      subst h
      rw [(clB_iff _ _).2 rfl] at h2
      cases h2
    · have h2 : clB (a.clauses.getD i default) (b.clauses.getD i default) = true := by simpa using h2
      (repeat (first | refine XK.norm rfl rfl ?_ | refine XK.rgnA hT rfl rfl rfl ?_ | refine XK.rgnB hT hm rfl rfl rfl ?_))
      refine XK.inv ⟨i + 1, ⟨hlt, fun j hj' => ?_⟩, (Weak.of hN rfl rfl rfl (by (repeat' (first | exact rfl | exact AvIs.refl _ | exact trivial | exact fun _ _ => rfl | exact fun _ _ => ⟨rfl, AvIs.refl _⟩ | refine ⟨?_, ?_⟩))) (by (repeat' (first | exact rfl | exact AvIs.refl _ | exact trivial | exact fun _ _ => rfl | exact fun _ _ => ⟨rfl, AvIs.refl _⟩ | refine ⟨?_, ?_⟩)))), by omega⟩
      by_cases e : j = i
      · subst e; exact h2
      · exact hj j (by omega)
  have hc : listB clB a.clauses b.clauses = true := listB_at.2 ⟨by omega, fun j hj' => hj j (by omega)⟩
  (repeat (first | refine XK.norm rfl rfl ?_ | refine XK.rgnA hT rfl rfl rfl ?_ | refine XK.rgnB hT hm rfl rfl rfl ?_))
  (first | refine XK.out rfl rfl rfl ?_ | refine XK.outN rfl rfl rfl ?_)
  refine cB (Eq.symm ?_)
  unfold sameR
  rw [hu, ha, hc, e1, e2, e3, e4]
  simp
end Go.Proofs.Ytofdehlikigonaa
end
section
/- Contracts: the sizes that the statements of layer 25 ask. -/
namespace Go.Proofs.Ytofdehlikigonaa
open Go.Eng
set_option maxRecDepth 10000
set_option linter.unusedSimpArgs false
set_option linter.unusedVariables false
def few13B (k : K) (n : Int) : Bool := decide ((k.holders.length : Int) ≤ 13) && decide ((k.units.length : Int) ≤ 21) && decide ((k.acts.length : Int) ≤ 61) && decide ((k.clauses.length : Int) ≤ n) && decide ((k.off.length : Int) ≤ 100) && (List.range k.units.length).all (fun i => decide ((k.units.getD i default).name.size ≤ 60)) && (List.range k.clauses.length).all (fun i => decide ((k.clauses.getD i default).start.length ≤ 10))
theorem all_rng {n : Nat} {p : Nat → Bool} : (List.range n).all p = true ↔ ∀ i, i < n → p i = true := by simp [List.all_eq_true]
theorem all_rng_no {n i : Nat} {p : Nat → Bool} (hi : i < n) (h : p i = false) : (List.range n).all p = false := by
  rw [Bool.eq_false_iff]; intro h2; rw [all_rng.1 h2 i hi] at h; cases h
theorem few13_ok (k : K) (n : Int) (hn : n ≤ 1000000) : Does Try.prog 23 [kV k, .c (.int .i64 n)] (.c (.bool (few13B k n))) := by
  refine Does.mk (fun _ => false) TT_ok Try.func23 rfl (by kernel_rfl) Try.ntmps23 rfl rfl fun E hT hE hN hR => ?_
  have hm : E.P.follows .mixedOrders = true := by rw [hE]; kernel_rfl
  have hb : few13B k n = (!(decide ((13 : Int) < k.holders.length) || decide ((21 : Int) < k.units.length) || decide ((61 : Int) < k.acts.length) || decide (n < (k.clauses.length : Int)) || decide ((100 : Int) < k.off.length)) && ((List.range k.units.length).all (fun i => decide ((k.units.getD i default).name.size ≤ 60)) && (List.range k.clauses.length).all (fun i => decide ((k.clauses.getD i default).start.length ≤ 10)))) := by
    unfold few13B
    rw [Bool.eq_iff_iff]
    simp only [Bool.and_eq_true, Bool.not_eq_true', Bool.or_eq_false_iff, decide_eq_true_eq, decide_eq_false_iff_not]
    constructor
    · rintro ⟨⟨⟨⟨⟨⟨h1, h2⟩, h3⟩, h4⟩, h5⟩, h6⟩, h7⟩; exact ⟨⟨⟨⟨⟨by omega, by omega⟩, by omega⟩, by omega⟩, by omega⟩, h6, h7⟩
    · rintro ⟨⟨⟨⟨⟨h1, h2⟩, h3⟩, h4⟩, h5⟩, h6, h7⟩; exact ⟨⟨⟨⟨⟨⟨by omega, by omega⟩, by omega⟩, by omega⟩, by omega⟩, h6⟩, h7⟩
  rw [hb]
  generalize hg1 : (List.range k.units.length).all (fun i => decide ((k.units.getD i default).name.size ≤ 60)) = g1
  generalize hg2 : (List.range k.clauses.length).all (fun i => decide ((k.clauses.getD i default).start.length ≤ 10)) = g2
  (repeat (first | refine XK.norm rfl rfl ?_ | refine XK.rgnA hT rfl rfl rfl ?_ | refine XK.rgnB hT hm rfl rfl rfl ?_)); refine XK.cond rfl (fun h1 => ?_) (fun h1 => ?_)
  · (repeat (first | refine XK.norm rfl rfl ?_ | refine XK.rgnA hT rfl rfl rfl ?_ | refine XK.rgnB hT hm rfl rfl rfl ?_))
    (first | refine XK.out rfl rfl rfl ?_ | refine XK.outN rfl rfl rfl ?_)
    rw [h1]; rfl
  rw [h1]
  simp only [Bool.or_eq_false_iff, decide_eq_false_iff_not] at h1
  (repeat (first | refine XK.norm rfl rfl ?_ | refine XK.rgnA hT rfl rfl rfl ?_ | refine XK.rgnB hT hm rfl rfl rfl ?_))
  refine XK.loop (ι := Nat) (fun i => ST.of [(2, .rptr (kC k)), (5, .c (.int .i64 i))] [] 1000 66 (fun _ => false))
    (fun i => i ≤ k.units.length ∧ ∀ j, j < i → decide ((k.units.getD j default).name.size ≤ 60) = true) (fun i => k.units.length - i) 0 ⟨Nat.zero_le _, fun j hj => absurd hj (Nat.not_lt_zero _)⟩ (Weak.trans (Weak.frozenC (k := 2) hN rfl rfl rfl) (Weak.of hN rfl rfl rfl (by (repeat' (first | exact rfl | exact AvIs.refl _ | exact trivial | exact fun _ _ => rfl | exact fun _ _ => ⟨rfl, AvIs.refl _⟩ | refine ⟨?_, ?_⟩))) (by (repeat' (first | exact rfl | exact AvIs.refl _ | exact trivial | exact fun _ _ => rfl | exact fun _ _ => ⟨rfl, AvIs.refl _⟩ | refine ⟨?_, ?_⟩))))) fun i hi => ?_
  obtain ⟨hi, hj⟩ := hi
  (repeat (first | refine XK.norm rfl rfl ?_ | refine XK.rgnA hT rfl rfl rfl ?_ | refine XK.rgnB hT hm rfl rfl rfl ?_)); refine XK.cond rfl (fun hlt => ?_) (fun hlt => ?_) <;> (try simp at hlt)
  · have fx : k.units.getD (i : Int).toNat default = k.units.getD i default := rfl
    (repeat (first | refine XK.norm rfl rfl ?_ | refine XK.rgnA hT rfl rfl rfl ?_ | refine XK.rgnB hT hm rfl rfl rfl ?_))
    rw [fx]
    (repeat (first | refine XK.norm rfl rfl ?_ | refine XK.rgnA hT rfl rfl rfl ?_ | refine XK.rgnB hT hm rfl rfl rfl ?_)); refine XK.cond rfl (fun h2 => ?_) (fun h2 => ?_)
    · (repeat (first | refine XK.norm rfl rfl ?_ | refine XK.rgnA hT rfl rfl rfl ?_ | refine XK.rgnB hT hm rfl rfl rfl ?_))
      (first | refine XK.out rfl rfl rfl ?_ | refine XK.outN rfl rfl rfl ?_)
      have h2 := of_decide_eq_true h2; rw [← hg1, all_rng_no hlt (by simp only [decide_eq_false_iff_not]; omega)]; rfl
    · (repeat (first | refine XK.norm rfl rfl ?_ | refine XK.rgnA hT rfl rfl rfl ?_ | refine XK.rgnB hT hm rfl rfl rfl ?_))
      refine XK.inv ⟨i + 1, ⟨hlt, fun j hj' => ?_⟩, (Weak.of hN rfl rfl rfl (by (repeat' (first | exact rfl | exact AvIs.refl _ | exact trivial | exact fun _ _ => rfl | exact fun _ _ => ⟨rfl, AvIs.refl _⟩ | refine ⟨?_, ?_⟩))) (by (repeat' (first | exact rfl | exact AvIs.refl _ | exact trivial | exact fun _ _ => rfl | exact fun _ _ => ⟨rfl, AvIs.refl _⟩ | refine ⟨?_, ?_⟩)))), by omega⟩
      by_cases e : j = i
      · subst e; have h2 := of_decide_eq_false h2; simp only [decide_eq_true_eq]; omega
      · exact hj j (by omega)
  have hu : g1 = true := by rw [← hg1]; exact all_rng.2 fun j hj' => hj j (by omega)
  subst hu
  clear hj hi hlt
  (repeat (first | refine XK.norm rfl rfl ?_ | refine XK.rgnA hT rfl rfl rfl ?_ | refine XK.rgnB hT hm rfl rfl rfl ?_))
  refine XK.loop (ι := Nat) (fun i => ST.of [(2, .rptr (kC k)), (6, .c (.int .i64 i))] [] 2000 66 (fun _ => false))
    (fun i => i ≤ k.clauses.length ∧ ∀ j, j < i → decide ((k.clauses.getD j default).start.length ≤ 10) = true) (fun i => k.clauses.length - i) 0 ⟨Nat.zero_le _, fun j hj => absurd hj (Nat.not_lt_zero _)⟩ (Weak.of hN rfl rfl rfl (by (repeat' (first | exact rfl | exact AvIs.refl _ | exact trivial | exact fun _ _ => rfl | exact fun _ _ => ⟨rfl, AvIs.refl _⟩ | refine ⟨?_, ?_⟩))) (by (repeat' (first | exact rfl | exact AvIs.refl _ | exact trivial | exact fun _ _ => rfl | exact fun _ _ => ⟨rfl, AvIs.refl _⟩ | refine ⟨?_, ?_⟩)))) fun i hi => ?_
  obtain ⟨hi, hj⟩ := hi
  (repeat (first | refine XK.norm rfl rfl ?_ | refine XK.rgnA hT rfl rfl rfl ?_ | refine XK.rgnB hT hm rfl rfl rfl ?_)); refine XK.cond rfl (fun hlt => ?_) (fun hlt => ?_) <;> (try simp at hlt)
  · have fx : k.clauses.getD (i : Int).toNat default = k.clauses.getD i default := rfl
    (repeat (first | refine XK.norm rfl rfl ?_ | refine XK.rgnA hT rfl rfl rfl ?_ | refine XK.rgnB hT hm rfl rfl rfl ?_))
    rw [fx]
    (repeat (first | refine XK.norm rfl rfl ?_ | refine XK.rgnA hT rfl rfl rfl ?_ | refine XK.rgnB hT hm rfl rfl rfl ?_)); refine XK.cond rfl (fun h2 => ?_) (fun h2 => ?_)
    · (repeat (first | refine XK.norm rfl rfl ?_ | refine XK.rgnA hT rfl rfl rfl ?_ | refine XK.rgnB hT hm rfl rfl rfl ?_))
      (first | refine XK.out rfl rfl rfl ?_ | refine XK.outN rfl rfl rfl ?_)
      have h2 := of_decide_eq_true h2; rw [← hg2, all_rng_no hlt (by simp only [decide_eq_false_iff_not]; omega)]; rfl
    · (repeat (first | refine XK.norm rfl rfl ?_ | refine XK.rgnA hT rfl rfl rfl ?_ | refine XK.rgnB hT hm rfl rfl rfl ?_))
      refine XK.inv ⟨i + 1, ⟨hlt, fun j hj' => ?_⟩, (Weak.of hN rfl rfl rfl (by (repeat' (first | exact rfl | exact AvIs.refl _ | exact trivial | exact fun _ _ => rfl | exact fun _ _ => ⟨rfl, AvIs.refl _⟩ | refine ⟨?_, ?_⟩))) (by (repeat' (first | exact rfl | exact AvIs.refl _ | exact trivial | exact fun _ _ => rfl | exact fun _ _ => ⟨rfl, AvIs.refl _⟩ | refine ⟨?_, ?_⟩)))), by omega⟩
      by_cases e : j = i
      · subst e; have h2 := of_decide_eq_false h2; simp only [decide_eq_true_eq]; omega
      · exact hj j (by omega)
  have hu : g2 = true := by rw [← hg2]; exact all_rng.2 fun j hj' => hj j (by omega)
  subst hu
  (repeat (first | refine XK.norm rfl rfl ?_ | refine XK.rgnA hT rfl rfl rfl ?_ | refine XK.rgnB hT hm rfl rfl rfl ?_))
  (first | refine XK.out rfl rfl rfl ?_ | refine XK.outN rfl rfl rfl ?_)
  rfl
def am25B (a : Am) : Bool := !(decide (1000000 < (if a.day < a.known then a.known else a.day)) || decide ((if a.known < a.day then a.known else a.day) < -1000000) || decide ((12 : Int) < a.patch.clauses.length) || decide ((10 : Int) < a.patch.new.start.length))
def few25B (l : List Am) (n : Int) : Bool := decide ((l.length : Int) ≤ n) && (List.range l.length).all (fun i => am25B (l.getD i default))
theorem few25_ok (l : List Am) (n : Int) (hl : l.length ≤ 9223372036854775807) : Does Try.prog 24 [amsV l, .c (.int .i64 n)] (.c (.bool (few25B l n))) := by
  refine Does.mk (fun _ => false) TT_ok Try.func24 rfl (by kernel_rfl) Try.ntmps24 rfl rfl fun E hT hE hN hR => ?_
  have hm : E.P.follows .mixedOrders = true := by rw [hE]; kernel_rfl
  unfold few25B
  generalize hg1 : (List.range l.length).all (fun i => am25B (l.getD i default)) = g1
  (repeat (first | refine XK.norm rfl rfl ?_ | refine XK.rgnA hT rfl rfl rfl ?_ | refine XK.rgnB hT hm rfl rfl rfl ?_)); refine XK.cond rfl (fun h1 => ?_) (fun h1 => ?_) <;> (try simp at h1)
  · (repeat (first | refine XK.norm rfl rfl ?_ | refine XK.rgnA hT rfl rfl rfl ?_ | refine XK.rgnB hT hm rfl rfl rfl ?_))
    (first | refine XK.out rfl rfl rfl ?_ | refine XK.outN rfl rfl rfl ?_)
    refine cB (Eq.symm ?_)
    rw [show decide ((l.length : Int) ≤ n) = false by simp only [decide_eq_false_iff_not]; omega]; rfl
  rw [show decide ((l.length : Int) ≤ n) = true by simp only [decide_eq_true_eq]; omega, Bool.true_and]
  (repeat (first | refine XK.norm rfl rfl ?_ | refine XK.rgnA hT rfl rfl rfl ?_ | refine XK.rgnB hT hm rfl rfl rfl ?_))
  refine XK.loop (ι := Nat) (fun i => ST.of [(0, amsV l), (5, .c (.int .i64 i))] [] 1000 63 (fun _ => false))
    (fun i => i ≤ l.length ∧ ∀ j, j < i → am25B (l.getD j default) = true) (fun i => l.length - i) 0 ⟨Nat.zero_le _, fun j hj => absurd hj (Nat.not_lt_zero _)⟩ (Weak.of hN rfl rfl rfl (by (repeat' (first | exact rfl | exact AvIs.refl _ | exact trivial | exact fun _ _ => rfl | exact fun _ _ => ⟨rfl, AvIs.refl _⟩ | refine ⟨?_, ?_⟩))) (by (repeat' (first | exact rfl | exact AvIs.refl _ | exact trivial | exact fun _ _ => rfl | exact fun _ _ => ⟨rfl, AvIs.refl _⟩ | refine ⟨?_, ?_⟩)))) fun i hi => ?_
  obtain ⟨hi, hj⟩ := hi
  (repeat (first | refine XK.norm rfl rfl ?_ | refine XK.rgnA hT rfl rfl rfl ?_ | refine XK.rgnB hT hm rfl rfl rfl ?_)); refine XK.cond rfl (fun hlt => ?_) (fun hlt => ?_) <;> (try simp at hlt)
  · have fx : l.getD (i : Int).toNat default = l.getD i default := rfl
    have hd : am25B (l.getD i default) = _ := rfl
    (repeat (first | refine XK.norm rfl rfl ?_ | refine XK.rgnA hT rfl rfl rfl ?_ | refine XK.rgnB hT hm rfl rfl rfl ?_))
    rw [fx]
    (repeat (first | refine XK.norm rfl rfl ?_ | refine XK.rgnA hT rfl rfl rfl ?_ | refine XK.rgnB hT hm rfl rfl rfl ?_)); refine XK.cond rfl (fun h2 => ?_) (fun h2 => ?_)
    · (repeat (first | refine XK.norm rfl rfl ?_ | refine XK.rgnA hT rfl rfl rfl ?_ | refine XK.rgnB hT hm rfl rfl rfl ?_))
      (first | refine XK.out rfl rfl rfl ?_ | refine XK.outN rfl rfl rfl ?_)
      rw [← hg1, all_rng_no hlt (show am25B (l.getD i default) = false from congrArg not h2)]
    · (repeat (first | refine XK.norm rfl rfl ?_ | refine XK.rgnA hT rfl rfl rfl ?_ | refine XK.rgnB hT hm rfl rfl rfl ?_))
      refine XK.inv ⟨i + 1, ⟨hlt, fun j hj' => ?_⟩, (Weak.of hN rfl rfl rfl (by (repeat' (first | exact rfl | exact AvIs.refl _ | exact trivial | exact fun _ _ => rfl | exact fun _ _ => ⟨rfl, AvIs.refl _⟩ | refine ⟨?_, ?_⟩))) (by (repeat' (first | exact rfl | exact AvIs.refl _ | exact trivial | exact fun _ _ => rfl | exact fun _ _ => ⟨rfl, AvIs.refl _⟩ | refine ⟨?_, ?_⟩)))), by omega⟩
      by_cases e : j = i
      · subst e; exact congrArg not h2
      · exact hj j (by omega)
  have hu : g1 = true := by rw [← hg1]; exact all_rng.2 fun j hj' => hj j (by omega)
  subst hu
  (repeat (first | refine XK.norm rfl rfl ?_ | refine XK.rgnA hT rfl rfl rfl ?_ | refine XK.rgnB hT hm rfl rfl rfl ?_))
  (first | refine XK.out rfl rfl rfl ?_ | refine XK.outN rfl rfl rfl ?_)
  rfl
theorem am25_facts {a : Am} (h : am25B a = true) : (-1000000 ≤ a.day ∧ a.day ≤ 1000000) ∧ (-1000000 ≤ a.known ∧ a.known ≤ 1000000) ∧ a.patch.clauses.length ≤ 12 ∧ a.patch.new.start.length ≤ 10 := by
  simp only [am25B, Bool.not_eq_true', Bool.or_eq_false_iff, decide_eq_false_iff_not] at h
  obtain ⟨⟨⟨h1, h2⟩, h3⟩, h4⟩ := h
  split at h1 <;> split at h2 <;> omega
theorem few25_facts {l : List Am} {n : Int} (h : few25B l n = true) : (l.length : Int) ≤ n ∧ ∀ a ∈ l, am25B a = true := by
  simp only [few25B, Bool.and_eq_true, decide_eq_true_eq, all_rng] at h
  refine ⟨h.1, fun a ha => ?_⟩
  obtain ⟨i, hi, rfl⟩ := List.getElem_of_mem ha
  have := h.2 i hi
  simpa [List.getD, hi] using this
theorem few13_facts {k : K} {n : Int} (hn : n ≤ 1000000) (h : few13B k n = true) : KB k ∧ (k.clauses.length : Int) ≤ n := by
  simp only [few13B, Bool.and_eq_true, decide_eq_true_eq, all_rng] at h
  obtain ⟨⟨⟨⟨⟨⟨h1, h2⟩, h3⟩, h4⟩, h5⟩, h6⟩, h7⟩ := h
  exact ⟨⟨by omega, by omega, by omega, by omega, by omega, fun i hi => Nat.le_trans (h7 i hi) (by decide)⟩, h4⟩
def small25B (k : K) (l : List Am) : Bool := few13B k 8 && few25B l 12
theorem small25_ok (k : K) (l : List Am) (hl : l.length ≤ 9223372036854775807) : Does Try.prog 11 [kV k, amsV l] (.c (.bool (small25B k l))) := by
  refine Does.mk (fun _ => false) TT_ok Try.func11 rfl (by kernel_rfl) Try.ntmps11 rfl rfl fun E hT hE hN hR => ?_
  have hm : E.P.follows .mixedOrders = true := by rw [hE]; kernel_rfl
  (repeat (first | refine XK.norm rfl rfl ?_ | refine XK.rgnA hT rfl rfl rfl ?_ | refine XK.rgnB hT hm rfl rfl rfl ?_)); refine XK.region ?_; refine XL.goA hT rfl rfl rfl rfl ?_
  refine XL.callLA hE rfl rfl rfl rfl trivial rfl (few13_ok k 8 (by decide)) rfl ?_
  refine XL.goA hT rfl rfl rfl rfl ?_
  refine XL.callGA hE rfl rfl rfl rfl rfl rfl rfl rfl (few25_ok l 12 hl) rfl ?_
  refine XL.goA hT rfl rfl rfl rfl ?_; refine XL.fin ?_; (repeat (first | refine XK.norm rfl rfl ?_ | refine XK.rgnA hT rfl rfl rfl ?_ | refine XK.rgnB hT hm rfl rfl rfl ?_))
  (first | refine XK.out rfl rfl rfl ?_ | refine XK.outN rfl rfl rfl ?_)
  rfl
end Go.Proofs.Ytofdehlikigonaa
end
