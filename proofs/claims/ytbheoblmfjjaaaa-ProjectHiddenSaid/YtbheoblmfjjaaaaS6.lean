import Derived.Test.YtbheoblmfjjaaaaS5
section
/- Contracts: the helpers of the statements about layer 15. -/
namespace Go.Proofs.Ytbheoblmfjjaaaa
open Go.Eng
set_option maxRecDepth 10000
set_option linter.unusedSimpArgs false
set_option linter.unusedVariables false
theorem getD_memW {α : Type} [Inhabited α] {l : List α} {i : Nat} (h : i < l.length) : l.getD i default ∈ l := by
  rw [List.getD_eq_getElem?_getD, List.getElem?_eq_getElem h]
  exact List.getElem_mem h
def smallQ (k : K) (n : Int) : Bool :=
  if (decide ((20 : Int) < k.holders.length) || decide ((30 : Int) < k.units.length) || decide ((70 : Int) < k.acts.length) || decide (n < k.clauses.length) || decide ((100 : Int) < k.off.length)) = true then false
  else k.clauses.all (fun x => decide (x.start.length ≤ 20))
theorem smallQ_ok (k : K) (n : Int) : Does Try.prog 24 [kV k, .c (.int .i64 n)] (.c (.bool (smallQ k n))) := by
  refine Does.mk (fun _ => false) TT_ok Try.func24 rfl (by kernel_rfl) Try.ntmps24 rfl rfl fun E hT hE hN hR => ?_
  have hm : E.P.follows .mixedOrders = true := by rw [hE]; kernel_rfl
  (repeat (first | refine XK.norm rfl rfl ?_ | refine XK.rgnA hT rfl rfl rfl ?_ | refine XK.rgnB hT hm rfl rfl rfl ?_)); refine XK.cond rfl (fun h1 => ?_) (fun h1 => ?_)
  · (repeat (first | refine XK.norm rfl rfl ?_ | refine XK.rgnA hT rfl rfl rfl ?_ | refine XK.rgnB hT hm rfl rfl rfl ?_))
    (first | refine XK.out rfl rfl rfl ?_ | refine XK.outN rfl rfl rfl ?_)
    simp only [smallQ, if_pos h1]
  · rw [smallQ, if_neg (by rw [h1]; simp)]
    (repeat (first | refine XK.norm rfl rfl ?_ | refine XK.rgnA hT rfl rfl rfl ?_ | refine XK.rgnB hT hm rfl rfl rfl ?_))
    refine XK.loop (ι := Nat) (fun i => ST.of [(2, .ptr 2 0), (4, .c (.bool false)), (5, .c (.int .i64 i))] [(2, .cells 54 (kC k))] 1000 50 (fun _ => false))
      (fun i => i ≤ k.clauses.length ∧ ∀ j, j < i → decide ((k.clauses.getD j default).start.length ≤ 20) = true) (fun i => k.clauses.length - i) 0 ⟨Nat.zero_le _, fun j hj => absurd hj (Nat.not_lt_zero _)⟩
      (Weak.of hN rfl rfl rfl (by (repeat' (first | exact rfl | exact AvIs.refl _ | exact trivial | exact fun _ _ => rfl | exact fun _ _ => ⟨rfl, AvIs.refl _⟩ | refine ⟨?_, ?_⟩))) (by (repeat' (first | exact rfl | exact AvIs.refl _ | exact trivial | exact fun _ _ => rfl | exact fun _ _ => ⟨rfl, AvIs.refl _⟩ | refine ⟨?_, ?_⟩)))) fun i hi => ?_
    obtain ⟨hi1, hi2⟩ := hi
    (repeat (first | refine XK.norm rfl rfl ?_ | refine XK.rgnA hT rfl rfl rfl ?_ | refine XK.rgnB hT hm rfl rfl rfl ?_))
    refine XK.fact (Sat.rs_len (j := 37) rfl) fun hlen => ?_
    have hm' : k.clauses.length ≤ 9223372036854775807 := hlen.1
    (repeat (first | refine XK.norm rfl rfl ?_ | refine XK.rgnA hT rfl rfl rfl ?_ | refine XK.rgnB hT hm rfl rfl rfl ?_)); refine XK.cond rfl (fun hlt => ?_) (fun hlt => ?_) <;> (try simp at hlt)
    · (repeat (first | refine XK.norm rfl rfl ?_ | refine XK.rgnA hT rfl rfl rfl ?_ | refine XK.rgnB hT hm rfl rfl rfl ?_)); refine XK.cond rfl (fun h2 => ?_) (fun h2 => ?_) <;> (try simp at h2)
      · (repeat (first | refine XK.norm rfl rfl ?_ | refine XK.rgnA hT rfl rfl rfl ?_ | refine XK.rgnB hT hm rfl rfl rfl ?_))
        (first | refine XK.out rfl rfl rfl ?_ | refine XK.outN rfl rfl rfl ?_)
        have : k.clauses.all (fun x => decide (x.start.length ≤ 20)) = false := all_not hlt (by simp at h2 ⊢; omega)
        rw [this]
      · (repeat (first | refine XK.norm rfl rfl ?_ | refine XK.rgnA hT rfl rfl rfl ?_ | refine XK.rgnB hT hm rfl rfl rfl ?_))
        refine XK.inv ⟨i + 1, ⟨hlt, fun j hj => ?_⟩, (Weak.of hN rfl rfl rfl (by (repeat' (first | exact rfl | exact AvIs.refl _ | exact trivial | exact fun _ _ => rfl | exact fun _ _ => ⟨rfl, AvIs.refl _⟩ | refine ⟨?_, ?_⟩))) (by (repeat' (first | exact rfl | exact AvIs.refl _ | exact trivial | exact fun _ _ => rfl | exact fun _ _ => ⟨rfl, AvIs.refl _⟩ | refine ⟨?_, ?_⟩)))), by omega⟩
        by_cases h : j = i
        · subst h; simp at h2 ⊢; omega
        · exact hi2 j (by omega)
    · (repeat (first | refine XK.norm rfl rfl ?_ | refine XK.rgnA hT rfl rfl rfl ?_ | refine XK.rgnB hT hm rfl rfl rfl ?_))
      (first | refine XK.out rfl rfl rfl ?_ | refine XK.outN rfl rfl rfl ?_)
      have : k.clauses.all (fun x => decide (x.start.length ≤ 20)) = true := all_at.2 fun j hj => hi2 j (by omega)
      rw [this]
def fewS (s : St) : Bool := decide ((s.holders.length : Int) ≤ 20) && decide ((s.used.length : Int) ≤ 70) && decide ((s.marks.length : Int) ≤ 60)
theorem fewS_ok (s : St) : Does Try.prog 25 [stV s] (.c (.bool (fewS s))) := by
  refine Does.mk (fun _ => false) TT_ok Try.func25 rfl (by kernel_rfl) Try.ntmps25 rfl rfl fun E hT hE hN hR => ?_
  have hm : E.P.follows .mixedOrders = true := by rw [hE]; kernel_rfl
  (repeat (first | refine XK.norm rfl rfl ?_ | refine XK.rgnA hT rfl rfl rfl ?_ | refine XK.rgnB hT hm rfl rfl rfl ?_))
  (first | refine XK.out rfl rfl rfl ?_ | refine XK.outN rfl rfl rfl ?_)
  rfl
def endedM (m : Mk) : Bool := m.status == 3 || m.status == 4 || m.status == 5
theorem ended_ok (m : Mk) : Does Try.prog 29 [.agg (mkC m)] (.c (.bool (endedM m))) := by
  refine Does.mk (fun _ => false) TT_ok Try.func29 rfl (by kernel_rfl) Try.ntmps29 rfl rfl fun E hT hE hN hR => ?_
  have hm : E.P.follows .mixedOrders = true := by rw [hE]; kernel_rfl
  (repeat (first | refine XK.norm rfl rfl ?_ | refine XK.rgnA hT rfl rfl rfl ?_ | refine XK.rgnB hT hm rfl rfl rfl ?_))
  (first | refine XK.out rfl rfl rfl ?_ | refine XK.outN rfl rfl rfl ?_)
  rfl
theorem runsR_ok (m : Mk) : Does Try.prog 34 [.agg (mkC m)] (.c (.bool (runsM m))) := by
  refine Does.mk (fun _ => false) TT_ok Try.func34 rfl (by kernel_rfl) Try.ntmps34 rfl rfl fun E hT hE hN hR => ?_
  have hm : E.P.follows .mixedOrders = true := by rw [hE]; kernel_rfl
  (repeat (first | refine XK.norm rfl rfl ?_ | refine XK.rgnA hT rfl rfl rfl ?_ | refine XK.rgnB hT hm rfl rfl rfl ?_))
  (first | refine XK.out rfl rfl rfl ?_ | refine XK.outN rfl rfl rfl ?_)
  rfl
theorem holdsR_ok (l : List Mk) (c : Cnd) (h : 0 ≤ c.clause ∧ c.clause < l.length) (h2 : 1 ≤ c.is ∧ c.is ≤ 4) : Does Try.prog 31 [rowL mkC 5 l, .agg (cndC c)] (.c (.bool (condHB (fun i => l.getD i default) c))) := by
  refine Does.mk (fun _ => false) TT_ok Try.func31 rfl (by kernel_rfl) Try.ntmps31 rfl rfl fun E hT hE hN hR => ?_
  have hm : E.P.follows .mixedOrders = true := by rw [hE]; kernel_rfl
  unfold condHB
  (repeat (first | refine XK.norm rfl rfl ?_ | refine XK.rgnA hT rfl rfl rfl ?_ | refine XK.rgnB hT hm rfl rfl rfl ?_)); refine XK.cond rfl (fun h1 => ?_) (fun h1 => ?_) <;> (try simp at h1)
  · rw [if_pos h1]
    (repeat (first | refine XK.norm rfl rfl ?_ | refine XK.rgnA hT rfl rfl rfl ?_ | refine XK.rgnB hT hm rfl rfl rfl ?_))
    (first | refine XK.out rfl rfl rfl ?_ | refine XK.outN rfl rfl rfl ?_)
    rfl
  · rw [if_neg h1]
    (repeat (first | refine XK.norm rfl rfl ?_ | refine XK.rgnA hT rfl rfl rfl ?_ | refine XK.rgnB hT hm rfl rfl rfl ?_))
    (first | refine XK.out rfl rfl rfl ?_ | refine XK.outN rfl rfl rfl ?_)
    have h3 : c.is = 2 ∨ c.is = 3 ∨ c.is = 4 := by omega
    rcases h3 with h3 | h3 | h3 <;> simp [h3]
def countsB (k : K) (x : Cl) (m : Mk) (day : Int) : Bool := if (!runsM m || m.paused) = true then false else !k.off.any (fun d => d == day && x.business)
theorem counts_ok' (k : K) (x : Cl) (m : Mk) (day : Int) : Does Try.prog 36 [kV k, .agg (clC x), .agg (mkC m), .c (.int .i64 day)] (.c (.bool (countsB k x m day))) := by
  refine Does.mk (fun _ => false) TT_ok Try.func36 rfl (by kernel_rfl) Try.ntmps36 rfl rfl fun E hT hE hN hR => ?_
  have hm : E.P.follows .mixedOrders = true := by rw [hE]; kernel_rfl
  (repeat (first | refine XK.norm rfl rfl ?_ | refine XK.rgnA hT rfl rfl rfl ?_ | refine XK.rgnB hT hm rfl rfl rfl ?_)); refine XK.region ?_; refine XL.goA hT rfl rfl rfl rfl ?_
  refine XL.callLA hE rfl rfl rfl rfl trivial rfl (runsR_ok m) rfl ?_
  refine XL.goA hT rfl rfl rfl rfl ?_; refine XL.fin ?_; (repeat (first | refine XK.norm rfl rfl ?_ | refine XK.rgnA hT rfl rfl rfl ?_ | refine XK.rgnB hT hm rfl rfl rfl ?_))
  unfold countsB
  (repeat (first | refine XK.norm rfl rfl ?_ | refine XK.rgnA hT rfl rfl rfl ?_ | refine XK.rgnB hT hm rfl rfl rfl ?_)); refine XK.cond rfl (fun h1 => ?_) (fun h1 => ?_)
  · rw [if_pos h1]
    (repeat (first | refine XK.norm rfl rfl ?_ | refine XK.rgnA hT rfl rfl rfl ?_ | refine XK.rgnB hT hm rfl rfl rfl ?_))
    (first | refine XK.out rfl rfl rfl ?_ | refine XK.outN rfl rfl rfl ?_)
    rfl
  · rw [if_neg (by rw [h1]; simp)]
    (repeat (first | refine XK.norm rfl rfl ?_ | refine XK.rgnA hT rfl rfl rfl ?_ | refine XK.rgnB hT hm rfl rfl rfl ?_))
    refine XK.loop (ι := Nat) (fun i => ST.of [(3, .c (.int .i64 day)), (4, .ptr 4 0), (5, .ptr 5 0), (9, .c (.int .i64 i))] [(4, .cells 54 (kC k)), (5, .cells 71 (clC x))] 1000 35 (fun _ => false))
      (fun i => i ≤ k.off.length ∧ ∀ j, j < i → (k.off.getD j default == day && x.business) = false) (fun i => k.off.length - i) 0 ⟨Nat.zero_le _, fun j hj => absurd hj (Nat.not_lt_zero _)⟩
      (Weak.of hN rfl rfl rfl (by (repeat' (first | exact rfl | exact AvIs.refl _ | exact trivial | exact fun _ _ => rfl | exact fun _ _ => ⟨rfl, AvIs.refl _⟩ | refine ⟨?_, ?_⟩))) (by (repeat' (first | exact rfl | exact AvIs.refl _ | exact trivial | exact fun _ _ => rfl | exact fun _ _ => ⟨rfl, AvIs.refl _⟩ | refine ⟨?_, ?_⟩)))) fun i hi => ?_
    obtain ⟨hi1, hi2⟩ := hi
    (repeat (first | refine XK.norm rfl rfl ?_ | refine XK.rgnA hT rfl rfl rfl ?_ | refine XK.rgnB hT hm rfl rfl rfl ?_))
    refine XK.fact (Sat.rs_len (j := 19) rfl) fun hlen => ?_
    have hm' : k.off.length ≤ 9223372036854775807 := hlen.1
    (repeat (first | refine XK.norm rfl rfl ?_ | refine XK.rgnA hT rfl rfl rfl ?_ | refine XK.rgnB hT hm rfl rfl rfl ?_)); refine XK.cond rfl (fun hlt => ?_) (fun hlt => ?_) <;> (try simp at hlt)
    · have f1 : k.off.getD (i : Int).toNat default = k.off.getD i default := rfl
      (repeat (first | refine XK.norm rfl rfl ?_ | refine XK.rgnA hT rfl rfl rfl ?_ | refine XK.rgnB hT hm rfl rfl rfl ?_))
      rw [f1]
      (repeat (first | refine XK.norm rfl rfl ?_ | refine XK.rgnA hT rfl rfl rfl ?_ | refine XK.rgnB hT hm rfl rfl rfl ?_)); refine XK.cond rfl (fun h2 => ?_) (fun h2 => ?_)
      · have : k.off.any (fun d => d == day && x.business) = true := by
          rw [List.any_eq_true]
          exact ⟨_, getD_memW hlt, h2⟩
        rw [this]
        (repeat (first | refine XK.norm rfl rfl ?_ | refine XK.rgnA hT rfl rfl rfl ?_ | refine XK.rgnB hT hm rfl rfl rfl ?_))
        (first | refine XK.out rfl rfl rfl ?_ | refine XK.outN rfl rfl rfl ?_)
        rfl
      · (repeat (first | refine XK.norm rfl rfl ?_ | refine XK.rgnA hT rfl rfl rfl ?_ | refine XK.rgnB hT hm rfl rfl rfl ?_))
        refine XK.inv ⟨i + 1, ⟨hlt, fun j hj => ?_⟩, (Weak.of hN rfl rfl rfl (by (repeat' (first | exact rfl | exact AvIs.refl _ | exact trivial | exact fun _ _ => rfl | exact fun _ _ => ⟨rfl, AvIs.refl _⟩ | refine ⟨?_, ?_⟩))) (by (repeat' (first | exact rfl | exact AvIs.refl _ | exact trivial | exact fun _ _ => rfl | exact fun _ _ => ⟨rfl, AvIs.refl _⟩ | refine ⟨?_, ?_⟩)))), by omega⟩
        by_cases h : j = i
        · subst h; exact h2
        · exact hi2 j (by omega)
    · have : k.off.any (fun d => d == day && x.business) = false := by
        rw [List.any_eq_false]
        intro d hd
        obtain ⟨j, hj, rfl⟩ := List.getElem_of_mem hd
        have := hi2 j (by omega)
        rw [List.getD_eq_getElem?_getD, List.getElem?_eq_getElem hj] at this
        simpa using this
      rw [this]
      (repeat (first | refine XK.norm rfl rfl ?_ | refine XK.rgnA hT rfl rfl rfl ?_ | refine XK.rgnB hT hm rfl rfl rfl ?_))
      (first | refine XK.out rfl rfl rfl ?_ | refine XK.outN rfl rfl rfl ?_)
      rfl
def fitsB (k : K) (s t : St) : Bool := ((s.marks.length : Int) == k.clauses.length && (s.holders.length : Int) == k.holders.length && (s.used.length : Int) == k.acts.length) && (t.marks.length : Int) == s.marks.length && (t.holders.length : Int) == s.holders.length && (t.used.length : Int) == s.used.length
theorem fits_ok (k : K) (s t : St) : Does Try.prog 30 [kV k, stV s, stV t] (.c (.bool (fitsB k s t))) := by
  refine Does.mk (fun _ => false) TT_ok Try.func30 rfl (by kernel_rfl) Try.ntmps30 rfl rfl fun E hT hE hN hR => ?_
  have hm : E.P.follows .mixedOrders = true := by rw [hE]; kernel_rfl
  (repeat (first | refine XK.norm rfl rfl ?_ | refine XK.rgnA hT rfl rfl rfl ?_ | refine XK.rgnB hT hm rfl rfl rfl ?_))
  (first | refine XK.out rfl rfl rfl ?_ | refine XK.outN rfl rfl rfl ?_)
  rfl
/-- How far steps are executed: up to the first that is refused. -/
noncomputable def runE (k : K) (l : List Int) : Nat → St × Int
  | 0 => startS k
  | n + 1 => if (runE k l n).2 = 0 then stepS k (runE k l n).1 (l.getD n default) else runE k l n
theorem runE_stop {k : K} {l : List Int} {i : Nat} (h : (runE k l i).2 ≠ 0) : ∀ j, i ≤ j → runE k l j = runE k l i := by
  intro j hj
  induction j with
  | zero => obtain rfl : i = 0 := by omega
            rfl
  | succ j ih =>
    by_cases e : i = j + 1
    · subst e; rfl
    · have := ih (by omega)
      rw [runE, this, if_neg h]
theorem run15_ok (k : K) (hk : kW k) (l : List Int) : Does Try.prog 54 [kV k, intsV l] (.tup [stV (runE k l l.length).1, .c (.bool ((runE k l l.length).2 == 0))]) := by
  refine Does.mk (fun _ => false) TT_ok Try.func54 rfl (by kernel_rfl) Try.ntmps54 rfl rfl fun E hT hE hN hR => ?_
  have hm : E.P.follows .mixedOrders = true := by rw [hE]; kernel_rfl
  refine XK.fact (Sat.rs_len (j := 1) rfl) fun hlen => ?_
  have hm' : l.length ≤ 9223372036854775807 := hlen.1
  (repeat (first | refine XK.norm rfl rfl ?_ | refine XK.rgnA hT rfl rfl rfl ?_ | refine XK.rgnB hT hm rfl rfl rfl ?_)); refine XK.region ?_; refine XL.goA hT rfl rfl rfl rfl ?_
  refine XL.callKA hE rfl rfl rfl rfl trivial rfl rfl (startS_ok k hk) ?_
  refine XL.goA hT rfl rfl rfl rfl ?_; refine XL.fin ?_; (repeat (first | refine XK.norm rfl rfl ?_ | refine XK.rgnA hT rfl rfl rfl ?_ | refine XK.rgnB hT hm rfl rfl rfl ?_))
  refine XK.loop (ι := Nat) (fun i => ST.of [(1, intsV l), (2, .ptr 2 0), (4, .ptr 4 0), (6, .ptr 43 0), (7, .c (.int .i64 (runE k l i).2)), (8, .c (.int .i64 i))] [(2, .cells 54 (kC k)), (4, .cells 57 [.c (.int .i64 0), .c (.slice none 0 0), .c (.slice none 0 0), .c (.slice none 0 0)]), (43, .cells 57 (stC (runE k l i).1))] 1000 37 (fun _ => false))
    (fun i => i ≤ l.length ∧ (∀ j, i ≤ j → (runE k l i).2 ≠ 0 → runE k l j = runE k l i)) (fun i => l.length - i) 0 ⟨Nat.zero_le _, fun j hj h => runE_stop h j hj⟩
    (Weak.of hN rfl rfl rfl (by (repeat' (first | exact rfl | exact AvIs.refl _ | exact trivial | exact fun _ _ => rfl | exact fun _ _ => ⟨rfl, AvIs.refl _⟩ | refine ⟨?_, ?_⟩))) (by (repeat' (first | exact rfl | exact AvIs.refl _ | exact trivial | exact fun _ _ => rfl | exact fun _ _ => ⟨rfl, AvIs.refl _⟩ | refine ⟨?_, ?_⟩)))) fun i hi => ?_
  obtain ⟨hi, hst⟩ := hi
  have hn : runE k l (i + 1) = if (runE k l i).2 = 0 then stepS k (runE k l i).1 (l.getD i default) else runE k l i := rfl
  have hstop := hst l.length hi
  have hnx := fun j (hj : i + 1 ≤ j) h => runE_stop (k := k) (l := l) (i := i + 1) h j hj
  generalize h2 : runE k l (i + 1) = r2 at *
  generalize h1 : runE k l i = r at *
  (repeat (first | refine XK.norm rfl rfl ?_ | refine XK.rgnA hT rfl rfl rfl ?_ | refine XK.rgnB hT hm rfl rfl rfl ?_)); refine XK.cond rfl (fun hb => ?_) (fun hb => ?_)
  · have hb : i < l.length ∧ r.2 = 0 := by simpa using hb
    rw [if_pos hb.2] at hn
    have f1 : l.getD (i : Int).toNat default = l.getD i default := rfl
    (repeat (first | refine XK.norm rfl rfl ?_ | refine XK.rgnA hT rfl rfl rfl ?_ | refine XK.rgnB hT hm rfl rfl rfl ?_)); refine XK.drawn hm ?_; refine XD.goA hT rfl rfl rfl rfl ?_
    refine XD.callKA hE rfl rfl rfl rfl trivial rfl rfl (stepS_ok k hk r.1 (l.getD (i : Int).toNat default)) ?_
    refine XD.goA hT rfl rfl rfl rfl ?_; refine XD.fin (by kernel_rfl) ?_; (repeat (first | refine XK.norm rfl rfl ?_ | refine XK.rgnA hT rfl rfl rfl ?_ | refine XK.rgnB hT hm rfl rfl rfl ?_))
    rw [f1, ← hn]
    refine XK.inv ⟨i + 1, ⟨hb.1, by rw [h2]; exact hnx⟩, ?_, by omega⟩
    rw [h2]
    exact (Weak.of hN rfl rfl rfl (by (repeat' (first | exact rfl | exact AvIs.refl _ | exact trivial | exact fun _ _ => rfl | exact fun _ _ => ⟨rfl, AvIs.refl _⟩ | refine ⟨?_, ?_⟩))) (by (repeat' (first | exact rfl | exact AvIs.refl _ | exact trivial | exact fun _ _ => rfl | exact fun _ _ => ⟨rfl, AvIs.refl _⟩ | refine ⟨?_, ?_⟩))))
  · have hb : ¬ (i < l.length ∧ r.2 = 0) := by simpa using hb
    have he : runE k l l.length = r := by
      by_cases h0 : r.2 = 0
      · have : i = l.length := by omega
        rw [← this]; exact h1
      · exact hstop h0
    rw [he]
    (repeat (first | refine XK.norm rfl rfl ?_ | refine XK.rgnA hT rfl rfl rfl ?_ | refine XK.rgnB hT hm rfl rfl rfl ?_))
    (first | refine XK.out rfl rfl rfl ?_ | refine XK.outN rfl rfl rfl ?_)
    rfl
def exS15 : K :=
  { parties := 2, holders := [0, 1], units := [], acts := [⟨1, 0, 0, -1, -1, (0, 1)⟩, ⟨1, 1, 0, -1, -1, (0, 1)⟩],
    clauses := [⟨1, 0, 0, 1, [], 2, 1, false, true, -1, -1, (0, 1), -1, -1, false⟩, ⟨2, 1, 1, 1, [⟨0, 2⟩], 3, 0, false, false, -1, -1, (0, 1), -1, -1, false⟩], days := 9, off := [] }
theorem exS15_W : kW exS15 := by
  simp [kW, exS15, inK, actW, clW, qW, cndW]
theorem sample15_ok : Does Try.prog 53 [] (kV exS15) := by
  refine Does.weaken (res := ?x) ?_ ?_
  rotate_left
  refine Does.mk (fun _ => false) TT_ok Try.func53 rfl (by kernel_rfl) Try.ntmps53 rfl rfl fun E hT hE hN hR => ?_
  have hm : E.P.follows .mixedOrders = true := by rw [hE]; kernel_rfl
  (repeat (first | refine XK.norm rfl rfl ?_ | refine XK.rgnA hT rfl rfl rfl ?_ | refine XK.rgnB hT hm rfl rfl rfl ?_))
  (first | refine XK.out rfl rfl rfl ?_ | refine XK.outN rfl rfl rfl ?_)
  rfl
  · refine AvS.agg ⟨AvS.refl _, AvS.rs (fun i hi => ?_), AvS.nil, AvS.rs (fun i hi => ?_), AvS.rs (fun i hi => ?_), AvS.refl _, AvS.nil, trivial⟩
    · rcases i with _ | _ | i <;> first | exact AvSL.refl _ | omega
    · rcases i with _ | _ | i <;> first | exact AvSL.refl _ | omega
    · rcases i with _ | _ | i
      · exact ⟨AvS.refl _, AvS.refl _, AvS.refl _, AvS.refl _, AvS.nil, AvSL.refl _⟩
      · exact ⟨AvS.refl _, AvS.refl _, AvS.refl _, AvS.refl _, AvS.rs (fun i hi => by rcases i with _ | i <;> first | exact AvSL.refl _ | omega), AvSL.refl _⟩
      · omega
theorem ex_a : runE exS15 [] 0 = (⟨0, [0, 1], [false, false], [⟨1, 2, 0, 0, false⟩, ⟨0, 0, 0, -1, false⟩]⟩, 0) := by kernel_rfl
theorem ex_b : runE exS15 [0] 1 = (⟨0, [0, 1], [false, false], [⟨3, 0, 1, 0, false⟩, ⟨1, 3, 0, 1, false⟩]⟩, 0) := by kernel_rfl
theorem ex_d : runE exS15 [-1, -1] 2 = (⟨2, [0, 1], [false, false], [⟨2, 1, 0, 0, false⟩, ⟨0, 0, 0, -1, false⟩]⟩, 0) := by kernel_rfl
theorem ex_k : runE exS15 [-1, -1, -1] 3 = (⟨3, [0, 1], [false, false], [⟨4, 0, 0, 0, false⟩, ⟨0, 0, 0, -1, false⟩]⟩, 0) := by kernel_rfl
theorem ex_m : runE exS15 [0, 1] 2 = (⟨0, [0, 1], [false, false], [⟨3, 0, 1, 0, false⟩, ⟨4, 0, 0, 1, false⟩]⟩, 0) := by kernel_rfl
def eA : St := ⟨0, [0, 1], [false, false], [⟨1, 2, 0, 0, false⟩, ⟨0, 0, 0, -1, false⟩]⟩
def eB : St := ⟨0, [0, 1], [false, false], [⟨3, 0, 1, 0, false⟩, ⟨1, 3, 0, 1, false⟩]⟩
def eD : St := ⟨2, [0, 1], [false, false], [⟨2, 1, 0, 0, false⟩, ⟨0, 0, 0, -1, false⟩]⟩
def eK : St := ⟨3, [0, 1], [false, false], [⟨4, 0, 0, 0, false⟩, ⟨0, 0, 0, -1, false⟩]⟩
def eM : St := ⟨0, [0, 1], [false, false], [⟨3, 0, 1, 0, false⟩, ⟨4, 0, 0, 1, false⟩]⟩
theorem run15_at {l : List Int} {s : St} (h : runE exS15 l l.length = (s, 0)) : Does Try.prog 54 [kV exS15, intsV l] (.tup [stV s, .c (.bool true)]) := by
  have := run15_ok exS15 exS15_W l
  rw [h] at this
  exact this
theorem breach_at {s : St} {p : Int} {b : Bool} (h : breachS exS15 s p = b) : Does Try.prog 32 [kV exS15, stV s, .c (.int .i64 p)] (.c (.bool b)) := h ▸ breachS_ok exS15 exS15_W s p
theorem head15_ok : Does Try.prog 23 [] (.c (.bool true)) := by
  refine Does.mk (fun _ => false) TT_ok Try.func23 rfl (by kernel_rfl) Try.ntmps23 rfl rfl fun E hT hE hN hR => ?_
  have hm : E.P.follows .mixedOrders = true := by rw [hE]; kernel_rfl
  (repeat (first | refine XK.norm rfl rfl ?_ | refine XK.rgnA hT rfl rfl rfl ?_ | refine XK.rgnB hT hm rfl rfl rfl ?_)); refine XK.region ?_; refine XL.goA hT rfl rfl rfl rfl ?_
  refine XL.callKA hE rfl rfl rfl rfl trivial rfl rfl (sample15_ok) ?_
  refine XL.goA hT rfl rfl rfl rfl ?_; refine XL.fin ?_; (repeat (first | refine XK.norm rfl rfl ?_ | refine XK.rgnA hT rfl rfl rfl ?_ | refine XK.rgnB hT hm rfl rfl rfl ?_))
  (repeat (first | refine XK.norm rfl rfl ?_ | refine XK.rgnA hT rfl rfl rfl ?_ | refine XK.rgnB hT hm rfl rfl rfl ?_)); refine XK.region ?_; refine XL.goA hT rfl rfl rfl rfl ?_
  refine XL.callKA hE rfl rfl rfl rfl trivial rfl rfl (run15_at (l := []) (s := eA) ex_a) ?_
  refine XL.goA hT rfl rfl rfl rfl ?_; refine XL.fin ?_; (repeat (first | refine XK.norm rfl rfl ?_ | refine XK.rgnA hT rfl rfl rfl ?_ | refine XK.rgnB hT hm rfl rfl rfl ?_))
  (repeat (first | refine XK.norm rfl rfl ?_ | refine XK.rgnA hT rfl rfl rfl ?_ | refine XK.rgnB hT hm rfl rfl rfl ?_)); refine XK.region ?_; refine XL.goA hT rfl rfl rfl rfl ?_
  refine XL.callKA hE rfl rfl rfl rfl trivial rfl rfl (run15_at (l := [0]) (s := eB) ex_b) ?_
  refine XL.goA hT rfl rfl rfl rfl ?_; refine XL.fin ?_; (repeat (first | refine XK.norm rfl rfl ?_ | refine XK.rgnA hT rfl rfl rfl ?_ | refine XK.rgnB hT hm rfl rfl rfl ?_))
  (repeat (first | refine XK.norm rfl rfl ?_ | refine XK.rgnA hT rfl rfl rfl ?_ | refine XK.rgnB hT hm rfl rfl rfl ?_)); refine XK.region ?_; refine XL.goA hT rfl rfl rfl rfl ?_
  refine XL.callKA hE rfl rfl rfl rfl trivial rfl rfl (run15_at (l := [-1, -1]) (s := eD) ex_d) ?_
  refine XL.goA hT rfl rfl rfl rfl ?_; refine XL.fin ?_; (repeat (first | refine XK.norm rfl rfl ?_ | refine XK.rgnA hT rfl rfl rfl ?_ | refine XK.rgnB hT hm rfl rfl rfl ?_))
  (repeat (first | refine XK.norm rfl rfl ?_ | refine XK.rgnA hT rfl rfl rfl ?_ | refine XK.rgnB hT hm rfl rfl rfl ?_)); refine XK.region ?_; refine XL.goA hT rfl rfl rfl rfl ?_
  refine XL.callKA hE rfl rfl rfl rfl trivial rfl rfl (run15_at (l := [-1, -1, -1]) (s := eK) ex_k) ?_
  refine XL.goA hT rfl rfl rfl rfl ?_; refine XL.fin ?_; (repeat (first | refine XK.norm rfl rfl ?_ | refine XK.rgnA hT rfl rfl rfl ?_ | refine XK.rgnB hT hm rfl rfl rfl ?_))
  (repeat (first | refine XK.norm rfl rfl ?_ | refine XK.rgnA hT rfl rfl rfl ?_ | refine XK.rgnB hT hm rfl rfl rfl ?_)); refine XK.region ?_; refine XL.goA hT rfl rfl rfl rfl ?_
  refine XL.callKA hE rfl rfl rfl rfl trivial rfl rfl (run15_at (l := [0, 1]) (s := eM) ex_m) ?_
  refine XL.goA hT rfl rfl rfl rfl ?_; refine XL.fin ?_; (repeat (first | refine XK.norm rfl rfl ?_ | refine XK.rgnA hT rfl rfl rfl ?_ | refine XK.rgnB hT hm rfl rfl rfl ?_))
  (repeat (first | refine XK.norm rfl rfl ?_ | refine XK.rgnA hT rfl rfl rfl ?_ | refine XK.rgnB hT hm rfl rfl rfl ?_)); refine XK.cond rfl (fun h => ?_) (fun h => ?_)
  · exact absurd h (by decide)
  · (repeat (first | refine XK.norm rfl rfl ?_ | refine XK.rgnA hT rfl rfl rfl ?_ | refine XK.rgnB hT hm rfl rfl rfl ?_))
    (repeat (first | refine XK.norm rfl rfl ?_ | refine XK.rgnA hT rfl rfl rfl ?_ | refine XK.rgnB hT hm rfl rfl rfl ?_)); refine XK.region ?_; refine XL.goA hT rfl rfl rfl rfl ?_
    refine XL.callGA hE rfl rfl rfl rfl rfl rfl rfl rfl (breach_at (s := eK) (p := 0) (b := true) (by kernel_rfl)) rfl ?_
    refine XL.goA hT rfl rfl rfl rfl ?_
    refine XL.callGA hE rfl rfl rfl rfl rfl rfl rfl rfl (breach_at (s := eK) (p := 1) (b := false) (by kernel_rfl)) rfl ?_
    refine XL.goA hT rfl rfl rfl rfl ?_
    refine XL.callGA hE rfl rfl rfl rfl rfl rfl rfl rfl (breach_at (s := eM) (p := 1) (b := false) (by kernel_rfl)) rfl ?_
    refine XL.goA hT rfl rfl rfl rfl ?_; refine XL.fin ?_; (repeat (first | refine XK.norm rfl rfl ?_ | refine XK.rgnA hT rfl rfl rfl ?_ | refine XK.rgnB hT hm rfl rfl rfl ?_))
    (first | refine XK.out rfl rfl rfl ?_ | refine XK.outN rfl rfl rfl ?_)
    kernel_rfl
end Go.Proofs.Ytbheoblmfjjaaaa
end
section
/- The law SystemStates. -/
namespace Go.Proofs.Ytbheoblmfjjaaaa
open Go.Eng
set_option maxRecDepth 10000
set_option linter.unusedSimpArgs false
set_option linter.unusedVariables false
section
variable {k : K} {w : Wk} {i : Nat}
theorem outS_mark (hi : i < k.clauses.length) : (outS k w).marks.getD i default = w.mark i := map_getD _ hi
theorem outS_hold (hi : i < k.holders.length) : (outS k w).holders.getD i default = w.hold i := map_getD _ hi
theorem outS_used (hi : i < k.acts.length) : (outS k w).used.getD i default = w.used i := map_getD _ hi
end
theorem rdyB_congr {k : K} (hk : KFacts k) {mk mk' : Nat → Mk} (h : ∀ j, j < k.clauses.length → mk j = mk' j) {i : Nat} (hi : i < k.clauses.length) : rdyB k mk i = rdyB k mk' i := by
  unfold rdyB
  rw [h i hi]
  have : (clAt k i).start.all (condHB mk) = (clAt k i).start.all (condHB mk') := by
    rw [Bool.eq_iff_iff, List.all_eq_true, List.all_eq_true]
    have key : ∀ c ∈ (clAt k i).start, condHB mk c = condHB mk' c := fun c hc => by
      have := hk.cond hi hc
      unfold condHB
      rw [h c.clause.toNat (by omega)]
    constructor <;> intro h c hc
    · rw [← key c hc]; exact h c hc
    · rw [key c hc]; exact h c hc
  rw [this]
theorem validS_of {k : K} (hk : kW k) (h0 : (kValid k).1 = 0) {w : Wk} (hw : WOk k w) : validS k (outS k w) = true := by
  have hF := (show kOk k from ⟨hk, h0⟩).facts
  unfold validS
  rw [if_neg (by simpa using h0), if_neg (by rw [show decide ((outS k w).day < 0) = false from decide_eq_false (by show ¬ w.day < 0; have := hw.day; omega), show decide (k.days < (outS k w).day) = false from decide_eq_false (by show ¬ k.days < w.day; have := hw.day; omega)]; simp [outS]), if_neg, if_neg]
  · refine rall.2 fun i hi => ?_
    have hi : i < k.clauses.length := by simpa [outS] using hi
    rw [outS_mark hi, hw.mark i hi, rdyB_congr hF (mk := (outS k w).wk.mark) (mk' := w.mark) (fun j hj => outS_mark hj) hi, hw.rdy i hi]
    rfl
  · rw [Bool.not_eq_false]
    refine rall.2 fun i hi => ?_
    have hi : i < k.acts.length := by simpa [outS] using hi
    rw [outS_used hi]
    cases hu : w.used i with
    | false => rfl
    | true => have := hw.used i hi hu; simpa using this
  · rw [Bool.not_eq_false]
    refine all_at.2 fun i hi => ?_
    have hi : i < k.holders.length := by simpa [outS] using hi
    rw [outS_hold hi]
    have := hw.hold i hi
    simp; omega
theorem held_at {k : K} (hk : KFacts k) : ∀ i, i < k.holders.length → 0 ≤ k.holders.getD i default ∧ k.holders.getD i default < k.parties := fun i hi => by
  have := all_at.1 hk.held i hi
  simp only [Bool.and_eq_true, decide_eq_true_eq] at this
  exact this
theorem startS_zero {k : K} (hk : kW k) (h : (startS k).2 = 0) : (kValid k).1 = 0 ∧ validS k (startS k).1 = true ∧ (startS k).1.day = 0 := by
  unfold startS at h ⊢
  split at h
  · cases h
  · rename_i h1
    have h1 : (kValid k).1 = 0 := by simpa using h1
    have hF := (show kOk k from ⟨hk, h1⟩).facts
    rw [if_neg (by simpa using h1)]
    exact ⟨h1, validS_of hk h1 (initW_keep hF (held_at hF)), (startW_spec k (initW k)).1.day⟩
theorem startS_err {k : K} {s : St} (h : (startS k).2 ≠ 0) : (startS k).2 = 1 ∧ validS k s = false := by
  unfold startS at h ⊢
  split at h
  · rename_i h1
    rw [if_pos h1]
    exact ⟨rfl, by unfold validS; rw [if_pos h1]⟩
  · exact absurd rfl h
/-- What a step answers. -/
theorem stepS_cases {k : K} (hk : kW k) (s : St) (t : Int) : ((validS k s = false ∨ t < -1 ∨ (k.acts.length : Int) ≤ t) ∧ stepS k s t = (zS, 1)) ∨
    ((validS k s = true ∧ -1 ≤ t ∧ t < k.acts.length) ∧ s.day = k.days ∧ stepS k s t = (zS, 13)) ∨
    ((validS k s = true ∧ -1 ≤ t ∧ t < k.acts.length) ∧ s.day ≠ k.days ∧ stepS k s t = (outS k (stepW k s.wk t), 0) ∧ WOk k (stepW k s.wk t)) := by
  unfold stepS
  split
  · rename_i h
    simp only [Bool.or_eq_true, Bool.not_eq_true', decide_eq_true_eq] at h
    exact .inl ⟨by rcases h with (h | h) | h <;> simp [h], rfl⟩
  · rename_i h
    simp only [Bool.or_eq_true, Bool.not_eq_true', decide_eq_true_eq, not_or, Bool.not_eq_false] at h
    obtain ⟨⟨h1, h2⟩, h3⟩ := h
    split
    · rename_i h4
      exact .inr (.inl ⟨⟨h1, by omega, by omega⟩, h4, rfl⟩)
    · rename_i h4
      have hl := validS_len h1
      have hF := (show kOk k from ⟨hk, hl.1⟩).facts
      exact .inr (.inr ⟨⟨h1, by omega, by omega⟩, h4, rfl, stepW_keep hF (validS_W h1) ⟨by omega, by omega⟩ (by show s.day < k.days; omega)⟩)
theorem lawSS (k : K) (hk : kW k) (s : St) (t : Int) : Does Try.prog 4 [kV k, stV s, .c (.int .i64 t)] (.c (.bool true)) := by
  refine Does.mk (fun _ => false) TT_ok Try.func4 rfl (by kernel_rfl) Try.ntmps4 rfl rfl fun E hT hE hN hR => ?_
  have hm : E.P.follows .mixedOrders = true := by rw [hE]; kernel_rfl
  (repeat (first | refine XK.norm rfl rfl ?_ | refine XK.rgnA hT rfl rfl rfl ?_ | refine XK.rgnB hT hm rfl rfl rfl ?_)); refine XK.region ?_; refine XL.goA hT rfl rfl rfl rfl ?_
  refine XL.callLA hE rfl rfl rfl rfl trivial rfl (head15_ok) rfl ?_
  refine XL.goA hT rfl rfl rfl rfl ?_; refine XL.fin ?_; (repeat (first | refine XK.norm rfl rfl ?_ | refine XK.rgnA hT rfl rfl rfl ?_ | refine XK.rgnB hT hm rfl rfl rfl ?_))
  (repeat (first | refine XK.norm rfl rfl ?_ | refine XK.rgnA hT rfl rfl rfl ?_ | refine XK.rgnB hT hm rfl rfl rfl ?_)); refine XK.region ?_; refine XL.goA hT rfl rfl rfl rfl ?_
  refine XL.callLA hE rfl rfl rfl rfl trivial rfl (smallQ_ok k 40) rfl ?_
  refine XL.goA hT rfl rfl rfl rfl ?_
  refine XL.callGA hE rfl rfl rfl rfl rfl rfl rfl rfl (fewS_ok s) rfl ?_
  refine XL.goA hT rfl rfl rfl rfl ?_; refine XL.fin ?_; (repeat (first | refine XK.norm rfl rfl ?_ | refine XK.rgnA hT rfl rfl rfl ?_ | refine XK.rgnB hT hm rfl rfl rfl ?_))
  (repeat (first | refine XK.norm rfl rfl ?_ | refine XK.rgnA hT rfl rfl rfl ?_ | refine XK.rgnB hT hm rfl rfl rfl ?_)); refine XK.cond rfl (fun h0 => ?_) (fun h0 => ?_) <;> (try simp at h0)
  · (repeat (first | refine XK.norm rfl rfl ?_ | refine XK.rgnA hT rfl rfl rfl ?_ | refine XK.rgnB hT hm rfl rfl rfl ?_))
    (first | refine XK.out rfl rfl rfl ?_ | refine XK.outN rfl rfl rfl ?_)
    rfl
  · have z1 := fun h => startS_zero hk (k := k) h
    have z2 := fun h => startS_err (k := k) (s := s) h
    have hc := stepS_cases hk s t
    have d1 := startS_ok k hk
    generalize startS k = r at *
    (repeat (first | refine XK.norm rfl rfl ?_ | refine XK.rgnA hT rfl rfl rfl ?_ | refine XK.rgnB hT hm rfl rfl rfl ?_)); refine XK.region ?_; refine XL.goA hT rfl rfl rfl rfl ?_
    refine XL.callKA hE rfl rfl rfl rfl trivial rfl rfl (d1) ?_
    refine XL.goA hT rfl rfl rfl rfl ?_; refine XL.fin ?_; (repeat (first | refine XK.norm rfl rfl ?_ | refine XK.rgnA hT rfl rfl rfl ?_ | refine XK.rgnB hT hm rfl rfl rfl ?_))
    (repeat (first | refine XK.norm rfl rfl ?_ | refine XK.rgnA hT rfl rfl rfl ?_ | refine XK.rgnB hT hm rfl rfl rfl ?_)); refine XK.cond rfl (fun h1 => ?_) (fun h1 => ?_) <;> (try simp at h1)
    · (repeat (first | refine XK.norm rfl rfl ?_ | refine XK.rgnA hT rfl rfl rfl ?_ | refine XK.rgnB hT hm rfl rfl rfl ?_)); refine XK.region ?_; refine XL.goA hT rfl rfl rfl rfl ?_
      refine XL.callGA hE rfl rfl rfl rfl rfl rfl rfl rfl (validS_ok k hk s) rfl ?_
      refine XL.goA hT rfl rfl rfl rfl ?_; refine XL.fin ?_; (repeat (first | refine XK.norm rfl rfl ?_ | refine XK.rgnA hT rfl rfl rfl ?_ | refine XK.rgnB hT hm rfl rfl rfl ?_))
      (first | refine XK.out rfl rfl rfl ?_ | refine XK.outN rfl rfl rfl ?_)
      obtain ⟨e1, e2⟩ := z2 h1
      rw [e1, e2]
      rfl
    · obtain ⟨y1, y2, y3⟩ := z1 h1
      have v1 := validS_ok k hk r.1
      rw [y2] at v1
      (repeat (first | refine XK.norm rfl rfl ?_ | refine XK.rgnA hT rfl rfl rfl ?_ | refine XK.rgnB hT hm rfl rfl rfl ?_)); refine XK.region ?_; refine XL.goA hT rfl rfl rfl rfl ?_
      refine XL.callLA hE rfl rfl rfl rfl trivial rfl (v1) rfl ?_
      refine XL.goA hT rfl rfl rfl rfl ?_; refine XL.fin ?_; (repeat (first | refine XK.norm rfl rfl ?_ | refine XK.rgnA hT rfl rfl rfl ?_ | refine XK.rgnB hT hm rfl rfl rfl ?_))
      (repeat (first | refine XK.norm rfl rfl ?_ | refine XK.rgnA hT rfl rfl rfl ?_ | refine XK.rgnB hT hm rfl rfl rfl ?_)); refine XK.cond rfl (fun h2 => ?_) (fun h2 => ?_) <;> (try simp at h2)
      · exact absurd y3 h2
      · have d2 := stepS_ok k hk s t
        generalize hst : stepS k s t = q at *
        (repeat (first | refine XK.norm rfl rfl ?_ | refine XK.rgnA hT rfl rfl rfl ?_ | refine XK.rgnB hT hm rfl rfl rfl ?_)); refine XK.region ?_; refine XL.goA hT rfl rfl rfl rfl ?_
        refine XL.callKA hE rfl rfl rfl rfl trivial rfl rfl (d2) ?_
        refine XL.goA hT rfl rfl rfl rfl ?_; refine XL.fin ?_; (repeat (first | refine XK.norm rfl rfl ?_ | refine XK.rgnA hT rfl rfl rfl ?_ | refine XK.rgnB hT hm rfl rfl rfl ?_))
        (repeat (first | refine XK.norm rfl rfl ?_ | refine XK.rgnA hT rfl rfl rfl ?_ | refine XK.rgnB hT hm rfl rfl rfl ?_)); refine XK.region ?_; refine XL.goA hT rfl rfl rfl rfl ?_
        refine XL.callLA hE rfl rfl rfl rfl trivial rfl (validS_ok k hk s) rfl ?_
        refine XL.goA hT rfl rfl rfl rfl ?_; refine XL.fin ?_; (repeat (first | refine XK.norm rfl rfl ?_ | refine XK.rgnA hT rfl rfl rfl ?_ | refine XK.rgnB hT hm rfl rfl rfl ?_))
        (repeat (first | refine XK.norm rfl rfl ?_ | refine XK.rgnA hT rfl rfl rfl ?_ | refine XK.rgnB hT hm rfl rfl rfl ?_)); refine XK.cond rfl (fun h3 => ?_) (fun h3 => ?_)
        · simp only [Bool.or_eq_true, Bool.not_eq_true', decide_eq_true_eq] at h3
          have hq : q = (zS, 1) := by
            rcases hc with h | ⟨⟨h4, h5, h6⟩, _⟩ | ⟨⟨h4, h5, h6⟩, _⟩
            · exact h.2
            · rcases h3 with (h3 | h3) | h3
              · rw [h3] at h4; cases h4
              · omega
              · omega
            · rcases h3 with (h3 | h3) | h3
              · rw [h3] at h4; cases h4
              · omega
              · omega
          rw [hq]
          (repeat (first | refine XK.norm rfl rfl ?_ | refine XK.rgnA hT rfl rfl rfl ?_ | refine XK.rgnB hT hm rfl rfl rfl ?_))
          (first | refine XK.out rfl rfl rfl ?_ | refine XK.outN rfl rfl rfl ?_)
          rfl
        · simp only [Bool.or_eq_false_iff, Bool.not_eq_false', decide_eq_false_iff_not] at h3
          have hc := hc.resolve_left (fun h => by
            rcases h.1 with h4 | h4 | h4
            · rw [h3.1.1] at h4; cases h4
            · exact h3.1.2 h4
            · exact h3.2 h4)
          (repeat (first | refine XK.norm rfl rfl ?_ | refine XK.rgnA hT rfl rfl rfl ?_ | refine XK.rgnB hT hm rfl rfl rfl ?_)); refine XK.cond rfl (fun h4 => ?_) (fun h4 => ?_) <;> (try simp at h4)
          · have hq : q = (zS, 13) := by
              rcases hc with h | h
              · exact h.2.2
              · exact absurd h4 h.2.1
            rw [hq]
            (repeat (first | refine XK.norm rfl rfl ?_ | refine XK.rgnA hT rfl rfl rfl ?_ | refine XK.rgnB hT hm rfl rfl rfl ?_))
            (first | refine XK.out rfl rfl rfl ?_ | refine XK.outN rfl rfl rfl ?_)
            rfl
          · obtain ⟨-, -, hq, hw⟩ := hc.resolve_left fun h => h4 h.2.1
            have v2 := validS_ok k hk (outS k (stepW k s.wk t))
            rw [validS_of hk y1 hw] at v2
            rw [hq]
            (repeat (first | refine XK.norm rfl rfl ?_ | refine XK.rgnA hT rfl rfl rfl ?_ | refine XK.rgnB hT hm rfl rfl rfl ?_)); refine XK.region ?_; refine XL.goA hT rfl rfl rfl rfl ?_
            refine XL.callGA hE rfl rfl rfl rfl rfl rfl rfl rfl (v2) rfl ?_
            refine XL.goA hT rfl rfl rfl rfl ?_; refine XL.fin ?_; (repeat (first | refine XK.norm rfl rfl ?_ | refine XK.rgnA hT rfl rfl rfl ?_ | refine XK.rgnB hT hm rfl rfl rfl ?_))
            (first | refine XK.out rfl rfl rfl ?_ | refine XK.outN rfl rfl rfl ?_)
            rfl
end Go.Proofs.Ytbheoblmfjjaaaa
end
