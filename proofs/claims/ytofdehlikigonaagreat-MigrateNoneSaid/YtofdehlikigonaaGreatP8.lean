import Derived.Test.YtofdehlikigonaaGreatP7
import Derived.Test.YtofdehlikigonaaGreatP5
section
/- Contracts: package contract, framed. -/
namespace Go.Proofs.YtofdehlikigonaaGreat
open Go.Eng
set_option maxRecDepth 10000
set_option linter.unusedSimpArgs false
set_option linter.unusedVariables false
def offPrev (k : K) (i : Nat) : Int := if i = 0 then -1 else k.off.getD (i - 1) default
def offB (k : K) : Bool := (List.range k.off.length).all (fun i => decide (offPrev k i < k.off.getD i default) && decide (k.off.getD i default < k.days))
noncomputable def framedB (k : K) : Bool :=
  if k.parties < 1 ∨ k.days < 1 ∨ k.holders.length = 0 ∨ heldB k = false then false
  else if (validR (fun j => k.units.getD j default) k.units.length).2 = false then false
  else k.acts.all (actB k) && offB k
theorem framed_ok (k : K) (hk : kW k) : Does Tryz.prog 47 [kV k] (.c (.bool (framedB k))) := by
  refine Does.mk (fun _ => false) TT_ok Tryz.func47 rfl (by kernel_rfl) Tryz.ntmps47 rfl rfl fun E hT hE hN hR => ?_
  have hm : E.P.follows .mixedOrders = true := by rw [hE]; kernel_rfl
  (repeat (first | refine XK.norm rfl rfl ?_ | refine XK.rgnA hT rfl rfl rfl ?_ | refine XK.rgnB hT hm rfl rfl rfl ?_)); refine XK.region ?_; refine XL.goA hT rfl rfl rfl rfl ?_
  refine XL.callGA hE rfl rfl rfl rfl rfl rfl rfl rfl (held_ok k hk) rfl ?_
  refine XL.goA hT rfl rfl rfl rfl ?_; refine XL.fin ?_; (repeat (first | refine XK.norm rfl rfl ?_ | refine XK.rgnA hT rfl rfl rfl ?_ | refine XK.rgnB hT hm rfl rfl rfl ?_))
  (repeat (first | refine XK.norm rfl rfl ?_ | refine XK.rgnA hT rfl rfl rfl ?_ | refine XK.rgnB hT hm rfl rfl rfl ?_)); refine XK.cond rfl (fun h1 => ?_) (fun h1 => ?_)
  · (repeat (first | refine XK.norm rfl rfl ?_ | refine XK.rgnA hT rfl rfl rfl ?_ | refine XK.rgnB hT hm rfl rfl rfl ?_))
    (first | refine XK.out rfl rfl rfl ?_ | refine XK.outN rfl rfl rfl ?_)
    have : k.parties < 1 ∨ k.days < 1 ∨ k.holders.length = 0 ∨ heldB k = false := by
      simp only [Bool.or_eq_true, decide_eq_true_eq, beq_iff_eq, Bool.not_eq_true'] at h1
      rcases h1 with ((h | h) | h) | h
      · exact .inl h
      · exact .inr (.inl h)
      · exact .inr (.inr (.inl (by omega)))
      · exact .inr (.inr (.inr h))
    simp only [framedB, if_pos this]
  · have h1' : ¬ (k.parties < 1 ∨ k.days < 1 ∨ k.holders.length = 0 ∨ heldB k = false) := by
      intro h
      rcases h with h | h | h | h <;> simp [h] at h1
    (repeat (first | refine XK.norm rfl rfl ?_ | refine XK.rgnA hT rfl rfl rfl ?_ | refine XK.rgnB hT hm rfl rfl rfl ?_)); refine XK.region ?_; refine XL.goA hT rfl rfl rfl rfl ?_
    refine XL.callLA hE rfl rfl rfl rfl trivial rfl (qvalid_ok k.units.length (fun j => k.units.getD j default) (all_getD hk.2.2.1)) rfl ?_
    refine XL.goA hT rfl rfl rfl rfl ?_; refine XL.fin ?_; (repeat (first | refine XK.norm rfl rfl ?_ | refine XK.rgnA hT rfl rfl rfl ?_ | refine XK.rgnB hT hm rfl rfl rfl ?_))
    (repeat (first | refine XK.norm rfl rfl ?_ | refine XK.rgnA hT rfl rfl rfl ?_ | refine XK.rgnB hT hm rfl rfl rfl ?_)); refine XK.cond rfl (fun h2 => ?_) (fun h2 => ?_)
    · (repeat (first | refine XK.norm rfl rfl ?_ | refine XK.rgnA hT rfl rfl rfl ?_ | refine XK.rgnB hT hm rfl rfl rfl ?_))
      (first | refine XK.out rfl rfl rfl ?_ | refine XK.outN rfl rfl rfl ?_)
      have : (validR (fun j => k.units.getD j default) k.units.length).2 = false := by simpa using h2
      simp only [framedB, if_neg h1', if_pos this]
    · have h2' : ¬ (validR (fun j => k.units.getD j default) k.units.length).2 = false := by
        simpa using h2
      (repeat (first | refine XK.norm rfl rfl ?_ | refine XK.rgnA hT rfl rfl rfl ?_ | refine XK.rgnB hT hm rfl rfl rfl ?_))
      refine XK.fact (Sat.rs_len (j := 38) rfl) fun hlen => ?_
      have hm' := hlen.1
      refine XK.loop (ι := Nat) (fun i => ST.of [(1, .ptr 1 0), (38, actsV k.acts), (39, .c (.int .i64 k.acts.length)), (40, .c (.int .i64 i))] [(1, .cells 27 (kC k))] 1000 67 (fun _ => false))
        (fun i => i ≤ k.acts.length ∧ ∀ j, j < i → actB k (k.acts.getD j default) = true) (fun i => k.acts.length - i) 0 ⟨Nat.zero_le _, fun j hj => absurd hj (Nat.not_lt_zero _)⟩
        (Weak.of hN rfl rfl rfl ⟨rfl, AvIs.refl _, rfl, rfl⟩ ⟨rfl, rfl⟩) fun i hi => ?_
      obtain ⟨hi1, hi2⟩ := hi
      (repeat (first | refine XK.norm rfl rfl ?_ | refine XK.rgnA hT rfl rfl rfl ?_ | refine XK.rgnB hT hm rfl rfl rfl ?_)); refine XK.cond rfl (fun hlt => ?_) (fun hlt => ?_) <;> (try simp at hlt)
      · (repeat (first | refine XK.norm rfl rfl ?_ | refine XK.rgnA hT rfl rfl rfl ?_ | refine XK.rgnB hT hm rfl rfl rfl ?_)); refine XK.region ?_; refine XL.goA hT rfl rfl rfl rfl ?_
        refine XL.callLA hE rfl rfl rfl rfl trivial rfl (validAct_ok k (k.acts.getD i default) (all_getD hk.2.2.2.1 i hlt)) rfl ?_
        refine XL.goA hT rfl rfl rfl rfl ?_; refine XL.fin ?_; (repeat (first | refine XK.norm rfl rfl ?_ | refine XK.rgnA hT rfl rfl rfl ?_ | refine XK.rgnB hT hm rfl rfl rfl ?_))
        (repeat (first | refine XK.norm rfl rfl ?_ | refine XK.rgnA hT rfl rfl rfl ?_ | refine XK.rgnB hT hm rfl rfl rfl ?_)); refine XK.cond rfl (fun ha => ?_) (fun ha => ?_)
        · (repeat (first | refine XK.norm rfl rfl ?_ | refine XK.rgnA hT rfl rfl rfl ?_ | refine XK.rgnB hT hm rfl rfl rfl ?_))
          (first | refine XK.out rfl rfl rfl ?_ | refine XK.outN rfl rfl rfl ?_)
          have : k.acts.all (actB k) = false := all_not hlt (by simpa using ha)
          simp only [framedB, if_neg h1', if_neg h2', this, Bool.false_and]
        · (repeat (first | refine XK.norm rfl rfl ?_ | refine XK.rgnA hT rfl rfl rfl ?_ | refine XK.rgnB hT hm rfl rfl rfl ?_))
          refine XK.inv ⟨i + 1, ⟨hlt, fun j hj => ?_⟩, Weak.of hN rfl rfl rfl ⟨rfl, AvIs.refl _, rfl, rfl⟩ ⟨rfl, rfl⟩, by omega⟩
          by_cases h : j = i
          · subst h; simpa using ha
          · exact hi2 j (by omega)
      · have hacts : k.acts.all (actB k) = true := all_at.2 fun j hj => hi2 j (by omega)
        (repeat (first | refine XK.norm rfl rfl ?_ | refine XK.rgnA hT rfl rfl rfl ?_ | refine XK.rgnB hT hm rfl rfl rfl ?_))
        refine XK.fact (Sat.rs_len (j := 50) rfl) fun hlen => ?_
        have hm'' := hlen.1
        refine XK.loop (ι := Nat) (fun i => ST.of [(1, .ptr 1 0), (7, .c (.int .i64 (offPrev k i))), (50, intsV k.off), (51, .c (.int .i64 k.off.length)), (52, .c (.int .i64 i))] [(1, .cells 27 (kC k))] 1000 67 (fun _ => false))
          (fun i => i ≤ k.off.length ∧ ∀ j, j < i → (decide (offPrev k j < k.off.getD j default) && decide (k.off.getD j default < k.days)) = true) (fun i => k.off.length - i) 0 ⟨Nat.zero_le _, fun j hj => absurd hj (Nat.not_lt_zero _)⟩
          (Weak.of hN rfl rfl rfl ⟨rfl, rfl, AvIs.refl _, rfl, rfl⟩ ⟨rfl, rfl⟩) fun i hi => ?_
        obtain ⟨hi1, hi2⟩ := hi
        (repeat (first | refine XK.norm rfl rfl ?_ | refine XK.rgnA hT rfl rfl rfl ?_ | refine XK.rgnB hT hm rfl rfl rfl ?_)); refine XK.cond rfl (fun hlt => ?_) (fun hlt => ?_) <;> (try simp at hlt)
        · (repeat (first | refine XK.norm rfl rfl ?_ | refine XK.rgnA hT rfl rfl rfl ?_ | refine XK.rgnB hT hm rfl rfl rfl ?_)); refine XK.cond rfl (fun ho => ?_) (fun ho => ?_)
          · (repeat (first | refine XK.norm rfl rfl ?_ | refine XK.rgnA hT rfl rfl rfl ?_ | refine XK.rgnB hT hm rfl rfl rfl ?_))
            (first | refine XK.out rfl rfl rfl ?_ | refine XK.outN rfl rfl rfl ?_)
            have : offB k = false := by
              unfold offB
              rw [List.all_eq_false]
              refine ⟨i, by simpa using hlt, ?_⟩
              simp only [Bool.or_eq_true, decide_eq_true_eq, Int.toNat_natCast] at ho
              simp only [Bool.and_eq_true, decide_eq_true_eq, not_and]
              omega
            simp only [framedB, if_neg h1', if_neg h2', this, Bool.and_false]
          · (repeat (first | refine XK.norm rfl rfl ?_ | refine XK.rgnA hT rfl rfl rfl ?_ | refine XK.rgnB hT hm rfl rfl rfl ?_))
            refine XK.inv ⟨i + 1, ⟨hlt, fun j hj => ?_⟩, Weak.of hN rfl rfl rfl ⟨rfl, rfl, AvIs.refl _, rfl, rfl⟩ ⟨rfl, rfl⟩, by omega⟩
            by_cases h : j = i
            · subst h
              simp only [Bool.or_eq_false_iff, decide_eq_false_iff_not, Int.toNat_natCast] at ho
              simp only [Bool.and_eq_true, decide_eq_true_eq]
              omega
            · exact hi2 j (by omega)
        · (repeat (first | refine XK.norm rfl rfl ?_ | refine XK.rgnA hT rfl rfl rfl ?_ | refine XK.rgnB hT hm rfl rfl rfl ?_))
          (first | refine XK.out rfl rfl rfl ?_ | refine XK.outN rfl rfl rfl ?_)
          have : offB k = true := by
            simp only [offB, List.all_eq_true, List.mem_range]
            exact fun j hj => hi2 j (by omega)
          simp only [framedB, if_neg h1', if_neg h2', hacts, this, Bool.and_self]
end Go.Proofs.YtofdehlikigonaaGreat
end
section
/- Contracts: package contract, validClause. -/
namespace Go.Proofs.YtofdehlikigonaaGreat
open Go.Eng
set_option maxRecDepth 10000
set_option linter.unusedSimpArgs false
set_option linter.unusedVariables false
def condB (k : K) (i : Int) (s : Cnd) : Bool := !(decide (s.clause < 0) || decide ((k.clauses.length : Int) ≤ s.clause) || s.clause == i || decide (s.is < 1) || decide (4 < s.is))
def clauseB (k : K) (i : Int) (x : Cl) : Bool :=
  if (decide (x.act < 0) || decide ((k.acts.length : Int) ≤ x.act) || decide (x.after < 1) || decide (400 < x.after)) = true then false
  else if (!kindB k x || decide ((8 : Int) < x.start.length)) = true then false
  else if x.start.all (condB k i) = false then false
  else if (x.pause ≠ -1 ∨ x.resume ≠ -1) ∧ (x.pause == x.resume || !natB k x.pause || !natB k x.resume) = true then false
  else if x.unit = -1 then (x.value.1 == 0 && x.value.2 == 1) && x.to == -1
  else (x.kind == 1 || x.kind == 2) && decide (0 ≤ x.unit) && decide (x.unit < k.units.length) && (k.units.getD x.unit.toNat default).kind == 2 && posB x.value && movB k x.to
theorem validClause_ok (k : K) (hk : kW k) (i : Nat) (hi : i < k.clauses.length) : Does Tryz.prog 48 [kV k, .c (.int .i64 i)] (.c (.bool (clauseB k i (k.clauses.getD i default)))) := by
  refine Does.mk (fun _ => false) TT_ok Tryz.func48 rfl (by kernel_rfl) Tryz.ntmps48 rfl rfl fun E hT hE hN hR => ?_
  have hm : E.P.follows .mixedOrders = true := by rw [hE]; kernel_rfl
  have hx := all_getD hk.2.2.2.2.1 i hi
  (repeat (first | refine XK.norm rfl rfl ?_ | refine XK.rgnA hT rfl rfl rfl ?_ | refine XK.rgnB hT hm rfl rfl rfl ?_))
  refine XK.weak (Weak.of (L := [(1, .c (.int .i64 i)), (2, .ptr 2 0), (4, .c (.bool false)), (5, .ptr 165 0), (33, .c (.bool (decide ((k.clauses.getD i default).act < 0) || decide ((k.acts.length : Int) ≤ (k.clauses.getD i default).act) || decide ((k.clauses.getD i default).after < 1) || decide (400 < (k.clauses.getD i default).after))))]) (O := [(2, .cells 27 (kC k)), (165, .cells 32 (clC (k.clauses.getD i default)))]) (nx := 1000) (nt := 160) (md := fun _ => false) hN rfl rfl rfl ⟨rfl, rfl, rfl, rfl, rfl⟩ ⟨⟨rfl, rfl⟩, rfl, rfl⟩) ?_
  generalize k.clauses.getD i default = x at *
  (repeat (first | refine XK.norm rfl rfl ?_ | refine XK.rgnA hT rfl rfl rfl ?_ | refine XK.rgnB hT hm rfl rfl rfl ?_)); refine XK.cond rfl (fun h1 => ?_) (fun h1 => ?_)
  · (repeat (first | refine XK.norm rfl rfl ?_ | refine XK.rgnA hT rfl rfl rfl ?_ | refine XK.rgnB hT hm rfl rfl rfl ?_))
    (first | refine XK.out rfl rfl rfl ?_ | refine XK.outN rfl rfl rfl ?_)
    simp only [clauseB, if_pos h1]
  · rw [clauseB, if_neg (by rw [h1]; simp)]
    (repeat (first | refine XK.norm rfl rfl ?_ | refine XK.rgnA hT rfl rfl rfl ?_ | refine XK.rgnB hT hm rfl rfl rfl ?_)); refine XK.region ?_; refine XL.goA hT rfl rfl rfl rfl ?_
    refine XL.callLA hE rfl rfl rfl rfl trivial rfl (validKind_ok k x) rfl ?_
    refine XL.goA hT rfl rfl rfl rfl ?_; refine XL.fin ?_; (repeat (first | refine XK.norm rfl rfl ?_ | refine XK.rgnA hT rfl rfl rfl ?_ | refine XK.rgnB hT hm rfl rfl rfl ?_))
    (repeat (first | refine XK.norm rfl rfl ?_ | refine XK.rgnA hT rfl rfl rfl ?_ | refine XK.rgnB hT hm rfl rfl rfl ?_)); refine XK.cond rfl (fun h2 => ?_) (fun h2 => ?_)
    · (repeat (first | refine XK.norm rfl rfl ?_ | refine XK.rgnA hT rfl rfl rfl ?_ | refine XK.rgnB hT hm rfl rfl rfl ?_))
      (first | refine XK.out rfl rfl rfl ?_ | refine XK.outN rfl rfl rfl ?_)
      simp only [if_pos h2]
    · rw [if_neg (by rw [h2]; simp)]
      (repeat (first | refine XK.norm rfl rfl ?_ | refine XK.rgnA hT rfl rfl rfl ?_ | refine XK.rgnB hT hm rfl rfl rfl ?_))
      refine XK.fact (Sat.rs_len (j := 45) rfl) fun hlen => ?_
      have hm' := hlen.1
      refine XK.loop (ι := Nat) (fun j => ST.of [(1, .c (.int .i64 i)), (2, .ptr 2 0), (4, .c (.bool false)), (5, .ptr 165 0), (45, cndsV x.start), (46, .c (.int .i64 x.start.length)), (47, .c (.int .i64 j))] [(2, .cells 27 (kC k)), (165, .cells 32 (clC x))] 3000 160 (fun _ => false))
        (fun j => j ≤ x.start.length ∧ ∀ q, q < j → condB k i (x.start.getD q default) = true) (fun j => x.start.length - j) 0 ⟨Nat.zero_le _, fun j hj => absurd hj (Nat.not_lt_zero _)⟩
        (Weak.of hN rfl rfl rfl ⟨rfl, rfl, rfl, rfl, AvIs.refl _, rfl, rfl⟩ ⟨⟨rfl, rfl⟩, rfl, rfl⟩) fun j hj => ?_
      obtain ⟨hj1, hj2⟩ := hj
      (repeat (first | refine XK.norm rfl rfl ?_ | refine XK.rgnA hT rfl rfl rfl ?_ | refine XK.rgnB hT hm rfl rfl rfl ?_)); refine XK.cond rfl (fun hlt => ?_) (fun hlt => ?_) <;> (try simp at hlt)
      · (repeat (first | refine XK.norm rfl rfl ?_ | refine XK.rgnA hT rfl rfl rfl ?_ | refine XK.rgnB hT hm rfl rfl rfl ?_)); refine XK.cond rfl (fun hb => ?_) (fun hb => ?_)
        · (repeat (first | refine XK.norm rfl rfl ?_ | refine XK.rgnA hT rfl rfl rfl ?_ | refine XK.rgnB hT hm rfl rfl rfl ?_))
          (first | refine XK.out rfl rfl rfl ?_ | refine XK.outN rfl rfl rfl ?_)
          have : x.start.all (condB k i) = false := all_not hlt (by rw [condB, Bool.not_eq_false']; exact hb)
          rw [if_pos this]
        · (repeat (first | refine XK.norm rfl rfl ?_ | refine XK.rgnA hT rfl rfl rfl ?_ | refine XK.rgnB hT hm rfl rfl rfl ?_))
          refine XK.inv ⟨j + 1, ⟨hlt, fun q hq => ?_⟩, Weak.of hN rfl rfl rfl ⟨rfl, rfl, rfl, rfl, AvIs.refl _, rfl, rfl⟩ ⟨⟨rfl, rfl⟩, rfl, rfl⟩, by omega⟩
          by_cases h : q = j
          · subst h
            rw [condB, Bool.not_eq_true']
            exact hb
          · exact hj2 q (by omega)
      · have hall : x.start.all (condB k i) = true := all_at.2 fun q hq => hj2 q (by omega)
        rw [if_neg (by rw [hall]; simp)]
        (repeat (first | refine XK.norm rfl rfl ?_ | refine XK.rgnA hT rfl rfl rfl ?_ | refine XK.rgnB hT hm rfl rfl rfl ?_)); refine XK.cond rfl (fun hp => ?_) (fun hp => ?_) <;> (try simp at hp)
        · (repeat (first | refine XK.norm rfl rfl ?_ | refine XK.rgnA hT rfl rfl rfl ?_ | refine XK.rgnB hT hm rfl rfl rfl ?_)); refine XK.region ?_; refine XL.goA hT rfl rfl rfl rfl ?_
          refine XL.callGA hE rfl rfl rfl rfl rfl rfl rfl rfl (natural_ok k x.pause) rfl ?_
          refine XL.goA hT rfl rfl rfl rfl ?_
          refine XL.callGA hE rfl rfl rfl rfl rfl rfl rfl rfl (natural_ok k x.resume) rfl ?_
          refine XL.goA hT rfl rfl rfl rfl ?_; refine XL.fin ?_; (repeat (first | refine XK.norm rfl rfl ?_ | refine XK.rgnA hT rfl rfl rfl ?_ | refine XK.rgnB hT hm rfl rfl rfl ?_))
          (repeat (first | refine XK.norm rfl rfl ?_ | refine XK.rgnA hT rfl rfl rfl ?_ | refine XK.rgnB hT hm rfl rfl rfl ?_)); refine XK.cond rfl (fun hq => ?_) (fun hq => ?_)
          · (repeat (first | refine XK.norm rfl rfl ?_ | refine XK.rgnA hT rfl rfl rfl ?_ | refine XK.rgnB hT hm rfl rfl rfl ?_))
            (first | refine XK.out rfl rfl rfl ?_ | refine XK.outN rfl rfl rfl ?_)
            rw [if_pos ⟨by simpa using hp, hq⟩]
          · rw [if_neg (by rw [hq]; simp)]
            (repeat (first | refine XK.norm rfl rfl ?_ | refine XK.rgnA hT rfl rfl rfl ?_ | refine XK.rgnB hT hm rfl rfl rfl ?_)); refine XK.cond rfl (fun hu => ?_) (fun hu => ?_) <;> (try simp at hu)
            · (repeat (first | refine XK.norm rfl rfl ?_ | refine XK.rgnA hT rfl rfl rfl ?_ | refine XK.rgnB hT hm rfl rfl rfl ?_)); refine XK.drawn hm ?_; refine XD.goA hT rfl rfl rfl rfl ?_
              refine XD.callLA hE rfl rfl rfl rfl trivial rfl (none_ok) rfl ?_
              refine XD.goA hT rfl rfl rfl rfl ?_; refine XD.fin (by kernel_rfl) ?_; (repeat (first | refine XK.norm rfl rfl ?_ | refine XK.rgnA hT rfl rfl rfl ?_ | refine XK.rgnB hT hm rfl rfl rfl ?_))
              rw [if_pos hu]
              (repeat (first | refine XK.norm rfl rfl ?_ | refine XK.rgnA hT rfl rfl rfl ?_ | refine XK.rgnB hT hm rfl rfl rfl ?_))
              (first | refine XK.out rfl rfl rfl ?_ | refine XK.outN rfl rfl rfl ?_)
              rfl
            · rw [if_neg hu]
              (repeat (first | refine XK.norm rfl rfl ?_ | refine XK.rgnA hT rfl rfl rfl ?_ | refine XK.rgnB hT hm rfl rfl rfl ?_)); refine XK.region ?_; refine XL.goA hT rfl rfl rfl rfl ?_
              refine XL.callGA hE rfl rfl rfl rfl rfl rfl rfl rfl (positive_ok x.value hx.2.2.2.2.2.2.2.2.2.1) rfl ?_
              refine XL.goA hT rfl rfl rfl rfl ?_
              refine XL.callGA hE rfl rfl rfl rfl rfl rfl rfl rfl (movable_ok k x.to) rfl ?_
              refine XL.goA hT rfl rfl rfl rfl ?_; refine XL.fin ?_; (repeat (first | refine XK.norm rfl rfl ?_ | refine XK.rgnA hT rfl rfl rfl ?_ | refine XK.rgnB hT hm rfl rfl rfl ?_))
              (repeat (first | refine XK.norm rfl rfl ?_ | refine XK.rgnA hT rfl rfl rfl ?_ | refine XK.rgnB hT hm rfl rfl rfl ?_))
              (first | refine XK.out rfl rfl rfl ?_ | refine XK.outN rfl rfl rfl ?_)
              rfl
        · rw [if_neg (by simp [hp])]
          (repeat (first | refine XK.norm rfl rfl ?_ | refine XK.rgnA hT rfl rfl rfl ?_ | refine XK.rgnB hT hm rfl rfl rfl ?_)); refine XK.cond rfl (fun hu => ?_) (fun hu => ?_) <;> (try simp at hu)
          · (repeat (first | refine XK.norm rfl rfl ?_ | refine XK.rgnA hT rfl rfl rfl ?_ | refine XK.rgnB hT hm rfl rfl rfl ?_)); refine XK.drawn hm ?_; refine XD.goA hT rfl rfl rfl rfl ?_
            refine XD.callLA hE rfl rfl rfl rfl trivial rfl (none_ok) rfl ?_
            refine XD.goA hT rfl rfl rfl rfl ?_; refine XD.fin (by kernel_rfl) ?_; (repeat (first | refine XK.norm rfl rfl ?_ | refine XK.rgnA hT rfl rfl rfl ?_ | refine XK.rgnB hT hm rfl rfl rfl ?_))
            rw [if_pos hu]
            (repeat (first | refine XK.norm rfl rfl ?_ | refine XK.rgnA hT rfl rfl rfl ?_ | refine XK.rgnB hT hm rfl rfl rfl ?_))
            (first | refine XK.out rfl rfl rfl ?_ | refine XK.outN rfl rfl rfl ?_)
            rfl
          · rw [if_neg hu]
            (repeat (first | refine XK.norm rfl rfl ?_ | refine XK.rgnA hT rfl rfl rfl ?_ | refine XK.rgnB hT hm rfl rfl rfl ?_)); refine XK.region ?_; refine XL.goA hT rfl rfl rfl rfl ?_
            refine XL.callGA hE rfl rfl rfl rfl rfl rfl rfl rfl (positive_ok x.value hx.2.2.2.2.2.2.2.2.2.1) rfl ?_
            refine XL.goA hT rfl rfl rfl rfl ?_
            refine XL.callGA hE rfl rfl rfl rfl rfl rfl rfl rfl (movable_ok k x.to) rfl ?_
            refine XL.goA hT rfl rfl rfl rfl ?_; refine XL.fin ?_; (repeat (first | refine XK.norm rfl rfl ?_ | refine XK.rgnA hT rfl rfl rfl ?_ | refine XK.rgnB hT hm rfl rfl rfl ?_))
            (repeat (first | refine XK.norm rfl rfl ?_ | refine XK.rgnA hT rfl rfl rfl ?_ | refine XK.rgnB hT hm rfl rfl rfl ?_))
            (first | refine XK.out rfl rfl rfl ?_ | refine XK.outN rfl rfl rfl ?_)
            rfl
end Go.Proofs.YtofdehlikigonaaGreat
end
section
/- Contracts: package contract, Valid. -/
namespace Go.Proofs.YtofdehlikigonaaGreat
open Go.Eng
set_option maxRecDepth 10000
set_option linter.unusedSimpArgs false
set_option linter.unusedVariables false
/-- The first clause that is not valid. -/
def badCl (k : K) : Option Nat := (List.range k.clauses.length).find? (fun i => !clauseB k i (k.clauses.getD i default))
noncomputable def kValid (k : K) : Int × Int :=
  if (decide (12 < k.parties) || decide (2000 < k.days) || decide ((12 : Int) < k.holders.length) || decide ((20 : Int) < k.units.length) || decide ((60 : Int) < k.acts.length) || decide ((400 : Int) < k.clauses.length)) = true then (3, -1)
  else if framedB k = false then (1, -1)
  else match badCl k with
    | some i => (1, (i : Int))
    | none => (0, -1)
theorem find_range {p : Nat → Bool} {n i : Nat} (hi : i < n) (h : p i = true) (hl : ∀ j, j < i → p j = false) : (List.range n).find? p = some i := by
  rw [List.find?_range_eq_some]
  exact ⟨h, by simpa using hi, fun j hj => by simpa using hl j hj⟩
theorem kValid_ok (k : K) (hk : kW k) : Does Tryz.prog 25 [kV k] (.tup [.c (.int .i64 (kValid k).1), .c (.int .i64 (kValid k).2)]) := by
  refine Does.mk (fun _ => false) TT_ok Tryz.func25 rfl (by kernel_rfl) Tryz.ntmps25 rfl rfl fun E hT hE hN hR => ?_
  have hm : E.P.follows .mixedOrders = true := by rw [hE]; kernel_rfl
  (repeat (first | refine XK.norm rfl rfl ?_ | refine XK.rgnA hT rfl rfl rfl ?_ | refine XK.rgnB hT hm rfl rfl rfl ?_)); refine XK.cond rfl (fun h1 => ?_) (fun h1 => ?_)
  · (repeat (first | refine XK.norm rfl rfl ?_ | refine XK.rgnA hT rfl rfl rfl ?_ | refine XK.rgnB hT hm rfl rfl rfl ?_))
    (first | refine XK.out rfl rfl rfl ?_ | refine XK.outN rfl rfl rfl ?_)
    simp only [kValid, if_pos h1]
  · rw [kValid, if_neg (by rw [h1]; simp)]
    (repeat (first | refine XK.norm rfl rfl ?_ | refine XK.rgnA hT rfl rfl rfl ?_ | refine XK.rgnB hT hm rfl rfl rfl ?_)); refine XK.region ?_; refine XL.goA hT rfl rfl rfl rfl ?_
    refine XL.callLA hE rfl rfl rfl rfl trivial rfl (framed_ok k hk) rfl ?_
    refine XL.goA hT rfl rfl rfl rfl ?_; refine XL.fin ?_; (repeat (first | refine XK.norm rfl rfl ?_ | refine XK.rgnA hT rfl rfl rfl ?_ | refine XK.rgnB hT hm rfl rfl rfl ?_))
    (repeat (first | refine XK.norm rfl rfl ?_ | refine XK.rgnA hT rfl rfl rfl ?_ | refine XK.rgnB hT hm rfl rfl rfl ?_)); refine XK.cond rfl (fun h2 => ?_) (fun h2 => ?_) <;> (try simp at h2)
    · (repeat (first | refine XK.norm rfl rfl ?_ | refine XK.rgnA hT rfl rfl rfl ?_ | refine XK.rgnB hT hm rfl rfl rfl ?_))
      (first | refine XK.out rfl rfl rfl ?_ | refine XK.outN rfl rfl rfl ?_)
      simp only [if_pos h2]
    · rw [if_neg (by rw [h2]; simp)]
      (repeat (first | refine XK.norm rfl rfl ?_ | refine XK.rgnA hT rfl rfl rfl ?_ | refine XK.rgnB hT hm rfl rfl rfl ?_))
      refine XK.loop (ι := Nat) (fun j => ST.of [(1, .ptr 1 0), (42, .c (.int .i64 k.clauses.length)), (43, .c (.int .i64 j))] [(1, .cells 27 (kC k))] 3000 52 (fun _ => false))
        (fun j => j ≤ k.clauses.length ∧ ∀ q, q < j → clauseB k q (k.clauses.getD q default) = true) (fun j => k.clauses.length - j) 0 ⟨Nat.zero_le _, fun j hj => absurd hj (Nat.not_lt_zero _)⟩
        (Weak.of hN rfl rfl rfl ⟨rfl, rfl, rfl⟩ ⟨rfl, rfl⟩) fun j hj => ?_
      obtain ⟨hj1, hj2⟩ := hj
      (repeat (first | refine XK.norm rfl rfl ?_ | refine XK.rgnA hT rfl rfl rfl ?_ | refine XK.rgnB hT hm rfl rfl rfl ?_)); refine XK.cond rfl (fun hlt => ?_) (fun hlt => ?_) <;> (try simp at hlt)
      · (repeat (first | refine XK.norm rfl rfl ?_ | refine XK.rgnA hT rfl rfl rfl ?_ | refine XK.rgnB hT hm rfl rfl rfl ?_)); refine XK.region ?_; refine XL.goA hT rfl rfl rfl rfl ?_
        refine XL.callLA hE rfl rfl rfl rfl trivial rfl (validClause_ok k hk j hlt) rfl ?_
        refine XL.goA hT rfl rfl rfl rfl ?_; refine XL.fin ?_; (repeat (first | refine XK.norm rfl rfl ?_ | refine XK.rgnA hT rfl rfl rfl ?_ | refine XK.rgnB hT hm rfl rfl rfl ?_))
        (repeat (first | refine XK.norm rfl rfl ?_ | refine XK.rgnA hT rfl rfl rfl ?_ | refine XK.rgnB hT hm rfl rfl rfl ?_)); refine XK.cond rfl (fun hb => ?_) (fun hb => ?_)
        · (repeat (first | refine XK.norm rfl rfl ?_ | refine XK.rgnA hT rfl rfl rfl ?_ | refine XK.rgnB hT hm rfl rfl rfl ?_))
          (first | refine XK.out rfl rfl rfl ?_ | refine XK.outN rfl rfl rfl ?_)
          have : badCl k = some j := find_range hlt hb fun q hq => by rw [hj2 q hq]; rfl
          rw [this]
        · (repeat (first | refine XK.norm rfl rfl ?_ | refine XK.rgnA hT rfl rfl rfl ?_ | refine XK.rgnB hT hm rfl rfl rfl ?_))
          refine XK.inv ⟨j + 1, ⟨hlt, fun q hq => ?_⟩, Weak.of hN rfl rfl rfl ⟨rfl, rfl, rfl⟩ ⟨rfl, rfl⟩, by omega⟩
          by_cases h : q = j
          · subst h; simpa using hb
          · exact hj2 q (by omega)
      · (repeat (first | refine XK.norm rfl rfl ?_ | refine XK.rgnA hT rfl rfl rfl ?_ | refine XK.rgnB hT hm rfl rfl rfl ?_))
        (first | refine XK.out rfl rfl rfl ?_ | refine XK.outN rfl rfl rfl ?_)
        have : badCl k = none := by
          unfold badCl
          rw [List.find?_eq_none]
          intro q hq
          rw [List.mem_range] at hq
          simp only [Bool.not_eq_true', Bool.not_eq_false]
          exact hj2 q (by omega)
        rw [this]
end Go.Proofs.YtofdehlikigonaaGreat
end
section
/- What a valid contract gives. -/
namespace Go.Proofs.YtofdehlikigonaaGreat
open Go.Eng
set_option maxRecDepth 10000
set_option linter.unusedSimpArgs false
set_option linter.unusedVariables false
theorem lt_succ_ne {i j : Nat} (h : j ≠ i) : (j < i + 1) = (j < i) := by
  rw [eq_iff_iff]; omega
/-- A contract that is valid. -/
def kOk (k : K) : Prop := kW k ∧ (kValid k).1 = 0
def clAt (k : K) (i : Nat) : Cl := k.clauses.getD i default
def acAt (k : K) (i : Nat) : Act := k.acts.getD i default
structure KFacts (k : K) : Prop where
  w : kW k
  parties : 1 ≤ k.parties ∧ k.parties ≤ 12
  days : 1 ≤ k.days ∧ k.days ≤ 2000
  nh : 0 < k.holders.length ∧ k.holders.length ≤ 12
  na : k.acts.length ≤ 60
  nc : k.clauses.length ≤ 400
  held : heldB k = true
  off : offB k = true
  act : ∀ i, i < k.acts.length → actB k (acAt k i) = true
  cl : ∀ i, i < k.clauses.length → clauseB k i (clAt k i) = true
theorem kOk.facts {k : K} (h : kOk k) : KFacts k := by
  obtain ⟨hw, hv⟩ := h
  unfold kValid at hv
  split at hv
  · simp at hv
  · rename_i h1
    simp only [Bool.or_eq_true, decide_eq_true_eq, not_or] at h1
    split at hv
    · simp at hv
    · rename_i h2
      split at hv
      · simp at hv
      · rename_i h3
        have h2 : framedB k = true := by simpa using h2
        unfold framedB at h2
        split at h2
        · cases h2
        · rename_i h4
          simp only [not_or] at h4
          split at h2
          · cases h2
          · simp only [Bool.and_eq_true] at h2
            refine ⟨hw, by omega, by omega, by omega, by omega, by omega, by simpa using h4.2.2.2, h2.2, fun i hi => all_at.1 h2.1 i hi, fun i hi => ?_⟩
            have := List.find?_eq_none.1 h3 i (by simpa using hi)
            simpa [clAt] using this
namespace KFacts
variable {k : K} (h : KFacts k)
include h
theorem clW' {i : Nat} (hi : i < k.clauses.length) : clW (clAt k i) := all_getD h.w.2.2.2.2.1 i hi
theorem acW {i : Nat} (hi : i < k.acts.length) : actW (acAt k i) := all_getD h.w.2.2.2.1 i hi
theorem clB {i : Nat} (hi : i < k.clauses.length) : (0 ≤ (clAt k i).act ∧ (clAt k i).act < k.acts.length) ∧ (1 ≤ (clAt k i).after ∧ (clAt k i).after ≤ 400) ∧ kindB k (clAt k i) = true ∧ (clAt k i).start.length ≤ 8 ∧ (∀ s ∈ (clAt k i).start, condB k i s = true) ∧
    (((clAt k i).pause = -1 ∧ (clAt k i).resume = -1) ∨ ((clAt k i).pause ≠ (clAt k i).resume ∧ natB k (clAt k i).pause = true ∧ natB k (clAt k i).resume = true)) ∧
    ((clAt k i).unit = -1 ∧ (clAt k i).value = (0, 1) ∧ (clAt k i).to = -1 ∨ (clAt k i).unit ≠ -1 ∧ ((clAt k i).kind = 1 ∨ (clAt k i).kind = 2) ∧ (0 ≤ (clAt k i).unit ∧ (clAt k i).unit < k.units.length) ∧ (k.units.getD (clAt k i).unit.toNat default).kind = 2 ∧ posB (clAt k i).value = true ∧ movB k (clAt k i).to = true) := by
  have := h.cl i hi
  generalize clAt k i = x at *
  unfold clauseB at this
  split at this
  · cases this
  · rename_i h1
    simp only [Bool.or_eq_true, decide_eq_true_eq, not_or] at h1
    split at this
    · cases this
    · rename_i h2
      simp only [Bool.or_eq_true, Bool.not_eq_true', decide_eq_true_eq, not_or, Bool.not_eq_false] at h2
      split at this
      · cases this
      · rename_i h3
        have h3 : ∀ s ∈ x.start, condB k i s = true := List.all_eq_true.1 (by simpa using h3)
        split at this
        · cases this
        · rename_i h4
          refine ⟨by omega, by omega, h2.1, by omega, h3, ?_, ?_⟩
          · by_cases h5 : x.pause ≠ -1 ∨ x.resume ≠ -1
            · right
              simp only [h5, true_and, Bool.or_eq_true, beq_iff_eq, Bool.not_eq_true', not_or, Bool.not_eq_false] at h4
              exact ⟨h4.1.1, h4.1.2, h4.2⟩
            · left; omega
          · split at this
            · rename_i h6
              simp only [Bool.and_eq_true, beq_iff_eq] at this
              exact .inl ⟨h6, Prod.ext this.1.1 this.1.2, this.2⟩
            · rename_i h6
              simp only [Bool.and_eq_true, Bool.or_eq_true, beq_iff_eq, decide_eq_true_eq] at this
              exact .inr ⟨h6, this.1.1.1.1.1, ⟨this.1.1.1.1.2, this.1.1.1.2⟩, this.1.1.2, this.1.2, this.2⟩
theorem cond {i : Nat} (hi : i < k.clauses.length) {s : Cnd} (hs : s ∈ (clAt k i).start) : 0 ≤ s.clause ∧ s.clause < k.clauses.length ∧ s.clause ≠ i ∧ 1 ≤ s.is ∧ s.is ≤ 4 := by
  have := (h.clB hi).2.2.2.2.1 s hs
  simp only [condB, Bool.not_eq_true', Bool.or_eq_false_iff, decide_eq_false_iff_not, beq_eq_false_iff_ne, ne_eq] at this
  omega
end KFacts
end Go.Proofs.YtofdehlikigonaaGreat
end
