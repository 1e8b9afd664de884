import Derived.Test.YtlhmgphgnedlkaaGreatZz13
import Derived.Test.YtlhmgphgnedlkaaGreatZz12
set_option linter.unusedSimpArgs false
set_option linter.unusedVariables false
section
/- Contracts: package contract, framed. -/
namespace Go.Proofs.YtlhmgphgnedlkaaGreat
open Go.Eng
set_option maxRecDepth 10000
def offPrev (k : K) (i : Nat) : Int := if i = 0 then -1 else k.off.getD (i - 1) default
def offB (k : K) : Bool := (List.range k.off.length).all (fun i => decide (offPrev k i < k.off.getD i default) && decide (k.off.getD i default < k.days))
noncomputable def framedB (k : K) : Bool :=
  if k.parties < 1 ∨ k.days < 1 ∨ k.holders.length = 0 ∨ heldB k = false then false
  else if (validR (fun j => k.units.getD j default) k.units.length).2 = false then false
  else k.acts.all (actB k) && offB k
theorem framed_ok (k : K) (hk : kW k) : Does Tryz.prog 56 [kV k] (.c (.bool (framedB k))) := by
  refine Does.mk (fun _ => false) TT_ok Tryz.func56 rfl (by kernel_rfl) Tryz.ntmps56 rfl rfl fun E hT hE hN hR => ?_
  have hm := mixO hE
  (repeat (first | refine XK.n ?_ | refine XK.a ?_ | refine XK.b ?_)); refine XK.region ?_; refine XL.g ?_
  refine XL.callGA hE rfl rfl rfl rfl rfl rfl rfl rfl (held_ok k hk) rfl ?_
  refine XL.g ?_; refine XL.fin ?_; (repeat (first | refine XK.n ?_ | refine XK.a ?_ | refine XK.b ?_))
  (repeat (first | refine XK.n ?_ | refine XK.a ?_ | refine XK.b ?_)); refine XK.cond rfl (fun h1 => ?_) (fun h1 => ?_)
  · (repeat (first | refine XK.n ?_ | refine XK.a ?_ | refine XK.b ?_))
    (first | refine XK.out rfl rfl rfl ?_ | refine XK.outN rfl rfl rfl ?_)
    have : k.parties < 1 ∨ k.days < 1 ∨ k.holders.length = 0 ∨ heldB k = false := by
      simp only [Bool.or_eq_true, decide_eq_true_eq, beq_iff_eq, Bool.not_eq_true'] at h1
      rcases h1 with ((h | h) | h) | h
      · exact .inl h
      · exact .inr (.inl h)
      · exact .inr (.inr (.inl (by omega)))
      · exact .inr (.inr (.inr h))
    simp only [framedB, if_pos this]
  · have h1' : ¬ (k.parties < 1 ∨ k.days < 1 ∨ k.holders.length = 0 ∨ heldB k = false) := by
      intro h
      rcases h with h | h | h | h <;> simp [h] at h1
    (repeat (first | refine XK.n ?_ | refine XK.a ?_ | refine XK.b ?_)); refine XK.region ?_; refine XL.g ?_
    refine XL.callLA hE rfl rfl rfl rfl trivial rfl (qvalid_ok k.units.length (fun j => k.units.getD j default) (all_getD hk.2.2.1)) rfl ?_
    refine XL.g ?_; refine XL.fin ?_; (repeat (first | refine XK.n ?_ | refine XK.a ?_ | refine XK.b ?_))
    (repeat (first | refine XK.n ?_ | refine XK.a ?_ | refine XK.b ?_)); refine XK.cond rfl (fun h2 => ?_) (fun h2 => ?_)
    · (repeat (first | refine XK.n ?_ | refine XK.a ?_ | refine XK.b ?_))
      (first | refine XK.out rfl rfl rfl ?_ | refine XK.outN rfl rfl rfl ?_)
      have : (validR (fun j => k.units.getD j default) k.units.length).2 = false := by simpa using h2
      simp only [framedB, if_neg h1', if_pos this]
    · have h2' : ¬ (validR (fun j => k.units.getD j default) k.units.length).2 = false := by
        simpa using h2
      (repeat (first | refine XK.n ?_ | refine XK.a ?_ | refine XK.b ?_))
      refine XK.fact (Sat.rs_len (j := 38) rfl) fun hlen => ?_
      have hm' := hlen.1
      refine XK.loop (ι := Nat) (fun i => ST.of [(1, .ptr 1 0), (38, actsV k.acts), (39, .c (.int .i64 k.acts.length)), (40, .c (.int .i64 i))] [(1, .cells 27 (kC k))] 1000 67 (fun _ => false))
        (fun i => i ≤ k.acts.length ∧ ∀ j, j < i → actB k (k.acts.getD j default) = true) (fun i => k.acts.length - i) 0 ⟨Nat.zero_le _, fun j hj => absurd hj (Nat.not_lt_zero _)⟩
        (Weak.of hN rfl rfl rfl ⟨rfl, AvIs.refl _, rfl, rfl⟩ ⟨rfl, rfl⟩) fun i hi => ?_
      obtain ⟨hi1, hi2⟩ := hi
      (repeat (first | refine XK.n ?_ | refine XK.a ?_ | refine XK.b ?_)); refine XK.cond rfl (fun hlt => ?_) (fun hlt => ?_) <;> (try simp at hlt)
      · (repeat (first | refine XK.n ?_ | refine XK.a ?_ | refine XK.b ?_)); refine XK.region ?_; refine XL.g ?_
        refine XL.callLA hE rfl rfl rfl rfl trivial rfl (validAct_ok k (k.acts.getD i default) (all_getD hk.2.2.2.1 i hlt)) rfl ?_
        refine XL.g ?_; refine XL.fin ?_; (repeat (first | refine XK.n ?_ | refine XK.a ?_ | refine XK.b ?_))
        (repeat (first | refine XK.n ?_ | refine XK.a ?_ | refine XK.b ?_)); refine XK.cond rfl (fun ha => ?_) (fun ha => ?_)
        · (repeat (first | refine XK.n ?_ | refine XK.a ?_ | refine XK.b ?_))
          (first | refine XK.out rfl rfl rfl ?_ | refine XK.outN rfl rfl rfl ?_)
          have : k.acts.all (actB k) = false := all_not hlt (by simpa using ha)
          simp only [framedB, if_neg h1', if_neg h2', this, Bool.false_and]
        · (repeat (first | refine XK.n ?_ | refine XK.a ?_ | refine XK.b ?_))
          refine XK.inv ⟨i + 1, ⟨hlt, fun j hj => ?_⟩, Weak.of hN rfl rfl rfl ⟨rfl, AvIs.refl _, rfl, rfl⟩ ⟨rfl, rfl⟩, by omega⟩
          by_cases h : j = i
          · subst h; simpa using ha
          · exact hi2 j (by omega)
      · have hacts : k.acts.all (actB k) = true := all_at.2 fun j hj => hi2 j (by omega)
        (repeat (first | refine XK.n ?_ | refine XK.a ?_ | refine XK.b ?_))
        refine XK.fact (Sat.rs_len (j := 50) rfl) fun hlen => ?_
        have hm'' := hlen.1
        refine XK.loop (ι := Nat) (fun i => ST.of [(1, .ptr 1 0), (7, .c (.int .i64 (offPrev k i))), (50, intsV k.off), (51, .c (.int .i64 k.off.length)), (52, .c (.int .i64 i))] [(1, .cells 27 (kC k))] 1000 67 (fun _ => false))
          (fun i => i ≤ k.off.length ∧ ∀ j, j < i → (decide (offPrev k j < k.off.getD j default) && decide (k.off.getD j default < k.days)) = true) (fun i => k.off.length - i) 0 ⟨Nat.zero_le _, fun j hj => absurd hj (Nat.not_lt_zero _)⟩
          (Weak.of hN rfl rfl rfl ⟨rfl, rfl, AvIs.refl _, rfl, rfl⟩ ⟨rfl, rfl⟩) fun i hi => ?_
        obtain ⟨hi1, hi2⟩ := hi
        (repeat (first | refine XK.n ?_ | refine XK.a ?_ | refine XK.b ?_)); refine XK.cond rfl (fun hlt => ?_) (fun hlt => ?_) <;> (try simp at hlt)
        · (repeat (first | refine XK.n ?_ | refine XK.a ?_ | refine XK.b ?_)); refine XK.cond rfl (fun ho => ?_) (fun ho => ?_)
          · (repeat (first | refine XK.n ?_ | refine XK.a ?_ | refine XK.b ?_))
            (first | refine XK.out rfl rfl rfl ?_ | refine XK.outN rfl rfl rfl ?_)
            have : offB k = false := by
              unfold offB
              rw [List.all_eq_false]
              refine ⟨i, by simpa using hlt, ?_⟩
              simp only [Bool.or_eq_true, decide_eq_true_eq, Int.toNat_natCast] at ho
              simp only [Bool.and_eq_true, decide_eq_true_eq, not_and]
              omega
            simp only [framedB, if_neg h1', if_neg h2', this, Bool.and_false]
          · (repeat (first | refine XK.n ?_ | refine XK.a ?_ | refine XK.b ?_))
            refine XK.inv ⟨i + 1, ⟨hlt, fun j hj => ?_⟩, Weak.of hN rfl rfl rfl ⟨rfl, rfl, AvIs.refl _, rfl, rfl⟩ ⟨rfl, rfl⟩, by omega⟩
            by_cases h : j = i
            · subst h
              simp only [Bool.or_eq_false_iff, decide_eq_false_iff_not, Int.toNat_natCast] at ho
              simp only [Bool.and_eq_true, decide_eq_true_eq]
              omega
            · exact hi2 j (by omega)
        · (repeat (first | refine XK.n ?_ | refine XK.a ?_ | refine XK.b ?_))
          (first | refine XK.out rfl rfl rfl ?_ | refine XK.outN rfl rfl rfl ?_)
          have : offB k = true := by
            simp only [offB, List.all_eq_true, List.mem_range]
            exact fun j hj => hi2 j (by omega)
          simp only [framedB, if_neg h1', if_neg h2', hacts, this, Bool.and_self]
end Go.Proofs.YtlhmgphgnedlkaaGreat
end
section
/- Contracts: package contract, validClause. -/
namespace Go.Proofs.YtlhmgphgnedlkaaGreat
open Go.Eng
set_option maxRecDepth 10000
def condB (k : K) (i : Int) (s : Cnd) : Bool := !(decide (s.clause < 0) || decide ((k.clauses.length : Int) ≤ s.clause) || s.clause == i || decide (s.is < 1) || decide (4 < s.is))
def clauseB (k : K) (i : Int) (x : Cl) : Bool :=
  if (decide (x.act < 0) || decide ((k.acts.length : Int) ≤ x.act) || decide (x.after < 1) || decide (400 < x.after)) = true then false
  else if (!kindB k x || decide ((8 : Int) < x.start.length)) = true then false
  else if x.start.all (condB k i) = false then false
  else if (x.pause ≠ -1 ∨ x.resume ≠ -1) ∧ (x.pause == x.resume || !natB k x.pause || !natB k x.resume) = true then false
  else if x.unit = -1 then (x.value.1 == 0 && x.value.2 == 1) && x.to == -1
  else (x.kind == 1 || x.kind == 2) && decide (0 ≤ x.unit) && decide (x.unit < k.units.length) && (k.units.getD x.unit.toNat default).kind == 2 && posB x.value && movB k x.to
theorem validClause_ok (k : K) (hk : kW k) (i : Nat) (hi : i < k.clauses.length) : Does Tryz.prog 57 [kV k, .c (.int .i64 i)] (.c (.bool (clauseB k i (k.clauses.getD i default)))) := by
  refine Does.mk (fun _ => false) TT_ok Tryz.func57 rfl (by kernel_rfl) Tryz.ntmps57 rfl rfl fun E hT hE hN hR => ?_
  have hm := mixO hE
  have hx := all_getD hk.2.2.2.2.1 i hi
  (repeat (first | refine XK.n ?_ | refine XK.a ?_ | refine XK.b ?_))
  refine XK.weak (Weak.of (L := [(1, .c (.int .i64 i)), (2, .ptr 2 0), (4, .c (.bool false)), (5, .ptr 165 0), (33, .c (.bool (decide ((k.clauses.getD i default).act < 0) || decide ((k.acts.length : Int) ≤ (k.clauses.getD i default).act) || decide ((k.clauses.getD i default).after < 1) || decide (400 < (k.clauses.getD i default).after))))]) (O := [(2, .cells 27 (kC k)), (165, .cells 48 (clC (k.clauses.getD i default)))]) (nx := 1000) (nt := 160) (md := fun _ => false) hN rfl rfl rfl ⟨rfl, rfl, rfl, rfl, rfl⟩ ⟨⟨rfl, rfl⟩, rfl, rfl⟩) ?_
  generalize k.clauses.getD i default = x at *
  (repeat (first | refine XK.n ?_ | refine XK.a ?_ | refine XK.b ?_)); refine XK.cond rfl (fun h1 => ?_) (fun h1 => ?_)
  · (repeat (first | refine XK.n ?_ | refine XK.a ?_ | refine XK.b ?_))
    (first | refine XK.out rfl rfl rfl ?_ | refine XK.outN rfl rfl rfl ?_)
    simp only [clauseB, if_pos h1]
  · rw [clauseB, if_neg (by rw [h1]; simp)]
    (repeat (first | refine XK.n ?_ | refine XK.a ?_ | refine XK.b ?_)); refine XK.region ?_; refine XL.g ?_
    refine XL.callLA hE rfl rfl rfl rfl trivial rfl (validKind_ok k x) rfl ?_
    refine XL.g ?_; refine XL.fin ?_; (repeat (first | refine XK.n ?_ | refine XK.a ?_ | refine XK.b ?_))
    (repeat (first | refine XK.n ?_ | refine XK.a ?_ | refine XK.b ?_)); refine XK.cond rfl (fun h2 => ?_) (fun h2 => ?_)
    · (repeat (first | refine XK.n ?_ | refine XK.a ?_ | refine XK.b ?_))
      (first | refine XK.out rfl rfl rfl ?_ | refine XK.outN rfl rfl rfl ?_)
      simp only [if_pos h2]
    · rw [if_neg (by rw [h2]; simp)]
      (repeat (first | refine XK.n ?_ | refine XK.a ?_ | refine XK.b ?_))
      refine XK.fact (Sat.rs_len (j := 45) rfl) fun hlen => ?_
      have hm' := hlen.1
      refine XK.loop (ι := Nat) (fun j => ST.of [(1, .c (.int .i64 i)), (2, .ptr 2 0), (4, .c (.bool false)), (5, .ptr 165 0), (45, cndsV x.start), (46, .c (.int .i64 x.start.length)), (47, .c (.int .i64 j))] [(2, .cells 27 (kC k)), (165, .cells 48 (clC x))] 3000 160 (fun _ => false))
        (fun j => j ≤ x.start.length ∧ ∀ q, q < j → condB k i (x.start.getD q default) = true) (fun j => x.start.length - j) 0 ⟨Nat.zero_le _, fun j hj => absurd hj (Nat.not_lt_zero _)⟩
        (Weak.of hN rfl rfl rfl ⟨rfl, rfl, rfl, rfl, AvIs.refl _, rfl, rfl⟩ ⟨⟨rfl, rfl⟩, rfl, rfl⟩) fun j hj => ?_
      obtain ⟨hj1, hj2⟩ := hj
      (repeat (first | refine XK.n ?_ | refine XK.a ?_ | refine XK.b ?_)); refine XK.cond rfl (fun hlt => ?_) (fun hlt => ?_) <;> (try simp at hlt)
      · (repeat (first | refine XK.n ?_ | refine XK.a ?_ | refine XK.b ?_)); refine XK.cond rfl (fun hb => ?_) (fun hb => ?_)
        · (repeat (first | refine XK.n ?_ | refine XK.a ?_ | refine XK.b ?_))
          (first | refine XK.out rfl rfl rfl ?_ | refine XK.outN rfl rfl rfl ?_)
          have : x.start.all (condB k i) = false := all_not hlt (by rw [condB, Bool.not_eq_false']; exact hb)
          rw [if_pos this]
        · (repeat (first | refine XK.n ?_ | refine XK.a ?_ | refine XK.b ?_))
          refine XK.inv ⟨j + 1, ⟨hlt, fun q hq => ?_⟩, Weak.of hN rfl rfl rfl ⟨rfl, rfl, rfl, rfl, AvIs.refl _, rfl, rfl⟩ ⟨⟨rfl, rfl⟩, rfl, rfl⟩, by omega⟩
          by_cases h : q = j
          · subst h
            rw [condB, Bool.not_eq_true']
            exact hb
          · exact hj2 q (by omega)
      · have hall : x.start.all (condB k i) = true := all_at.2 fun q hq => hj2 q (by omega)
        rw [if_neg (by rw [hall]; simp)]
        (repeat (first | refine XK.n ?_ | refine XK.a ?_ | refine XK.b ?_)); refine XK.cond rfl (fun hp => ?_) (fun hp => ?_) <;> (try simp at hp)
        · (repeat (first | refine XK.n ?_ | refine XK.a ?_ | refine XK.b ?_)); refine XK.region ?_; refine XL.g ?_
          refine XL.callGA hE rfl rfl rfl rfl rfl rfl rfl rfl (natural_ok k x.pause) rfl ?_
          refine XL.g ?_
          refine XL.callGA hE rfl rfl rfl rfl rfl rfl rfl rfl (natural_ok k x.resume) rfl ?_
          refine XL.g ?_; refine XL.fin ?_; (repeat (first | refine XK.n ?_ | refine XK.a ?_ | refine XK.b ?_))
          (repeat (first | refine XK.n ?_ | refine XK.a ?_ | refine XK.b ?_)); refine XK.cond rfl (fun hq => ?_) (fun hq => ?_)
          · (repeat (first | refine XK.n ?_ | refine XK.a ?_ | refine XK.b ?_))
            (first | refine XK.out rfl rfl rfl ?_ | refine XK.outN rfl rfl rfl ?_)
            rw [if_pos ⟨by simpa using hp, hq⟩]
          · rw [if_neg (by rw [hq]; simp)]
            (repeat (first | refine XK.n ?_ | refine XK.a ?_ | refine XK.b ?_)); refine XK.cond rfl (fun hu => ?_) (fun hu => ?_) <;> (try simp at hu)
            · (repeat (first | refine XK.n ?_ | refine XK.a ?_ | refine XK.b ?_)); refine XK.drawn hm ?_; refine XD.goA hT rfl rfl rfl rfl ?_
              refine XD.callLA hE rfl rfl rfl rfl trivial rfl (none_ok) rfl ?_
              refine XD.goA hT rfl rfl rfl rfl ?_; refine XD.fin (by kernel_rfl) ?_; (repeat (first | refine XK.n ?_ | refine XK.a ?_ | refine XK.b ?_))
              rw [if_pos hu]
              (repeat (first | refine XK.n ?_ | refine XK.a ?_ | refine XK.b ?_))
              (first | refine XK.out rfl rfl rfl ?_ | refine XK.outN rfl rfl rfl ?_)
              rfl
            · rw [if_neg hu]
              (repeat (first | refine XK.n ?_ | refine XK.a ?_ | refine XK.b ?_)); refine XK.region ?_; refine XL.g ?_
              refine XL.callGA hE rfl rfl rfl rfl rfl rfl rfl rfl (positive_ok x.value hx.2.2.2.2.2.2.2.2.2.1) rfl ?_
              refine XL.g ?_
              refine XL.callGA hE rfl rfl rfl rfl rfl rfl rfl rfl (movable_ok k x.to) rfl ?_
              refine XL.g ?_; refine XL.fin ?_; (repeat (first | refine XK.n ?_ | refine XK.a ?_ | refine XK.b ?_))
              (repeat (first | refine XK.n ?_ | refine XK.a ?_ | refine XK.b ?_))
              (first | refine XK.out rfl rfl rfl ?_ | refine XK.outN rfl rfl rfl ?_)
              rfl
        · rw [if_neg (by simp [hp])]
          (repeat (first | refine XK.n ?_ | refine XK.a ?_ | refine XK.b ?_)); refine XK.cond rfl (fun hu => ?_) (fun hu => ?_) <;> (try simp at hu)
          · (repeat (first | refine XK.n ?_ | refine XK.a ?_ | refine XK.b ?_)); refine XK.drawn hm ?_; refine XD.goA hT rfl rfl rfl rfl ?_
            refine XD.callLA hE rfl rfl rfl rfl trivial rfl (none_ok) rfl ?_
            refine XD.goA hT rfl rfl rfl rfl ?_; refine XD.fin (by kernel_rfl) ?_; (repeat (first | refine XK.n ?_ | refine XK.a ?_ | refine XK.b ?_))
            rw [if_pos hu]
            (repeat (first | refine XK.n ?_ | refine XK.a ?_ | refine XK.b ?_))
            (first | refine XK.out rfl rfl rfl ?_ | refine XK.outN rfl rfl rfl ?_)
            rfl
          · rw [if_neg hu]
            (repeat (first | refine XK.n ?_ | refine XK.a ?_ | refine XK.b ?_)); refine XK.region ?_; refine XL.g ?_
            refine XL.callGA hE rfl rfl rfl rfl rfl rfl rfl rfl (positive_ok x.value hx.2.2.2.2.2.2.2.2.2.1) rfl ?_
            refine XL.g ?_
            refine XL.callGA hE rfl rfl rfl rfl rfl rfl rfl rfl (movable_ok k x.to) rfl ?_
            refine XL.g ?_; refine XL.fin ?_; (repeat (first | refine XK.n ?_ | refine XK.a ?_ | refine XK.b ?_))
            (repeat (first | refine XK.n ?_ | refine XK.a ?_ | refine XK.b ?_))
            (first | refine XK.out rfl rfl rfl ?_ | refine XK.outN rfl rfl rfl ?_)
            rfl
end Go.Proofs.YtlhmgphgnedlkaaGreat
end
section
/- Contracts: package contract, Valid. -/
namespace Go.Proofs.YtlhmgphgnedlkaaGreat
open Go.Eng
set_option maxRecDepth 10000
def badCl (k : K) : Option Nat := (List.range k.clauses.length).find? (fun i => !clauseB k i (k.clauses.getD i default))
noncomputable def kValid (k : K) : Int × Int :=
  if (decide (12 < k.parties) || decide (2000 < k.days) || decide ((12 : Int) < k.holders.length) || decide ((20 : Int) < k.units.length) || decide ((60 : Int) < k.acts.length) || decide ((400 : Int) < k.clauses.length)) = true then (3, -1)
  else if framedB k = false then (1, -1)
  else match badCl k with
    | some i => (1, (i : Int))
    | none => (0, -1)
theorem find_range {p : Nat → Bool} {n i : Nat} (hi : i < n) (h : p i = true) (hl : ∀ j, j < i → p j = false) : (List.range n).find? p = some i := by
  rw [List.find?_range_eq_some]
  exact ⟨h, by simpa using hi, fun j hj => by simpa using hl j hj⟩
theorem kValid_ok (k : K) (hk : kW k) : Does Tryz.prog 24 [kV k] (.tup [.c (.int .i64 (kValid k).1), .c (.int .i64 (kValid k).2)]) := by
  refine Does.mk (fun _ => false) TT_ok Tryz.func24 rfl (by kernel_rfl) Tryz.ntmps24 rfl rfl fun E hT hE hN hR => ?_
  have hm := mixO hE
  (repeat (first | refine XK.n ?_ | refine XK.a ?_ | refine XK.b ?_)); refine XK.cond rfl (fun h1 => ?_) (fun h1 => ?_)
  · (repeat (first | refine XK.n ?_ | refine XK.a ?_ | refine XK.b ?_))
    (first | refine XK.out rfl rfl rfl ?_ | refine XK.outN rfl rfl rfl ?_)
    simp only [kValid, if_pos h1]
  · rw [kValid, if_neg (by rw [h1]; simp)]
    (repeat (first | refine XK.n ?_ | refine XK.a ?_ | refine XK.b ?_)); refine XK.region ?_; refine XL.g ?_
    refine XL.callLA hE rfl rfl rfl rfl trivial rfl (framed_ok k hk) rfl ?_
    refine XL.g ?_; refine XL.fin ?_; (repeat (first | refine XK.n ?_ | refine XK.a ?_ | refine XK.b ?_))
    (repeat (first | refine XK.n ?_ | refine XK.a ?_ | refine XK.b ?_)); refine XK.cond rfl (fun h2 => ?_) (fun h2 => ?_) <;> (try simp at h2)
    · (repeat (first | refine XK.n ?_ | refine XK.a ?_ | refine XK.b ?_))
      (first | refine XK.out rfl rfl rfl ?_ | refine XK.outN rfl rfl rfl ?_)
      simp only [if_pos h2]
    · rw [if_neg (by rw [h2]; simp)]
      (repeat (first | refine XK.n ?_ | refine XK.a ?_ | refine XK.b ?_))
      refine XK.loop (ι := Nat) (fun j => ST.of [(1, .ptr 1 0), (42, .c (.int .i64 k.clauses.length)), (43, .c (.int .i64 j))] [(1, .cells 27 (kC k))] 3000 52 (fun _ => false))
        (fun j => j ≤ k.clauses.length ∧ ∀ q, q < j → clauseB k q (k.clauses.getD q default) = true) (fun j => k.clauses.length - j) 0 ⟨Nat.zero_le _, fun j hj => absurd hj (Nat.not_lt_zero _)⟩
        (Weak.of hN rfl rfl rfl ⟨rfl, rfl, rfl⟩ ⟨rfl, rfl⟩) fun j hj => ?_
      obtain ⟨hj1, hj2⟩ := hj
      (repeat (first | refine XK.n ?_ | refine XK.a ?_ | refine XK.b ?_)); refine XK.cond rfl (fun hlt => ?_) (fun hlt => ?_) <;> (try simp at hlt)
      · (repeat (first | refine XK.n ?_ | refine XK.a ?_ | refine XK.b ?_)); refine XK.region ?_; refine XL.g ?_
        refine XL.callLA hE rfl rfl rfl rfl trivial rfl (validClause_ok k hk j hlt) rfl ?_
        refine XL.g ?_; refine XL.fin ?_; (repeat (first | refine XK.n ?_ | refine XK.a ?_ | refine XK.b ?_))
        (repeat (first | refine XK.n ?_ | refine XK.a ?_ | refine XK.b ?_)); refine XK.cond rfl (fun hb => ?_) (fun hb => ?_)
        · (repeat (first | refine XK.n ?_ | refine XK.a ?_ | refine XK.b ?_))
          (first | refine XK.out rfl rfl rfl ?_ | refine XK.outN rfl rfl rfl ?_)
          have : badCl k = some j := find_range hlt hb fun q hq => by rw [hj2 q hq]; rfl
          rw [this]
        · (repeat (first | refine XK.n ?_ | refine XK.a ?_ | refine XK.b ?_))
          refine XK.inv ⟨j + 1, ⟨hlt, fun q hq => ?_⟩, Weak.of hN rfl rfl rfl ⟨rfl, rfl, rfl⟩ ⟨rfl, rfl⟩, by omega⟩
          by_cases h : q = j
          · subst h; simpa using hb
          · exact hj2 q (by omega)
      · (repeat (first | refine XK.n ?_ | refine XK.a ?_ | refine XK.b ?_))
        (first | refine XK.out rfl rfl rfl ?_ | refine XK.outN rfl rfl rfl ?_)
        have : badCl k = none := by
          unfold badCl
          rw [List.find?_eq_none]
          intro q hq
          rw [List.mem_range] at hq
          simp only [Bool.not_eq_true', Bool.not_eq_false]
          exact hj2 q (by omega)
        rw [this]
end Go.Proofs.YtlhmgphgnedlkaaGreat
end
section
/- Patches and amendments as values of Lean types, and what patch.Apply and package version compute. -/
namespace Go.Proofs.YtlhmgphgnedlkaaGreat
open Go.Eng
set_option maxRecDepth 10000
structure Pt where
  kind : Int
  clauses : List Int
  new : Cl
  days : Int
structure Am where
  number : Int
  day : Int
  known : Int
  patch : Pt
instance : Inhabited Pt := ⟨⟨0, [], default, 0⟩⟩
instance : Inhabited Am := ⟨⟨0, 0, 0, default⟩⟩
def ptC (p : Pt) : List AV := [.c (.int .i64 p.kind), intsV p.clauses, .c (.int .i64 p.new.kind), .c (.int .i64 p.new.role), .c (.int .i64 p.new.act), .c (.int .i64 p.new.need), cndsV p.new.start, .c (.int .i64 p.new.after), .c (.int .i64 p.new.grace), .c (.bool p.new.business), .c (.bool p.new.final), .c (.int .i64 p.new.pause), .c (.int .i64 p.new.resume), .c (.int .i64 p.new.value.1), .c (.int .i64 p.new.value.2), .c (.int .i64 p.new.unit), .c (.int .i64 p.new.to), .c (.bool p.new.waived), .c (.int .i64 p.days)]
def ptV (p : Pt) : AV := .agg [.c (.int .i64 p.kind), intsV p.clauses, .c (.int .i64 p.new.kind), .c (.int .i64 p.new.role), .c (.int .i64 p.new.act), .c (.int .i64 p.new.need), cndsV p.new.start, .c (.int .i64 p.new.after), .c (.int .i64 p.new.grace), .c (.bool p.new.business), .c (.bool p.new.final), .c (.int .i64 p.new.pause), .c (.int .i64 p.new.resume), .c (.int .i64 p.new.value.1), .c (.int .i64 p.new.value.2), .c (.int .i64 p.new.unit), .c (.int .i64 p.new.to), .c (.bool p.new.waived), .c (.int .i64 p.days)]
def amC (a : Am) : List AV := [.c (.int .i64 a.number), .c (.int .i64 a.day), .c (.int .i64 a.known), .c (.int .i64 a.patch.kind), intsV a.patch.clauses, .c (.int .i64 a.patch.new.kind), .c (.int .i64 a.patch.new.role), .c (.int .i64 a.patch.new.act), .c (.int .i64 a.patch.new.need), cndsV a.patch.new.start, .c (.int .i64 a.patch.new.after), .c (.int .i64 a.patch.new.grace), .c (.bool a.patch.new.business), .c (.bool a.patch.new.final), .c (.int .i64 a.patch.new.pause), .c (.int .i64 a.patch.new.resume), .c (.int .i64 a.patch.new.value.1), .c (.int .i64 a.patch.new.value.2), .c (.int .i64 a.patch.new.unit), .c (.int .i64 a.patch.new.to), .c (.bool a.patch.new.waived), .c (.int .i64 a.patch.days)]
def amV (a : Am) : AV := .agg [.c (.int .i64 a.number), .c (.int .i64 a.day), .c (.int .i64 a.known), .c (.int .i64 a.patch.kind), intsV a.patch.clauses, .c (.int .i64 a.patch.new.kind), .c (.int .i64 a.patch.new.role), .c (.int .i64 a.patch.new.act), .c (.int .i64 a.patch.new.need), cndsV a.patch.new.start, .c (.int .i64 a.patch.new.after), .c (.int .i64 a.patch.new.grace), .c (.bool a.patch.new.business), .c (.bool a.patch.new.final), .c (.int .i64 a.patch.new.pause), .c (.int .i64 a.patch.new.resume), .c (.int .i64 a.patch.new.value.1), .c (.int .i64 a.patch.new.value.2), .c (.int .i64 a.patch.new.unit), .c (.int .i64 a.patch.new.to), .c (.bool a.patch.new.waived), .c (.int .i64 a.patch.days)]
def clV (k : Cl) : AV := .agg [.c (.int .i64 k.kind), .c (.int .i64 k.role), .c (.int .i64 k.act), .c (.int .i64 k.need), cndsV k.start, .c (.int .i64 k.after), .c (.int .i64 k.grace), .c (.bool k.business), .c (.bool k.final), .c (.int .i64 k.pause), .c (.int .i64 k.resume), .c (.int .i64 k.value.1), .c (.int .i64 k.value.2), .c (.int .i64 k.unit), .c (.int .i64 k.to), .c (.bool k.waived)]
def amsV (l : List Am) : AV := rowL amC 22 l
def ptW (p : Pt) : Prop := inK .i64 p.kind ∧ (∀ z ∈ p.clauses, inK .i64 z) ∧ clW p.new ∧ inK .i64 p.days
def amW (a : Am) : Prop := inK .i64 a.number ∧ inK .i64 a.day ∧ inK .i64 a.known ∧ ptW a.patch
noncomputable def cPt : Codec Tryz.prog 50 Pt := (Codec.struct ty50_k rfl (.cons cInt (.cons cInts (.cons cCl (.cons cInt (.nil _ _))))) (by kernel_rfl)).map (fun x => ⟨x.1, x.2.1, x.2.2.1, x.2.2.2.1⟩) ptC ptW (fun _ => rfl) (fun _ => rfl) (fun _ h => ⟨h.1, h.2.1, h.2.2.1, h.2.2.2.1⟩)
def zeroK : K := ⟨0, [], [], [], [], 0, []⟩
def incB (n : Int) : Int → List Int → Bool
  | _, [] => true
  | last, i :: l => decide (last < i) && decide (i < n) && incB n i l
def zeroCl (k : Cl) : Bool := (k.start.length : Int) == 0 && k.kind == 0 && k.role == 0 && k.act == 0 && k.need == 0 && k.after == 0 && k.grace == 0 && !k.business && !k.final && k.pause == 0 && k.resume == 0 && (k.value.1 == 0 && k.value.2 == 0) && k.unit == 0 && k.to == 0 && !k.waived
structure Ef where
  least : Int
  most : Int
  renewed : Bool
  spanned : Bool
def efOf (kind : Int) : Option Ef :=
  if kind = 1 then some ⟨0, 0, true, false⟩ else if kind = 2 then some ⟨1, 1, true, false⟩ else if kind = 3 then some ⟨1, 1, false, false⟩
  else if kind = 4 then some ⟨1, 400, false, false⟩ else if kind = 5 then some ⟨1, 400, false, true⟩ else none
def fitsB (n : Int) (p : Pt) (e : Ef) : Bool :=
  decide (e.least ≤ (p.clauses.length : Int)) && decide ((p.clauses.length : Int) ≤ e.most) && incB n (-1) p.clauses && (e.renewed || zeroCl p.new) && (if e.spanned then decide (1 ≤ p.days) && decide (p.days ≤ 400) else p.days == 0)
def waiveL (cs : List Cl) (l : List Int) : List Cl := l.foldl (fun cs i => cs.set i.toNat { cs.getD i.toNat default with waived := true }) cs
def spanL (d : Int) (cs : List Cl) (l : List Int) : List Cl := l.foldl (fun cs i => cs.set i.toNat { cs.getD i.toNat default with after := d }) cs
def doP (cs : List Cl) (p : Pt) : List Cl :=
  if p.kind = 1 then cs ++ [p.new] else if p.kind = 2 then cs.set (p.clauses.getD 0 default).toNat p.new else if p.kind = 5 then spanL p.days cs p.clauses else waiveL cs p.clauses
noncomputable def applyR (k : K) (p : Pt) : K × Int :=
  if (kValid k).1 ≠ 0 then (zeroK, 1)
  else match efOf p.kind with
    | none => (zeroK, 1)
    | some e =>
      if fitsB k.clauses.length p e = false then (zeroK, 1)
      else if p.kind = 1 ∧ k.clauses.length = 400 then (zeroK, 3)
      else if (kValid { k with clauses := doP k.clauses p }).1 ≠ 0 then (zeroK, 1)
      else ({ k with clauses := doP k.clauses p }, 0)
end Go.Proofs.YtlhmgphgnedlkaaGreat
end
section
/- Contracts: slices.Clone. -/
namespace Go.Proofs.YtlhmgphgnedlkaaGreat
open Go.Eng
set_option maxRecDepth 10000
theorem cln_ints (l : List Int) (hl : l.length ≤ 1000000) : Does Tryz.prog 37 [intsV l] (intsV l) := by
  refine Does.mk (fun d => Nat.beq d 5) TT_ok Tryz.func37 rfl (by kernel_rfl) Tryz.ntmps37 rfl rfl fun E hT hE hN hR => ?_
  have hm := mixO hE
  by_cases h0 : l.length = 0
  · obtain rfl : l = [] := List.length_eq_zero_iff.1 h0
    refine XK.rsNil 0 rfl fun A cap hc => ?_
    (repeat (first | refine XK.n ?_ | refine XK.a ?_ | refine XK.b ?_)); refine XK.cond rfl (fun h1 => ?_) (fun h1 => ?_)
    · (repeat (first | refine XK.n ?_ | refine XK.a ?_ | refine XK.b ?_))
      refine XK.weak (Weak.rsNil 2 1 (fun i => iC (([] : List Int).getD i default)) (Nat.zero_le _) rfl) ?_
      (repeat (first | refine XK.n ?_ | refine XK.a ?_ | refine XK.b ?_))
      (first | refine XK.out rfl rfl rfl ?_ | refine XK.outN rfl rfl rfl ?_)
      rfl
    · refine XK.weak (Weak.rsNil 0 1 (fun i => iC (([] : List Int).getD i default)) hc rfl) ?_
      (repeat (first | refine XK.n ?_ | refine XK.a ?_ | refine XK.b ?_))
      refine XK.weak (Weak.frozen (k := 21) hN rfl rfl) ?_
      (repeat (first | refine XK.n ?_ | refine XK.a ?_ | refine XK.b ?_))
      (first | refine XK.outL rfl rfl rfl ?_ | refine XK.outLN rfl rfl rfl ?_)
      exact ⟨rfl, rfl, fun i hi => absurd hi (Nat.not_lt_zero _)⟩
  · (repeat (first | refine XK.n ?_ | refine XK.a ?_ | refine XK.b ?_)); refine XK.cond rfl (fun h1 => ?_) (fun h1 => ?_)
    · cases h1
    · (repeat (first | refine XK.n ?_ | refine XK.a ?_ | refine XK.b ?_))
      refine XK.weak (Weak.frozen (k := 21) hN rfl rfl) ?_
      (repeat (first | refine XK.n ?_ | refine XK.a ?_ | refine XK.b ?_))
      (first | refine XK.outL rfl rfl rfl ?_ | refine XK.outLN rfl rfl rfl ?_)
      exact ⟨rfl, Nat.zero_add _, fun i hi => by cases i <;> rfl⟩
theorem cln_units (l : List U) (hl : l.length ≤ 1000000) : Does Tryz.prog 38 [unitsV l] (unitsV l) := by
  refine Does.mk (fun d => Nat.beq d 5) TT_ok Tryz.func38 rfl (by kernel_rfl) Tryz.ntmps38 rfl rfl fun E hT hE hN hR => ?_
  have hm := mixO hE
  by_cases h0 : l.length = 0
  · obtain rfl : l = [] := List.length_eq_zero_iff.1 h0
    refine XK.rsNil 0 rfl fun A cap hc => ?_
    (repeat (first | refine XK.n ?_ | refine XK.a ?_ | refine XK.b ?_)); refine XK.cond rfl (fun h1 => ?_) (fun h1 => ?_)
    · (repeat (first | refine XK.n ?_ | refine XK.a ?_ | refine XK.b ?_))
      refine XK.weak (Weak.rsNil 2 5 (fun i => uc (([] : List U).getD i default)) (Nat.zero_le _) rfl) ?_
      (repeat (first | refine XK.n ?_ | refine XK.a ?_ | refine XK.b ?_))
      (first | refine XK.out rfl rfl rfl ?_ | refine XK.outN rfl rfl rfl ?_)
      rfl
    · refine XK.weak (Weak.rsNil 0 5 (fun i => uc (([] : List U).getD i default)) hc rfl) ?_
      (repeat (first | refine XK.n ?_ | refine XK.a ?_ | refine XK.b ?_))
      refine XK.weak (Weak.frozen (k := 21) hN rfl rfl) ?_
      (repeat (first | refine XK.n ?_ | refine XK.a ?_ | refine XK.b ?_))
      (first | refine XK.outL rfl rfl rfl ?_ | refine XK.outLN rfl rfl rfl ?_)
      exact ⟨rfl, rfl, fun i hi => absurd hi (Nat.not_lt_zero _)⟩
  · (repeat (first | refine XK.n ?_ | refine XK.a ?_ | refine XK.b ?_)); refine XK.cond rfl (fun h1 => ?_) (fun h1 => ?_)
    · cases h1
    · (repeat (first | refine XK.n ?_ | refine XK.a ?_ | refine XK.b ?_))
      refine XK.weak (Weak.frozen (k := 21) hN rfl rfl) ?_
      (repeat (first | refine XK.n ?_ | refine XK.a ?_ | refine XK.b ?_))
      (first | refine XK.outL rfl rfl rfl ?_ | refine XK.outLN rfl rfl rfl ?_)
      exact ⟨rfl, Nat.zero_add _, fun i hi => by cases i <;> rfl⟩
theorem cln_acts (l : List Act) (hl : l.length ≤ 1000000) : Does Tryz.prog 39 [actsV l] (actsV l) := by
  refine Does.mk (fun d => Nat.beq d 5) TT_ok Tryz.func39 rfl (by kernel_rfl) Tryz.ntmps39 rfl rfl fun E hT hE hN hR => ?_
  have hm := mixO hE
  by_cases h0 : l.length = 0
  · obtain rfl : l = [] := List.length_eq_zero_iff.1 h0
    refine XK.rsNil 0 rfl fun A cap hc => ?_
    (repeat (first | refine XK.n ?_ | refine XK.a ?_ | refine XK.b ?_)); refine XK.cond rfl (fun h1 => ?_) (fun h1 => ?_)
    · (repeat (first | refine XK.n ?_ | refine XK.a ?_ | refine XK.b ?_))
      refine XK.weak (Weak.rsNil 2 7 (fun i => actC (([] : List Act).getD i default)) (Nat.zero_le _) rfl) ?_
      (repeat (first | refine XK.n ?_ | refine XK.a ?_ | refine XK.b ?_))
      (first | refine XK.out rfl rfl rfl ?_ | refine XK.outN rfl rfl rfl ?_)
      rfl
    · refine XK.weak (Weak.rsNil 0 7 (fun i => actC (([] : List Act).getD i default)) hc rfl) ?_
      (repeat (first | refine XK.n ?_ | refine XK.a ?_ | refine XK.b ?_))
      refine XK.weak (Weak.frozen (k := 21) hN rfl rfl) ?_
      (repeat (first | refine XK.n ?_ | refine XK.a ?_ | refine XK.b ?_))
      (first | refine XK.outL rfl rfl rfl ?_ | refine XK.outLN rfl rfl rfl ?_)
      exact ⟨rfl, rfl, fun i hi => absurd hi (Nat.not_lt_zero _)⟩
  · (repeat (first | refine XK.n ?_ | refine XK.a ?_ | refine XK.b ?_)); refine XK.cond rfl (fun h1 => ?_) (fun h1 => ?_)
    · cases h1
    · (repeat (first | refine XK.n ?_ | refine XK.a ?_ | refine XK.b ?_))
      refine XK.weak (Weak.frozen (k := 21) hN rfl rfl) ?_
      (repeat (first | refine XK.n ?_ | refine XK.a ?_ | refine XK.b ?_))
      (first | refine XK.outL rfl rfl rfl ?_ | refine XK.outLN rfl rfl rfl ?_)
      exact ⟨rfl, Nat.zero_add _, fun i hi => by cases i <;> rfl⟩
theorem cln_cls (l : List Cl) (hl : l.length ≤ 1000000) : Does Tryz.prog 72 [clsV l] (clsV l) := by
  refine Does.mk (fun d => Nat.beq d 5) TT_ok Tryz.func72 rfl (by kernel_rfl) Tryz.ntmps72 rfl rfl fun E hT hE hN hR => ?_
  have hm := mixO hE
  by_cases h0 : l.length = 0
  · obtain rfl : l = [] := List.length_eq_zero_iff.1 h0
    refine XK.rsNil 0 rfl fun A cap hc => ?_
    (repeat (first | refine XK.n ?_ | refine XK.a ?_ | refine XK.b ?_)); refine XK.cond rfl (fun h1 => ?_) (fun h1 => ?_)
    · (repeat (first | refine XK.n ?_ | refine XK.a ?_ | refine XK.b ?_))
      refine XK.weak (Weak.rsNil 2 16 (fun i => clC (([] : List Cl).getD i default)) (Nat.zero_le _) rfl) ?_
      (repeat (first | refine XK.n ?_ | refine XK.a ?_ | refine XK.b ?_))
      (first | refine XK.out rfl rfl rfl ?_ | refine XK.outN rfl rfl rfl ?_)
      rfl
    · refine XK.weak (Weak.rsNil 0 16 (fun i => clC (([] : List Cl).getD i default)) hc rfl) ?_
      (repeat (first | refine XK.n ?_ | refine XK.a ?_ | refine XK.b ?_))
      refine XK.weak (Weak.frozen (k := 21) hN rfl rfl) ?_
      (repeat (first | refine XK.n ?_ | refine XK.a ?_ | refine XK.b ?_))
      (first | refine XK.outL rfl rfl rfl ?_ | refine XK.outLN rfl rfl rfl ?_)
      exact ⟨rfl, rfl, fun i hi => absurd hi (Nat.not_lt_zero _)⟩
  · (repeat (first | refine XK.n ?_ | refine XK.a ?_ | refine XK.b ?_)); refine XK.cond rfl (fun h1 => ?_) (fun h1 => ?_)
    · cases h1
    · (repeat (first | refine XK.n ?_ | refine XK.a ?_ | refine XK.b ?_))
      refine XK.weak (Weak.frozen (k := 21) hN rfl rfl) ?_
      (repeat (first | refine XK.n ?_ | refine XK.a ?_ | refine XK.b ?_))
      (first | refine XK.outL rfl rfl rfl ?_ | refine XK.outLN rfl rfl rfl ?_)
      exact ⟨rfl, Nat.zero_add _, fun i hi => by cases i <;> rfl⟩
theorem cln_cnds (l : List Cnd) (hl : l.length ≤ 1000000) : Does Tryz.prog 59 [cndsV l] (cndsV l) := by
  refine Does.mk (fun d => Nat.beq d 5) TT_ok Tryz.func59 rfl (by kernel_rfl) Tryz.ntmps59 rfl rfl fun E hT hE hN hR => ?_
  have hm := mixO hE
  by_cases h0 : l.length = 0
  · obtain rfl : l = [] := List.length_eq_zero_iff.1 h0
    refine XK.rsNil 0 rfl fun A cap hc => ?_
    (repeat (first | refine XK.n ?_ | refine XK.a ?_ | refine XK.b ?_)); refine XK.cond rfl (fun h1 => ?_) (fun h1 => ?_)
    · (repeat (first | refine XK.n ?_ | refine XK.a ?_ | refine XK.b ?_))
      refine XK.weak (Weak.rsNil 2 2 (fun i => cndC (([] : List Cnd).getD i default)) (Nat.zero_le _) rfl) ?_
      (repeat (first | refine XK.n ?_ | refine XK.a ?_ | refine XK.b ?_))
      (first | refine XK.out rfl rfl rfl ?_ | refine XK.outN rfl rfl rfl ?_)
      rfl
    · refine XK.weak (Weak.rsNil 0 2 (fun i => cndC (([] : List Cnd).getD i default)) hc rfl) ?_
      (repeat (first | refine XK.n ?_ | refine XK.a ?_ | refine XK.b ?_))
      refine XK.weak (Weak.frozen (k := 21) hN rfl rfl) ?_
      (repeat (first | refine XK.n ?_ | refine XK.a ?_ | refine XK.b ?_))
      (first | refine XK.outL rfl rfl rfl ?_ | refine XK.outLN rfl rfl rfl ?_)
      exact ⟨rfl, rfl, fun i hi => absurd hi (Nat.not_lt_zero _)⟩
  · (repeat (first | refine XK.n ?_ | refine XK.a ?_ | refine XK.b ?_)); refine XK.cond rfl (fun h1 => ?_) (fun h1 => ?_)
    · cases h1
    · (repeat (first | refine XK.n ?_ | refine XK.a ?_ | refine XK.b ?_))
      refine XK.weak (Weak.frozen (k := 21) hN rfl rfl) ?_
      (repeat (first | refine XK.n ?_ | refine XK.a ?_ | refine XK.b ?_))
      (first | refine XK.outL rfl rfl rfl ?_ | refine XK.outLN rfl rfl rfl ?_)
      exact ⟨rfl, Nat.zero_add _, fun i hi => by cases i <;> rfl⟩
theorem clnM_cls (l : List Cl) (h0 : 0 < l.length) (hl : l.length ≤ 1000000) : DoesM Tryz.prog 72 [clsV l] [] (.vec 0 0) [.vec 48 16 0 l.length (fun i => clC (l.getD i default))] := by
  refine DoesM.mk (fun d => Nat.beq d 5) 100 TT_ok Tryz.func72 rfl (by kernel_rfl) Tryz.ntmps72 rfl rfl rfl fun E hT hE hN hR => ?_
  have hm := mixO hE
  (repeat (first | refine XK.n ?_ | refine XK.a ?_ | refine XK.b ?_)); refine XK.cond rfl (fun h1 => ?_) (fun h1 => ?_)
  · cases h1
  · (repeat (first | refine XK.n ?_ | refine XK.a ?_ | refine XK.b ?_))
    refine XK.weak (Weak.trans (Weak.stamp (k := 121) (t := 0) hN rfl rfl) (Weak.of (L := [(2, .vec 121 0)]) (O := [(121, .vec 48 16 0 l.length (fun i => clC (l.getD i default)))]) (nx := 1000) (nt := 8) (md := fun _ => false) hN rfl rfl rfl frI ⟨⟨rfl, rfl, rfl⟩, Nat.zero_add _, fun j hj => by rcases j with _ | j <;> rfl⟩)) ?_
    (first | refine XK.outR [121] hN rfl rfl rfl ?_ rfl rfl ?_ | refine XK.outRN [121] hN rfl rfl rfl ?_ rfl rfl ?_)
    · (repeat' (first | exact rfl | exact AvIs.refl _ | exact trivial | exact fun _ _ => rfl | exact fun _ _ => ⟨rfl, AvIs.refl _⟩ | refine ⟨?_, ?_⟩))
    · (repeat' (first | exact rfl | exact AvIs.refl _ | exact trivial | exact fun _ _ => rfl | exact fun _ _ => ⟨rfl, AvIs.refl _⟩ | refine ⟨?_, ?_⟩))
end Go.Proofs.YtlhmgphgnedlkaaGreat
end
section
/- Contracts: package patch: copied, zero, fits. -/
namespace Go.Proofs.YtlhmgphgnedlkaaGreat
open Go.Eng
set_option maxRecDepth 10000
theorem clCopied_ok (k : Cl) (hs : k.start.length ≤ 1000000) : Does Tryz.prog 36 [clV k] (clV k) := by
  refine Does.mk (fun _ => false) TT_ok Tryz.func36 rfl (by kernel_rfl) Tryz.ntmps36 rfl rfl fun E hT hE hN hR => ?_
  have hm := mixO hE
  (repeat (first | refine XK.n ?_ | refine XK.a ?_ | refine XK.b ?_)); refine XK.region ?_; refine XL.g ?_
  refine XL.callKA hE rfl rfl rfl rfl trivial rfl rfl (cln_cnds k.start hs) ?_
  refine XL.g ?_; refine XL.fin ?_; (repeat (first | refine XK.n ?_ | refine XK.a ?_ | refine XK.b ?_))
  (first | refine XK.out rfl rfl rfl ?_ | refine XK.outN rfl rfl rfl ?_)
  rfl
theorem zeroCl_ok (k : Cl) : Does Tryz.prog 67 [clV k] (.c (.bool (zeroCl k))) := by
  refine Does.mk (fun _ => false) TT_ok Tryz.func67 rfl (by kernel_rfl) Tryz.ntmps67 rfl rfl fun E hT hE hN hR => ?_
  have hm := mixO hE
  (repeat (first | refine XK.n ?_ | refine XK.a ?_ | refine XK.b ?_))
  (first | refine XK.out rfl rfl rfl ?_ | refine XK.outN rfl rfl rfl ?_)
  rfl
def efV (e : Ef) (f : Nat) : AV := .agg [.c (.int .i64 e.least), .c (.int .i64 e.most), .c (.bool e.renewed), .c (.bool e.spanned), .fn (.func f) [] []]
def lastAt (l : List Int) : Nat → Int
  | 0 => -1
  | i + 1 => l.getD i default
theorem incB_drop {n : Int} {l : List Int} {i : Nat} (hi : i < l.length) : incB n (lastAt l i) (l.drop i) = (decide (lastAt l i < l.getD i default) && decide (l.getD i default < n) && incB n (lastAt l (i + 1)) (l.drop (i + 1))) := by
  rw [List.drop_eq_getElem_cons hi]
  have e : l[i] = l.getD i default := by simp [List.getD, hi]
  rw [e]
  rfl
theorem fits_ok (k : K) (p : Pt) (hp : ptW p) (hl : p.clauses.length ≤ 1000000) (e : Ef) (f : Nat) : Does Tryz.prog 35 [kV k, ptV p, efV e f] (.c (.bool (fitsB k.clauses.length p e))) := by
  refine Does.mk (fun _ => false) TT_ok Tryz.func35 rfl (by kernel_rfl) Tryz.ntmps35 rfl rfl fun E hT hE hN hR => ?_
  have hm := mixO hE
  (repeat (first | refine XK.n ?_ | refine XK.a ?_ | refine XK.b ?_)); refine XK.cond rfl (fun h1 => ?_) (fun h1 => ?_)
  · (repeat (first | refine XK.n ?_ | refine XK.a ?_ | refine XK.b ?_))
    (first | refine XK.out rfl rfl rfl ?_ | refine XK.outN rfl rfl rfl ?_)
    refine cB ?_
    simp only [Bool.or_eq_true, decide_eq_true_eq] at h1
    have : (decide (e.least ≤ (p.clauses.length : Int)) && decide ((p.clauses.length : Int) ≤ e.most)) = false := by
      rw [Bool.and_eq_false_iff, decide_eq_false_iff_not, decide_eq_false_iff_not]; omega
    simp only [fitsB, this, Bool.false_and]
  · have hb : (decide (e.least ≤ (p.clauses.length : Int)) && decide ((p.clauses.length : Int) ≤ e.most)) = true := by
      simp only [Bool.or_eq_false_iff, decide_eq_false_iff_not] at h1
      rw [Bool.and_eq_true, decide_eq_true_eq, decide_eq_true_eq]; omega
    (repeat (first | refine XK.n ?_ | refine XK.a ?_ | refine XK.b ?_))
    refine XK.loop (ι := Nat) (fun i => ST.of [(3, .rptr (kC k)), (4, .rptr (ptC p)), (5, .ptr 5 0), (7, .c (.int .i64 (lastAt p.clauses i))), (25, intsV p.clauses), (26, .c (.int .i64 p.clauses.length)), (27, .c (.int .i64 i))]
      [(5, .cells 90 [.c (.int .i64 e.least), .c (.int .i64 e.most), .c (.bool e.renewed), .c (.bool e.spanned), .fn (.func f) [] []])] 1000 65 (fun _ => false))
      (fun i => i ≤ p.clauses.length ∧ incB k.clauses.length (-1) p.clauses = incB k.clauses.length (lastAt p.clauses i) (p.clauses.drop i)) (fun i => p.clauses.length - i) 0 ⟨Nat.zero_le _, rfl⟩
      (Weak.trans (Weak.frozenC (k := 3) hN rfl rfl rfl) (Weak.trans (Weak.frozenC (k := 4) hN rfl rfl rfl) (Weak.of hN rfl rfl rfl frI frI))) fun i hi => ?_
    obtain ⟨hi, hc⟩ := hi
    (repeat (first | refine XK.n ?_ | refine XK.a ?_ | refine XK.b ?_)); refine XK.cond rfl (fun hlt => ?_) (fun hlt => ?_) <;> (try simp at hlt)
    · have hd := incB_drop (n := k.clauses.length) hlt
      have fx : p.clauses.getD (i : Int).toNat default = p.clauses.getD i default := rfl
      have hls : lastAt p.clauses (i + 1) = p.clauses.getD i default := rfl
      rw [hls] at hd
      (repeat (first | refine XK.n ?_ | refine XK.a ?_ | refine XK.b ?_))
      rw [fx]
      generalize p.clauses.getD i default = x at *
      (repeat (first | refine XK.n ?_ | refine XK.a ?_ | refine XK.b ?_)); refine XK.cond rfl (fun h2 => ?_) (fun h2 => ?_)
      · (repeat (first | refine XK.n ?_ | refine XK.a ?_ | refine XK.b ?_))
        (first | refine XK.out rfl rfl rfl ?_ | refine XK.outN rfl rfl rfl ?_)
        refine cB ?_
        have : (decide (lastAt p.clauses i < x) && decide (x < (k.clauses.length : Int))) = false := by
          simp only [Bool.or_eq_true, decide_eq_true_eq] at h2
          rw [Bool.and_eq_false_iff, decide_eq_false_iff_not, decide_eq_false_iff_not]; omega
        simp only [fitsB, hc, hd, this, Bool.and_false, Bool.false_and]
      · have h2' : (decide (lastAt p.clauses i < x) && decide (x < (k.clauses.length : Int))) = true := by
          simp only [Bool.or_eq_false_iff, decide_eq_false_iff_not] at h2
          rw [Bool.and_eq_true, decide_eq_true_eq, decide_eq_true_eq]; omega
        rw [h2', Bool.true_and] at hd
        (repeat (first | refine XK.n ?_ | refine XK.a ?_ | refine XK.b ?_))
        exact XK.inv ⟨i + 1, ⟨hlt, by rw [hc, hd, hls]⟩, (by rw [hls]; exact (Weak.of hN rfl rfl rfl frI frI)), by omega⟩
    · have hie : i = p.clauses.length := by omega
      subst hie
      have hc : incB k.clauses.length (-1) p.clauses = true := by rw [hc, List.drop_length]; rfl
      have zk := zeroCl_ok p.new
      (repeat (first | refine XK.n ?_ | refine XK.a ?_ | refine XK.b ?_)); refine XK.region ?_; refine XL.g ?_
      refine XL.callGA hE rfl rfl rfl rfl rfl rfl rfl rfl (zk) rfl ?_
      refine XL.g ?_; refine XL.fin ?_; (repeat (first | refine XK.n ?_ | refine XK.a ?_ | refine XK.b ?_))
      (repeat (first | refine XK.n ?_ | refine XK.a ?_ | refine XK.b ?_)); refine XK.cond rfl (fun h3 => ?_) (fun h3 => ?_)
      · (repeat (first | refine XK.n ?_ | refine XK.a ?_ | refine XK.b ?_))
        (first | refine XK.out rfl rfl rfl ?_ | refine XK.outN rfl rfl rfl ?_)
        refine cB ?_
        have : (e.renewed || zeroCl p.new) = false := by
          cases h4 : e.renewed <;> cases h5 : zeroCl p.new <;> simp_all
        simp only [fitsB, this, Bool.and_false, Bool.false_and]
      · have h3 : (e.renewed || zeroCl p.new) = true := by
          cases h4 : e.renewed <;> cases h5 : zeroCl p.new <;> simp_all
        have hf : fitsB k.clauses.length p e = if e.spanned then decide (1 ≤ p.days) && decide (p.days ≤ 400) else p.days == 0 := by
          simp only [fitsB, hb, hc, h3, Bool.true_and]
        (repeat (first | refine XK.n ?_ | refine XK.a ?_ | refine XK.b ?_)); refine XK.cond rfl (fun h4 => ?_) (fun h4 => ?_)
        · (repeat (first | refine XK.n ?_ | refine XK.a ?_ | refine XK.b ?_))
          (first | refine XK.out rfl rfl rfl ?_ | refine XK.outN rfl rfl rfl ?_)
          refine cB ?_
          rw [hf, if_pos (by simpa using h4)]
        · (repeat (first | refine XK.n ?_ | refine XK.a ?_ | refine XK.b ?_))
          (first | refine XK.out rfl rfl rfl ?_ | refine XK.outN rfl rfl rfl ?_)
          refine cB ?_
          rw [hf, if_neg (by simpa using h4)]
end Go.Proofs.YtlhmgphgnedlkaaGreat
end
section
/- Contracts: package patch: what the kinds of patches do. -/
namespace Go.Proofs.YtlhmgphgnedlkaaGreat
open Go.Eng
set_option maxRecDepth 10000
theorem catF_oneV {i : Nat} {f g h : Nat → List AV} (h0 : h 0 = g i) (hf : ∀ j, j < i → f j = g j) : ∀ j, j < i + 1 → catF i f h j = g j := by
  intro j hj
  unfold catF
  by_cases h1 : j < i
  · have : Nat.blt j i = true := by simpa using h1
    rw [this, cond_true]
    exact hf j h1
  · have : Nat.blt j i = false := by
      cases hb : Nat.blt j i with
      | false => rfl
      | true => simp at hb; exact absurd hb h1
    have e : j = i := by omega
    rw [this, cond_false, e, Nat.sub_self, h0]
def clsO (s : Nat) (cs : List Cl) : Ob := .vec 48 16 s cs.length (fun i => clC (cs.getD i default))
theorem getD_setA {α : Type} [Inhabited α] (l : List α) (i j : Nat) (x : α) (hi : i < l.length) : (l.set i x).getD j default = if j = i then x else l.getD j default := by
  simp only [List.getD_eq_getElem?_getD, List.getElem?_set]
  by_cases h : i = j
  · subst h; simp [hi]
  · rw [if_neg h, if_neg (fun h' => h h'.symm)]
theorem setRow_cls {cs : List Cl} {x : Nat} (hx : x < cs.length) {off : Nat} {c : List AV} {y : Cl} (hc : setL (clC (cs.getD x default)) off c = clC y) : ∀ j, clC ((cs.set x y).getD j default) = setRowF (fun i => clC (cs.getD i default)) x off c j := by
  intro j
  rw [getD_setA _ _ _ _ hx]
  unfold setRowF
  by_cases h : j = x
  · subst h; rw [if_pos rfl, show Nat.beq j j = true by simp]; exact hc.symm
  · rw [if_neg h, beq_false h]; rfl
def waive1 (cs : List Cl) (i : Int) : List Cl := cs.set i.toNat { cs.getD i.toNat default with waived := true }
def span1 (d : Int) (cs : List Cl) (i : Int) : List Cl := cs.set i.toNat { cs.getD i.toNat default with after := d }
theorem waive_len (cs : List Cl) (l : List Int) : (waiveL cs l).length = cs.length := by
  unfold waiveL
  induction l generalizing cs with
  | nil => rfl
  | cons i l ih => rw [List.foldl_cons, ih, List.length_set]
theorem span_len (d : Int) (cs : List Cl) (l : List Int) : (spanL d cs l).length = cs.length := by
  unfold spanL
  induction l generalizing cs with
  | nil => rfl
  | cons i l ih => rw [List.foldl_cons, ih, List.length_set]
theorem take_snoc (l : List Int) {i : Nat} (hi : i < l.length) : l.take (i + 1) = l.take i ++ [l.getD i default] := by
  rw [List.take_add_one, List.getElem?_eq_getElem hi]; simp [List.getD, hi]
theorem waive_take (cs : List Cl) (l : List Int) {i : Nat} (hi : i < l.length) : waiveL cs (l.take (i + 1)) = waive1 (waiveL cs (l.take i)) (l.getD i default) := by
  rw [take_snoc l hi]; unfold waiveL; rw [List.foldl_append]; rfl
theorem span_take (d : Int) (cs : List Cl) (l : List Int) {i : Nat} (hi : i < l.length) : spanL d cs (l.take (i + 1)) = span1 d (spanL d cs (l.take i)) (l.getD i default) := by
  rw [take_snoc l hi]; unfold spanL; rw [List.foldl_append]; rfl
def idxOk (n : Nat) (l : List Int) : Prop := ∀ i, i < l.length → 0 ≤ l.getD i default ∧ l.getD i default < n
theorem eff1_ok (cs : List Cl) (p : Pt) (hp : ptW p) (hx : idxOk cs.length p.clauses) (hl : p.clauses.length ≤ 1000000) (hn : cs.length ≤ 1000000) :
    DoesM Tryz.prog 63 [.vec 0 0, ptV p] [clsO 0 cs] (.vec 0 1) [clsO 1 (waiveL cs p.clauses)] := by
  refine DoesM.mk (fun _ => false) 100 TT_ok Tryz.func63 rfl (by kernel_rfl) Tryz.ntmps63 rfl rfl rfl fun E hT hE hN hR => ?_
  have hm := mixO hE
  (repeat (first | refine XK.n ?_ | refine XK.a ?_ | refine XK.b ?_))
  refine XK.loop (ι := Nat) (fun i => ST.of [(0, .vec 0 0), (3, .rptr (ptC p)), (8, intsV p.clauses), (9, .c (.int .i64 p.clauses.length)), (10, .c (.int .i64 i))] [(0, clsO 0 (waiveL cs (p.clauses.take i)))] 1000 20 (fun _ => false))
    (fun i => i ≤ p.clauses.length) (fun i => p.clauses.length - i) 0 (Nat.zero_le _) (Weak.trans (Weak.frozenC (k := 103) hN rfl rfl rfl) (Weak.of hN rfl rfl rfl frI frI)) fun i hi => ?_
  have hlen := waive_len cs (p.clauses.take i)
  (repeat (first | refine XK.n ?_ | refine XK.a ?_ | refine XK.b ?_)); refine XK.cond rfl (fun hlt => ?_) (fun hlt => ?_) <;> (try simp at hlt)
  · have hxi := hx i hlt
    have ht := waive_take cs p.clauses hlt
    have fx : p.clauses.getD (i : Int).toNat default = p.clauses.getD i default := rfl
    generalize waiveL cs (p.clauses.take i) = c1 at *
    unfold clsO
    (repeat (first | refine XK.n ?_ | refine XK.a ?_ | refine XK.b ?_))
    rw [fx]
    have hxc : (p.clauses.getD i default).toNat < c1.length := by omega
    refine XK.inv ⟨i + 1, hlt, Weak.of hN rfl rfl rfl (by (repeat' (first | exact rfl | exact AvIs.refl _ | exact trivial | exact fun _ _ => rfl | exact fun _ _ => ⟨rfl, AvIs.refl _⟩ | exact cI (by omega) | refine ⟨?_, ?_⟩))) ⟨⟨rfl, rfl, rfl⟩, ?_, fun j hj => ?_⟩, by omega⟩
    · rw [ht, waive1, List.length_set]
    · rw [ht, waive1]
      exact setRow_cls hxc rfl j
  · have hie : i = p.clauses.length := by omega
    subst hie
    rw [List.take_length]
    (repeat (first | refine XK.n ?_ | refine XK.a ?_ | refine XK.b ?_))
    refine XK.weak (Weak.stamp (k := 0) (t := 1) hN rfl rfl) ?_
    (first | refine XK.outR [0] hN rfl rfl rfl ?_ rfl rfl ?_ | refine XK.outRN [0] hN rfl rfl rfl ?_ rfl rfl ?_)
    · (repeat' (first | exact rfl | exact AvIs.refl _ | exact trivial | exact fun _ _ => rfl | exact fun _ _ => ⟨rfl, AvIs.refl _⟩ | refine ⟨?_, ?_⟩))
    · (repeat' (first | exact rfl | exact AvIs.refl _ | exact trivial | exact fun _ _ => rfl | exact fun _ _ => ⟨rfl, AvIs.refl _⟩ | refine ⟨?_, ?_⟩))
theorem eff4_ok (cs : List Cl) (p : Pt) (hp : ptW p) (hx : idxOk cs.length p.clauses) (hl : p.clauses.length ≤ 1000000) (hn : cs.length ≤ 1000000) :
    DoesM Tryz.prog 66 [.vec 0 0, ptV p] [clsO 0 cs] (.vec 0 1) [clsO 1 (spanL p.days cs p.clauses)] := by
  refine DoesM.mk (fun _ => false) 100 TT_ok Tryz.func66 rfl (by kernel_rfl) Tryz.ntmps66 rfl rfl rfl fun E hT hE hN hR => ?_
  have hm := mixO hE
  (repeat (first | refine XK.n ?_ | refine XK.a ?_ | refine XK.b ?_))
  refine XK.loop (ι := Nat) (fun i => ST.of [(0, .vec 0 0), (3, .rptr (ptC p)), (8, intsV p.clauses), (9, .c (.int .i64 p.clauses.length)), (10, .c (.int .i64 i))] [(0, clsO 0 (spanL p.days cs (p.clauses.take i)))] 1000 22 (fun _ => false))
    (fun i => i ≤ p.clauses.length) (fun i => p.clauses.length - i) 0 (Nat.zero_le _) (Weak.trans (Weak.frozenC (k := 103) hN rfl rfl rfl) (Weak.of hN rfl rfl rfl frI frI)) fun i hi => ?_
  have hlen := span_len p.days cs (p.clauses.take i)
  (repeat (first | refine XK.n ?_ | refine XK.a ?_ | refine XK.b ?_)); refine XK.cond rfl (fun hlt => ?_) (fun hlt => ?_) <;> (try simp at hlt)
  · have hxi := hx i hlt
    have ht := span_take p.days cs p.clauses hlt
    have fx : p.clauses.getD (i : Int).toNat default = p.clauses.getD i default := rfl
    generalize spanL p.days cs (p.clauses.take i) = c1 at *
    unfold clsO
    (repeat (first | refine XK.n ?_ | refine XK.a ?_ | refine XK.b ?_))
    rw [fx]
    have hxc : (p.clauses.getD i default).toNat < c1.length := by omega
    refine XK.inv ⟨i + 1, hlt, Weak.of hN rfl rfl rfl (by (repeat' (first | exact rfl | exact AvIs.refl _ | exact trivial | exact fun _ _ => rfl | exact fun _ _ => ⟨rfl, AvIs.refl _⟩ | exact cI (by omega) | refine ⟨?_, ?_⟩))) ⟨⟨rfl, rfl, rfl⟩, ?_, fun j hj => ?_⟩, by omega⟩
    · rw [ht, span1, List.length_set]
    · rw [ht, span1]
      exact setRow_cls hxc rfl j
  · have hie : i = p.clauses.length := by omega
    subst hie
    rw [List.take_length]
    (repeat (first | refine XK.n ?_ | refine XK.a ?_ | refine XK.b ?_))
    refine XK.weak (Weak.stamp (k := 0) (t := 1) hN rfl rfl) ?_
    (first | refine XK.outR [0] hN rfl rfl rfl ?_ rfl rfl ?_ | refine XK.outRN [0] hN rfl rfl rfl ?_ rfl rfl ?_)
    · (repeat' (first | exact rfl | exact AvIs.refl _ | exact trivial | exact fun _ _ => rfl | exact fun _ _ => ⟨rfl, AvIs.refl _⟩ | refine ⟨?_, ?_⟩))
    · (repeat' (first | exact rfl | exact AvIs.refl _ | exact trivial | exact fun _ _ => rfl | exact fun _ _ => ⟨rfl, AvIs.refl _⟩ | refine ⟨?_, ?_⟩))
theorem eff2_ok (cs : List Cl) (p : Pt) (hs : p.new.start.length ≤ 1000000) (hn : cs.length ≤ 1000000) :
    DoesM Tryz.prog 64 [.vec 0 0, ptV p] [clsO 0 cs] (.vec 0 1) [clsO 1 (cs ++ [p.new])] := by
  refine DoesM.mk (fun _ => false) 100 TT_ok Tryz.func64 rfl (by kernel_rfl) Tryz.ntmps64 rfl rfl rfl fun E hT hE hN hR => ?_
  have hm := mixO hE
  unfold clsO
  (repeat (first | refine XK.n ?_ | refine XK.a ?_ | refine XK.b ?_)); refine XK.region ?_; refine XL.g ?_
  refine XL.callKA hE rfl rfl rfl rfl trivial rfl rfl (clCopied_ok p.new hs) ?_
  refine XL.g ?_; refine XL.fin ?_; (repeat (first | refine XK.n ?_ | refine XK.a ?_ | refine XK.b ?_))
  refine XK.weak (Weak.of (L := [(4, .vec 0 1)]) (O := [(0, .vec 48 16 1 (cs ++ [p.new]).length (fun i => clC ((cs ++ [p.new]).getD i default)))]) (nx := 1000) (nt := 11) (md := fun _ => false) hN rfl rfl rfl frI
    ⟨⟨rfl, rfl, rfl⟩, by simp, fun j hj => (catF_oneV (g := fun i => clC ((cs ++ [p.new]).getD i default)) ?_ (fun k hk => ?_) j hj).symm⟩) ?_
  · show clC p.new = clC ((cs ++ [p.new]).getD cs.length default)
    simp [List.getD]
  · show clC (cs.getD k default) = clC ((cs ++ [p.new]).getD k default)
    simp [List.getD, List.getElem?_append_left hk]
  (first | refine XK.outR [0] hN rfl rfl rfl ?_ rfl rfl ?_ | refine XK.outRN [0] hN rfl rfl rfl ?_ rfl rfl ?_)
  · (repeat' (first | exact rfl | exact AvIs.refl _ | exact trivial | exact fun _ _ => rfl | exact fun _ _ => ⟨rfl, AvIs.refl _⟩ | refine ⟨?_, ?_⟩))
  · (repeat' (first | exact rfl | exact AvIs.refl _ | exact trivial | exact fun _ _ => rfl | exact fun _ _ => ⟨rfl, AvIs.refl _⟩ | refine ⟨?_, ?_⟩))
theorem eff3_ok (cs : List Cl) (p : Pt) (hs : p.new.start.length ≤ 1000000) (h0 : 0 < p.clauses.length) (hx : idxOk cs.length p.clauses) (hn : cs.length ≤ 1000000) :
    DoesM Tryz.prog 65 [.vec 0 0, ptV p] [clsO 0 cs] (.vec 0 1) [clsO 1 (cs.set (p.clauses.getD 0 default).toNat p.new)] := by
  have hx0 := hx 0 h0
  refine DoesM.mk (fun _ => false) 100 TT_ok Tryz.func65 rfl (by kernel_rfl) Tryz.ntmps65 rfl rfl rfl fun E hT hE hN hR => ?_
  have hm := mixO hE
  unfold clsO
  (repeat (first | refine XK.n ?_ | refine XK.a ?_ | refine XK.b ?_)); refine XK.drawn hm ?_; refine XD.goA hT rfl rfl rfl rfl ?_
  refine XD.callKA hE rfl rfl rfl rfl trivial rfl rfl (clCopied_ok p.new hs) ?_
  refine XD.goA hT rfl rfl rfl rfl ?_; refine XD.fin (by kernel_rfl) ?_; (repeat (first | refine XK.n ?_ | refine XK.a ?_ | refine XK.b ?_))
  have f0 : p.clauses.getD (Int.toNat 0) default = p.clauses.getD 0 default := rfl
  rw [f0]
  have hxc : (p.clauses.getD 0 default).toNat < cs.length := by omega
  refine XK.weak (Weak.of (L := [(4, .vec 0 0)]) (O := [(0, .vec 48 16 0 (cs.set (p.clauses.getD 0 default).toNat p.new).length (fun i => clC ((cs.set (p.clauses.getD 0 default).toNat p.new).getD i default)))]) (nx := 1000) (nt := 15) (md := fun _ => false) hN rfl rfl rfl frI
    ⟨⟨rfl, rfl, rfl⟩, by rw [List.length_set], fun j hj => setRow_cls hxc rfl j⟩) ?_
  refine XK.weak (Weak.stamp (k := 0) (t := 1) hN rfl rfl) ?_
  (first | refine XK.outR [0] hN rfl rfl rfl ?_ rfl rfl ?_ | refine XK.outRN [0] hN rfl rfl rfl ?_ rfl rfl ?_)
  · (repeat' (first | exact rfl | exact AvIs.refl _ | exact trivial | exact fun _ _ => rfl | exact fun _ _ => ⟨rfl, AvIs.refl _⟩ | refine ⟨?_, ?_⟩))
  · (repeat' (first | exact rfl | exact AvIs.refl _ | exact trivial | exact fun _ _ => rfl | exact fun _ _ => ⟨rfl, AvIs.refl _⟩ | refine ⟨?_, ?_⟩))
end Go.Proofs.YtlhmgphgnedlkaaGreat
end
