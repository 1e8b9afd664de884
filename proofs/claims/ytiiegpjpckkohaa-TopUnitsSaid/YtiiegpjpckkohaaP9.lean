import Derived.Test.YtiiegpjpckkohaaP8
import Derived.Test.YtiiegpjpckkohaaP5
section
/- Contracts: package trace, check. -/
namespace Go.Proofs.Ytiiegpjpckkohaa
open Go.Eng
set_option maxRecDepth 10000
set_option linter.unusedSimpArgs false
set_option linter.unusedVariables false
/-- The days that have ended in the first steps. -/
def daysTo (l : List Int) : Nat → Int
  | 0 => 0
  | i + 1 => if l.getD i default = -1 then daysTo l i + 1 else daysTo l i
/-- The error of the first steps. -/
def stepErr (k : K) (l : List Int) : Nat → Int
  | 0 => 0
  | i + 1 => if stepErr k l i ≠ 0 then stepErr k l i
    else if (decide (l.getD i default < -1) || decide ((k.acts.length : Int) ≤ l.getD i default)) = true then 1
    else if daysTo l i = k.days then 13 else 0
noncomputable def checkR (k : K) (l : List Int) : Int :=
  if (kValid k).1 ≠ 0 then 1 else if (4000 : Int) < l.length then 3 else stepErr k l l.length
theorem stepErr_low {k : K} {l : List Int} {i : Nat} (h : stepErr k l i ≠ 0) : ∀ m, i ≤ m → stepErr k l m = stepErr k l i := by
  intro m hm
  induction m with
  | zero => have : i = 0 := by omega
            rw [this]
  | succ m ih =>
    by_cases h1 : i = m + 1
    · rw [h1]
    · have h2 := ih (by omega)
      simp only [stepErr]
      rw [if_pos (by rw [h2]; exact h), h2]
theorem daysTo_le (l : List Int) : ∀ i, 0 ≤ daysTo l i ∧ daysTo l i ≤ i
  | 0 => by simp [daysTo]
  | i + 1 => by
    have := daysTo_le l i
    simp only [daysTo]
    split <;> omega
theorem check_ok (k : K) (hk : kW k) (l : List Int) : Does Try.prog 62 [kV k, intsV l] (.c (.int .i64 (checkR k l))) := by
  refine Does.mk (fun _ => false) TT_ok Try.func62 rfl (by kernel_rfl) Try.ntmps62 rfl rfl fun E hT hE hN hR => ?_
  have hm : E.P.follows .mixedOrders = true := by rw [hE]; kernel_rfl
  refine XK.fact (Sat.rs_len (j := 1) rfl) fun hlen => ?_
  have hm' := hlen.1
  (repeat (first | refine XK.norm rfl rfl ?_ | refine XK.rgnA hT rfl rfl rfl ?_ | refine XK.rgnB hT hm rfl rfl rfl ?_)); refine XK.region ?_; refine XL.goA hT rfl rfl rfl rfl ?_
  refine XL.callLA hE rfl rfl rfl rfl trivial rfl (kValid_ok k hk) rfl ?_
  refine XL.goA hT rfl rfl rfl rfl ?_; refine XL.fin ?_; (repeat (first | refine XK.norm rfl rfl ?_ | refine XK.rgnA hT rfl rfl rfl ?_ | refine XK.rgnB hT hm rfl rfl rfl ?_))
  (repeat (first | refine XK.norm rfl rfl ?_ | refine XK.rgnA hT rfl rfl rfl ?_ | refine XK.rgnB hT hm rfl rfl rfl ?_)); refine XK.cond rfl (fun h1 => ?_) (fun h1 => ?_) <;> (try simp at h1)
  · (repeat (first | refine XK.norm rfl rfl ?_ | refine XK.rgnA hT rfl rfl rfl ?_ | refine XK.rgnB hT hm rfl rfl rfl ?_))
    (first | refine XK.out rfl rfl rfl ?_ | refine XK.outN rfl rfl rfl ?_)
    simp only [checkR, ne_eq, h1, not_false_eq_true, if_true]
  · (repeat (first | refine XK.norm rfl rfl ?_ | refine XK.rgnA hT rfl rfl rfl ?_ | refine XK.rgnB hT hm rfl rfl rfl ?_)); refine XK.cond rfl (fun h2 => ?_) (fun h2 => ?_) <;> (try simp at h2)
    · (repeat (first | refine XK.norm rfl rfl ?_ | refine XK.rgnA hT rfl rfl rfl ?_ | refine XK.rgnB hT hm rfl rfl rfl ?_))
      (first | refine XK.out rfl rfl rfl ?_ | refine XK.outN rfl rfl rfl ?_)
      rw [checkR, if_neg (by simpa using h1), if_pos (by omega)]
    · rw [checkR, if_neg (by simpa using h1), if_neg (by omega)]
      (repeat (first | refine XK.norm rfl rfl ?_ | refine XK.rgnA hT rfl rfl rfl ?_ | refine XK.rgnB hT hm rfl rfl rfl ?_))
      refine XK.loop (ι := Nat) (fun i => ST.of [(2, .ptr 2 0), (4, .c (.int .i64 0)), (7, .c (.int .i64 (daysTo l i))), (20, intsV l), (21, .c (.int .i64 l.length)), (22, .c (.int .i64 i))] [(2, .cells 27 (kC k))] 1000 44 (fun _ => false))
        (fun i => i ≤ l.length ∧ stepErr k l i = 0) (fun i => l.length - i) 0 ⟨Nat.zero_le _, rfl⟩
        (Weak.of hN rfl rfl rfl ⟨rfl, rfl, rfl, AvIs.refl _, rfl, rfl⟩ ⟨rfl, rfl⟩) fun i hi => ?_
      obtain ⟨hi1, hi2⟩ := hi
      have hd := daysTo_le l i
      (repeat (first | refine XK.norm rfl rfl ?_ | refine XK.rgnA hT rfl rfl rfl ?_ | refine XK.rgnB hT hm rfl rfl rfl ?_)); refine XK.cond rfl (fun hlt => ?_) (fun hlt => ?_) <;> (try simp at hlt)
      · have hs : stepErr k l (i + 1) = if (decide (l.getD i default < -1) || decide ((k.acts.length : Int) ≤ l.getD i default)) = true then 1 else if daysTo l i = k.days then 13 else 0 := by
          simp only [stepErr, hi2, ne_eq, not_true_eq_false, if_false]
        (repeat (first | refine XK.norm rfl rfl ?_ | refine XK.rgnA hT rfl rfl rfl ?_ | refine XK.rgnB hT hm rfl rfl rfl ?_)); refine XK.cond rfl (fun h3 => ?_) (fun h3 => ?_)
        · rw [Int.toNat_natCast] at h3
          (repeat (first | refine XK.norm rfl rfl ?_ | refine XK.rgnA hT rfl rfl rfl ?_ | refine XK.rgnB hT hm rfl rfl rfl ?_))
          (first | refine XK.out rfl rfl rfl ?_ | refine XK.outN rfl rfl rfl ?_)
          rw [if_pos h3] at hs
          rw [stepErr_low (i := i + 1) (by rw [hs]; decide) l.length (by omega), hs]
        · rw [Int.toNat_natCast] at h3
          rw [if_neg (by rw [h3]; simp)] at hs
          (repeat (first | refine XK.norm rfl rfl ?_ | refine XK.rgnA hT rfl rfl rfl ?_ | refine XK.rgnB hT hm rfl rfl rfl ?_)); refine XK.cond rfl (fun h4 => ?_) (fun h4 => ?_) <;> (try simp at h4)
          · (repeat (first | refine XK.norm rfl rfl ?_ | refine XK.rgnA hT rfl rfl rfl ?_ | refine XK.rgnB hT hm rfl rfl rfl ?_))
            (first | refine XK.out rfl rfl rfl ?_ | refine XK.outN rfl rfl rfl ?_)
            rw [if_pos h4] at hs
            rw [stepErr_low (i := i + 1) (by rw [hs]; decide) l.length (by omega), hs]
          · rw [if_neg h4] at hs
            (repeat (first | refine XK.norm rfl rfl ?_ | refine XK.rgnA hT rfl rfl rfl ?_ | refine XK.rgnB hT hm rfl rfl rfl ?_)); refine XK.cond rfl (fun h5 => ?_) (fun h5 => ?_) <;> (try simp at h5)
            · (repeat (first | refine XK.norm rfl rfl ?_ | refine XK.rgnA hT rfl rfl rfl ?_ | refine XK.rgnB hT hm rfl rfl rfl ?_))
              refine XK.inv ⟨i + 1, ⟨hlt, hs⟩, Weak.of hN rfl rfl rfl ⟨rfl, rfl, cI ?_, AvIs.refl _, rfl, rfl⟩ ⟨rfl, rfl⟩, by omega⟩
              simp only [daysTo]
              rw [if_pos (by simpa using h5)]
            · (repeat (first | refine XK.norm rfl rfl ?_ | refine XK.rgnA hT rfl rfl rfl ?_ | refine XK.rgnB hT hm rfl rfl rfl ?_))
              refine XK.inv ⟨i + 1, ⟨hlt, hs⟩, Weak.of hN rfl rfl rfl ⟨rfl, rfl, cI ?_, AvIs.refl _, rfl, rfl⟩ ⟨rfl, rfl⟩, by omega⟩
              simp only [daysTo]
              rw [if_neg (by simpa using h5)]
      · (repeat (first | refine XK.norm rfl rfl ?_ | refine XK.rgnA hT rfl rfl rfl ?_ | refine XK.rgnB hT hm rfl rfl rfl ?_))
        (first | refine XK.out rfl rfl rfl ?_ | refine XK.outN rfl rfl rfl ?_)
        have : i = l.length := by omega
        rw [← this, hi2]
end Go.Proofs.Ytiiegpjpckkohaa
end
section
/- Contracts: estoppelref14.Same, Small. -/
namespace Go.Proofs.Ytiiegpjpckkohaa
open Go.Eng
set_option maxRecDepth 10000
set_option linter.unusedSimpArgs false
set_option linter.unusedVariables false
/-- What became of a clause. -/
structure Oc where
  status : Int
  from_ : Int
  to : Int
  got : Int
  bearer : Int
instance : Inhabited Oc := ⟨⟨0, 0, 0, 0, 0⟩⟩
def ocC (o : Oc) : List AV := [.c (.int .i64 o.status), .c (.int .i64 o.from_), .c (.int .i64 o.to), .c (.int .i64 o.got), .c (.int .i64 o.bearer)]
def ocV (o : Oc) : AV := .agg [.c (.int .i64 o.status), .c (.int .i64 o.from_), .c (.int .i64 o.to), .c (.int .i64 o.got), .c (.int .i64 o.bearer)]
def ocEq (a b : Oc) : Bool := a.status == b.status && a.from_ == b.from_ && a.to == b.to && a.got == b.got && a.bearer == b.bearer
def smallK (k : K) (m : Nat) : Bool :=
  if (decide ((20 : Int) < k.holders.length) || decide ((30 : Int) < k.units.length) || decide ((70 : Int) < k.acts.length) || decide ((40 : Int) < k.clauses.length) || decide ((100 : Int) < k.off.length) || decide ((120 : Int) < m)) = true then false
  else k.clauses.all (fun x => decide (x.start.length ≤ 20))
theorem smallK_ok (k : K) (l : List Int) : Does Try.prog 16 [kV k, intsV l] (.c (.bool (smallK k l.length))) := by
  refine Does.mk (fun _ => false) TT_ok Try.func16 rfl (by kernel_rfl) Try.ntmps16 rfl rfl fun E hT hE hN hR => ?_
  have hm : E.P.follows .mixedOrders = true := by rw [hE]; kernel_rfl
  (repeat (first | refine XK.norm rfl rfl ?_ | refine XK.rgnA hT rfl rfl rfl ?_ | refine XK.rgnB hT hm rfl rfl rfl ?_)); refine XK.cond rfl (fun h1 => ?_) (fun h1 => ?_)
  · (repeat (first | refine XK.norm rfl rfl ?_ | refine XK.rgnA hT rfl rfl rfl ?_ | refine XK.rgnB hT hm rfl rfl rfl ?_))
    (first | refine XK.out rfl rfl rfl ?_ | refine XK.outN rfl rfl rfl ?_)
    simp only [smallK, if_pos h1]
  · rw [smallK, if_neg (by rw [h1]; simp)]
    (repeat (first | refine XK.norm rfl rfl ?_ | refine XK.rgnA hT rfl rfl rfl ?_ | refine XK.rgnB hT hm rfl rfl rfl ?_))
    have hm' : k.clauses.length ≤ 40 := by
      simp at h1
      omega
    refine XK.loop (ι := Nat) (fun i => ST.of [(2, .ptr 2 0), (4, .c (.bool false)), (5, .c (.int .i64 i))] [(2, .cells 27 (kC k))] 1000 54 (fun _ => false))
      (fun i => i ≤ k.clauses.length ∧ ∀ j, j < i → decide ((k.clauses.getD j default).start.length ≤ 20) = true) (fun i => k.clauses.length - i) 0 ⟨Nat.zero_le _, fun j hj => absurd hj (Nat.not_lt_zero _)⟩
      (Weak.of hN rfl rfl rfl ⟨rfl, rfl, rfl⟩ ⟨rfl, rfl⟩) fun i hi => ?_
    obtain ⟨hi1, hi2⟩ := hi
    (repeat (first | refine XK.norm rfl rfl ?_ | refine XK.rgnA hT rfl rfl rfl ?_ | refine XK.rgnB hT hm rfl rfl rfl ?_)); refine XK.cond rfl (fun hlt => ?_) (fun hlt => ?_) <;> (try simp at hlt)
    · (repeat (first | refine XK.norm rfl rfl ?_ | refine XK.rgnA hT rfl rfl rfl ?_ | refine XK.rgnB hT hm rfl rfl rfl ?_)); refine XK.cond rfl (fun h2 => ?_) (fun h2 => ?_) <;> (try simp at h2)
      · (repeat (first | refine XK.norm rfl rfl ?_ | refine XK.rgnA hT rfl rfl rfl ?_ | refine XK.rgnB hT hm rfl rfl rfl ?_))
        (first | refine XK.out rfl rfl rfl ?_ | refine XK.outN rfl rfl rfl ?_)
        have : k.clauses.all (fun x => decide (x.start.length ≤ 20)) = false := all_not hlt (by simp at h2 ⊢; omega)
        rw [this]
      · (repeat (first | refine XK.norm rfl rfl ?_ | refine XK.rgnA hT rfl rfl rfl ?_ | refine XK.rgnB hT hm rfl rfl rfl ?_))
        refine XK.inv ⟨i + 1, ⟨hlt, fun j hj => ?_⟩, Weak.of hN rfl rfl rfl ⟨rfl, rfl, rfl⟩ ⟨rfl, rfl⟩, by omega⟩
        by_cases h : j = i
        · subst h; simp at h2 ⊢; omega
        · exact hi2 j (by omega)
    · (repeat (first | refine XK.norm rfl rfl ?_ | refine XK.rgnA hT rfl rfl rfl ?_ | refine XK.rgnB hT hm rfl rfl rfl ?_))
      (first | refine XK.out rfl rfl rfl ?_ | refine XK.outN rfl rfl rfl ?_)
      have : k.clauses.all (fun x => decide (x.start.length ≤ 20)) = true := all_at.2 fun j hj => hi2 j (by omega)
      rw [this]
def ocsV (n : Nat) (f : Nat → Oc) : AV := .rs 5 n (fun i => ocC (f i))
end Go.Proofs.Ytiiegpjpckkohaa
end
section
/- Contracts: package trace: what a valid contract gives; the reading of a trace as a Lean value; ready, runs, end. -/
namespace Go.Proofs.Ytiiegpjpckkohaa
open Go.Eng
set_option maxRecDepth 10000
set_option linter.unusedSimpArgs false
set_option linter.unusedVariables false
theorem lt_succ_ne {i j : Nat} (h : j ≠ i) : (j < i + 1) = (j < i) := by
  rw [eq_iff_iff]; omega
/-- A contract that is valid. -/
def kOk (k : K) : Prop := kW k ∧ (kValid k).1 = 0
def clAt (k : K) (i : Nat) : Cl := k.clauses.getD i default
def acAt (k : K) (i : Nat) : Act := k.acts.getD i default
structure KFacts (k : K) : Prop where
  w : kW k
  parties : 1 ≤ k.parties ∧ k.parties ≤ 12
  days : 1 ≤ k.days ∧ k.days ≤ 2000
  nh : 0 < k.holders.length ∧ k.holders.length ≤ 12
  na : k.acts.length ≤ 60
  nc : k.clauses.length ≤ 400
  held : heldB k = true
  off : offB k = true
  act : ∀ i, i < k.acts.length → actB k (acAt k i) = true
  cl : ∀ i, i < k.clauses.length → clauseB k i (clAt k i) = true
theorem kOk.facts {k : K} (h : kOk k) : KFacts k := by
  obtain ⟨hw, hv⟩ := h
  unfold kValid at hv
  split at hv
  · simp at hv
  · rename_i h1
    simp only [Bool.or_eq_true, decide_eq_true_eq, not_or] at h1
    split at hv
    · simp at hv
    · rename_i h2
      split at hv
      · simp at hv
      · rename_i h3
        have h2 : framedB k = true := by simpa using h2
        unfold framedB at h2
        split at h2
        · cases h2
        · rename_i h4
          simp only [not_or] at h4
          split at h2
          · cases h2
          · simp only [Bool.and_eq_true] at h2
            refine ⟨hw, by omega, by omega, by omega, by omega, by omega, by simpa using h4.2.2.2, h2.2, fun i hi => all_at.1 h2.1 i hi, fun i hi => ?_⟩
            have := List.find?_eq_none.1 h3 i (by simpa using hi)
            simpa [clAt] using this
namespace KFacts
variable {k : K} (h : KFacts k)
include h
theorem clW' {i : Nat} (hi : i < k.clauses.length) : clW (clAt k i) := all_getD h.w.2.2.2.2.1 i hi
theorem acW {i : Nat} (hi : i < k.acts.length) : actW (acAt k i) := all_getD h.w.2.2.2.1 i hi
theorem clB {i : Nat} (hi : i < k.clauses.length) : (0 ≤ (clAt k i).act ∧ (clAt k i).act < k.acts.length) ∧ (1 ≤ (clAt k i).after ∧ (clAt k i).after ≤ 400) ∧ kindB k (clAt k i) = true ∧ (clAt k i).start.length ≤ 8 ∧ (∀ s ∈ (clAt k i).start, condB k i s = true) ∧
    (((clAt k i).pause = -1 ∧ (clAt k i).resume = -1) ∨ ((clAt k i).pause ≠ (clAt k i).resume ∧ natB k (clAt k i).pause = true ∧ natB k (clAt k i).resume = true)) ∧
    ((clAt k i).unit = -1 ∧ (clAt k i).value = (0, 1) ∧ (clAt k i).to = -1 ∨ (clAt k i).unit ≠ -1 ∧ ((clAt k i).kind = 1 ∨ (clAt k i).kind = 2) ∧ (0 ≤ (clAt k i).unit ∧ (clAt k i).unit < k.units.length) ∧ (k.units.getD (clAt k i).unit.toNat default).kind = 2 ∧ posB (clAt k i).value = true ∧ movB k (clAt k i).to = true) := by
  have := h.cl i hi
  generalize clAt k i = x at *
  unfold clauseB at this
  split at this
  · cases this
  · rename_i h1
    simp only [Bool.or_eq_true, decide_eq_true_eq, not_or] at h1
    split at this
    · cases this
    · rename_i h2
      simp only [Bool.or_eq_true, Bool.not_eq_true', decide_eq_true_eq, not_or, Bool.not_eq_false] at h2
      split at this
      · cases this
      · rename_i h3
        have h3 : ∀ s ∈ x.start, condB k i s = true := List.all_eq_true.1 (by simpa using h3)
        split at this
        · cases this
        · rename_i h4
          refine ⟨by omega, by omega, h2.1, by omega, h3, ?_, ?_⟩
          · by_cases h5 : x.pause ≠ -1 ∨ x.resume ≠ -1
            · right
              simp only [h5, true_and, Bool.or_eq_true, beq_iff_eq, Bool.not_eq_true', not_or, Bool.not_eq_false] at h4
              exact ⟨h4.1.1, h4.1.2, h4.2⟩
            · left; omega
          · split at this
            · rename_i h6
              simp only [Bool.and_eq_true, beq_iff_eq] at this
              exact .inl ⟨h6, Prod.ext this.1.1 this.1.2, this.2⟩
            · rename_i h6
              simp only [Bool.and_eq_true, Bool.or_eq_true, beq_iff_eq, decide_eq_true_eq] at this
              exact .inr ⟨h6, this.1.1.1.1.1, ⟨this.1.1.1.1.2, this.1.1.1.2⟩, this.1.1.2, this.1.2, this.2⟩
theorem cond {i : Nat} (hi : i < k.clauses.length) {s : Cnd} (hs : s ∈ (clAt k i).start) : 0 ≤ s.clause ∧ s.clause < k.clauses.length ∧ s.clause ≠ i ∧ 1 ≤ s.is ∧ s.is ≤ 4 := by
  have := (h.clB hi).2.2.2.2.1 s hs
  simp only [condB, Bool.not_eq_true', Bool.or_eq_false_iff, decide_eq_false_iff_not, beq_eq_false_iff_ne, ne_eq] at this
  omega
end KFacts
/-- What the steps that were read so far mean. -/
structure Rd where
  steps : Int
  day : Int
  hold : Nat → Int
  hap : Nat → Bool
  dom : Value → Bool
  wait : Int → List Int
  cnt : Nat → Int × Bool
  out : Nat → Oc
def freeV (k : K) : AV := .fn (.func 92) [] [.rptr (kC k)]
def rdO (k : K) (r : Rd) : Ob := .cells 121 [.c (.int .i64 k.parties), intsV k.holders, unitsV k.units, actsV k.acts, clsV k.clauses, .c (.int .i64 k.days), intsV k.off,
  .c (.int .i64 r.steps), .c (.int .i64 r.day), .vec 1 0, .vec 2 0, freeV k, .mp 3, .vec 4 0, .vec 5 0]
def holdO (k : K) (r : Rd) : Ob := .vec 3 1 0 k.holders.length (fun i => [.c (.int .i64 (r.hold i))])
def hapO (k : K) (r : Rd) : Ob := .vec 4 1 0 k.acts.length (fun i => [.c (.bool (r.hap i))])
def waitF (g : Int → List Int) : Value → AV
  | .int _ z => .rs 1 (g z).length (fun i => [.c (.int .i64 ((g z).getD i default))])
  | _ => .junk
def waitO (r : Rd) : Ob := .mapb (.int .i64) (.slice none 0 0) r.dom (waitF r.wait)
def cntO (k : K) (r : Rd) : Ob := .vec 173 2 0 k.clauses.length (fun i => [.c (.int .i64 (r.cnt i).1), .c (.bool (r.cnt i).2)])
def outO (k : K) (r : Rd) : Ob := .vec 71 5 0 k.clauses.length (fun i => [.c (.int .i64 (r.out i).status), .c (.int .i64 (r.out i).from_), .c (.int .i64 (r.out i).to), .c (.int .i64 (r.out i).got), .c (.int .i64 (r.out i).bearer)])
def rdOs (k : K) (r : Rd) : List Ob := [rdO k r, holdO k r, hapO k r, waitO r, cntO k r, outO k r]
def rdN (k : K) (r : Rd) : List (Nat × Ob) := [(0, rdO k r), (1, holdO k r), (2, hapO k r), (3, waitO r), (4, cntO k r), (5, outO k r)]
/-- Whether a condition holds at a status. -/
def holdsAt (st is : Int) : Bool := if is = 1 then st != 0 else if is = 2 then st == 3 else if is = 3 then st == 4 else if is = 4 then st == 5 else false
def readyB (k : K) (out : Nat → Oc) (i : Nat) : Bool := (clAt k i).start.all (fun s => holdsAt (out s.clause.toNat).status s.is)
theorem ready_ok (k : K) (hk : KFacts k) (r : Rd) (i : Nat) (hi : i < k.clauses.length) : DoesM Try.prog 107 [.ptr 0 0, .c (.int .i64 i)] (rdOs k r) (.c (.bool (readyB k r.out i))) (rdOs k r) := by
  refine DoesM.mk (fun _ => false) 100 TT_ok Try.func107 rfl (by kernel_rfl) Try.ntmps107 rfl rfl rfl fun E hT hE hN hR => ?_
  have hm : E.P.follows .mixedOrders = true := by rw [hE]; kernel_rfl
  have hx := hk.clW' hi
  have hc := fun j (hj : j < (clAt k i).start.length) => hk.cond hi (s := (clAt k i).start.getD j default) (by simp only [List.getD_eq_getElem?_getD, List.getElem?_eq_getElem hj, Option.getD_some]; exact List.getElem_mem hj)
  (repeat (first | refine XK.norm rfl rfl ?_ | refine XK.rgnA hT rfl rfl rfl ?_ | refine XK.rgnB hT hm rfl rfl rfl ?_))
  refine XK.fact (Sat.rs_len (j := 17) rfl) fun hlen => ?_
  have hm' : (clAt k i).start.length ≤ 9223372036854775807 := hlen.1
  refine XK.loop (ι := Nat) (fun j => ST.of [(0, .ptr 0 0), (1, .c (.int .i64 i)), (4, .c (.bool false)), (17, cndsV (clAt k i).start), (18, .c (.int .i64 (clAt k i).start.length)), (19, .c (.int .i64 j))] (rdN k r) 1000 53 (fun _ => false))
    (fun j => j ≤ (clAt k i).start.length ∧ ∀ q, q < j → (fun s : Cnd => holdsAt (r.out s.clause.toNat).status s.is) ((clAt k i).start.getD q default) = true) (fun j => (clAt k i).start.length - j) 0 ⟨Nat.zero_le _, fun j hj => absurd hj (Nat.not_lt_zero _)⟩
    (Weak.of hN rfl rfl rfl (by (repeat' (first | exact rfl | exact AvIs.refl _ | exact trivial | exact fun _ _ => rfl | exact fun _ _ => ⟨rfl, AvIs.refl _⟩ | refine ⟨?_, ?_⟩))) (by (repeat' (first | exact rfl | exact AvIs.refl _ | exact trivial | exact fun _ _ => rfl | exact fun _ _ => ⟨rfl, AvIs.refl _⟩ | refine ⟨?_, ?_⟩)))) fun j hj => ?_
  obtain ⟨hj1, hj2⟩ := hj
  (repeat (first | refine XK.norm rfl rfl ?_ | refine XK.rgnA hT rfl rfl rfl ?_ | refine XK.rgnB hT hm rfl rfl rfl ?_)); refine XK.cond rfl (fun hlt => ?_) (fun hlt => ?_) <;> (try simp at hlt)
  · have hcj := hc j hlt
    have fin : ∀ b : Bool, b = holdsAt (r.out ((clAt k i).start.getD j default).clause.toNat).status ((clAt k i).start.getD j default).is → ((b = false → readyB k r.out i = false) ∧ (b = true → ∀ q, q < j + 1 → (fun s : Cnd => holdsAt (r.out s.clause.toNat).status s.is) ((clAt k i).start.getD q default) = true)) := by
      intro b hb
      refine ⟨fun h => all_not hlt (by show holdsAt _ _ = false; rw [← hb, h]), fun h q hq => ?_⟩
      by_cases hqj : q = j
      · subst hqj; show holdsAt _ _ = true; rw [← hb, h]
      · exact hj2 q (by omega)
    have fix : ((clAt k i).start.getD (j : Int).toNat default) = (clAt k i).start.getD j default := rfl
    generalize hs : (clAt k i).start.getD j default = s at hcj fin fix
    (repeat (first | refine XK.norm rfl rfl ?_ | refine XK.rgnA hT rfl rfl rfl ?_ | refine XK.rgnB hT hm rfl rfl rfl ?_))
    rw [fix]
    (repeat (first | refine XK.norm rfl rfl ?_ | refine XK.rgnA hT rfl rfl rfl ?_ | refine XK.rgnB hT hm rfl rfl rfl ?_)); refine XK.cond rfl (fun h1 => ?_) (fun h1 => ?_) <;> (try simp at h1)
    · (repeat (first | refine XK.norm rfl rfl ?_ | refine XK.rgnA hT rfl rfl rfl ?_ | refine XK.rgnB hT hm rfl rfl rfl ?_)); refine XK.cond rfl (fun h5 => ?_) (fun h5 => ?_) <;> (try simp at h5)
      · (repeat (first | refine XK.norm rfl rfl ?_ | refine XK.rgnA hT rfl rfl rfl ?_ | refine XK.rgnB hT hm rfl rfl rfl ?_))
        (first | refine XK.outR [0, 1, 2, 3, 4, 5] hN rfl rfl rfl ?_ rfl rfl ?_ | refine XK.outRN [0, 1, 2, 3, 4, 5] hN rfl rfl rfl ?_ rfl rfl ?_)
        · (repeat' (first | exact rfl | exact AvIs.refl _ | exact trivial | exact fun _ _ => rfl | exact fun _ _ => ⟨rfl, AvIs.refl _⟩ | refine ⟨?_, ?_⟩))
        · rw [(fin false (by simp [holdsAt, h1, h5])).1 rfl]; rfl
      · (repeat (first | refine XK.norm rfl rfl ?_ | refine XK.rgnA hT rfl rfl rfl ?_ | refine XK.rgnB hT hm rfl rfl rfl ?_))
        refine XK.inv ⟨j + 1, ⟨hlt, (fin true (by simp [holdsAt, h1, h5])).2 rfl⟩, (Weak.of hN rfl rfl rfl (by (repeat' (first | exact rfl | exact AvIs.refl _ | exact trivial | exact fun _ _ => rfl | exact fun _ _ => ⟨rfl, AvIs.refl _⟩ | refine ⟨?_, ?_⟩))) (by (repeat' (first | exact rfl | exact AvIs.refl _ | exact trivial | exact fun _ _ => rfl | exact fun _ _ => ⟨rfl, AvIs.refl _⟩ | refine ⟨?_, ?_⟩)))), by omega⟩
    · (repeat (first | refine XK.norm rfl rfl ?_ | refine XK.rgnA hT rfl rfl rfl ?_ | refine XK.rgnB hT hm rfl rfl rfl ?_)); refine XK.cond rfl (fun h2 => ?_) (fun h2 => ?_) <;> (try simp at h2)
      · (repeat (first | refine XK.norm rfl rfl ?_ | refine XK.rgnA hT rfl rfl rfl ?_ | refine XK.rgnB hT hm rfl rfl rfl ?_)); refine XK.cond rfl (fun h5 => ?_) (fun h5 => ?_) <;> (try simp at h5)
        · (repeat (first | refine XK.norm rfl rfl ?_ | refine XK.rgnA hT rfl rfl rfl ?_ | refine XK.rgnB hT hm rfl rfl rfl ?_))
          (first | refine XK.outR [0, 1, 2, 3, 4, 5] hN rfl rfl rfl ?_ rfl rfl ?_ | refine XK.outRN [0, 1, 2, 3, 4, 5] hN rfl rfl rfl ?_ rfl rfl ?_)
          · (repeat' (first | exact rfl | exact AvIs.refl _ | exact trivial | exact fun _ _ => rfl | exact fun _ _ => ⟨rfl, AvIs.refl _⟩ | refine ⟨?_, ?_⟩))
          · rw [(fin false (by simp [holdsAt, h2, h5])).1 rfl]; rfl
        · (repeat (first | refine XK.norm rfl rfl ?_ | refine XK.rgnA hT rfl rfl rfl ?_ | refine XK.rgnB hT hm rfl rfl rfl ?_))
          refine XK.inv ⟨j + 1, ⟨hlt, (fin true (by simp [holdsAt, h2, h5])).2 rfl⟩, (Weak.of hN rfl rfl rfl (by (repeat' (first | exact rfl | exact AvIs.refl _ | exact trivial | exact fun _ _ => rfl | exact fun _ _ => ⟨rfl, AvIs.refl _⟩ | refine ⟨?_, ?_⟩))) (by (repeat' (first | exact rfl | exact AvIs.refl _ | exact trivial | exact fun _ _ => rfl | exact fun _ _ => ⟨rfl, AvIs.refl _⟩ | refine ⟨?_, ?_⟩)))), by omega⟩
      · (repeat (first | refine XK.norm rfl rfl ?_ | refine XK.rgnA hT rfl rfl rfl ?_ | refine XK.rgnB hT hm rfl rfl rfl ?_)); refine XK.cond rfl (fun h3 => ?_) (fun h3 => ?_) <;> (try simp at h3)
        · (repeat (first | refine XK.norm rfl rfl ?_ | refine XK.rgnA hT rfl rfl rfl ?_ | refine XK.rgnB hT hm rfl rfl rfl ?_)); refine XK.cond rfl (fun h5 => ?_) (fun h5 => ?_) <;> (try simp at h5)
          · (repeat (first | refine XK.norm rfl rfl ?_ | refine XK.rgnA hT rfl rfl rfl ?_ | refine XK.rgnB hT hm rfl rfl rfl ?_))
            (first | refine XK.outR [0, 1, 2, 3, 4, 5] hN rfl rfl rfl ?_ rfl rfl ?_ | refine XK.outRN [0, 1, 2, 3, 4, 5] hN rfl rfl rfl ?_ rfl rfl ?_)
            · (repeat' (first | exact rfl | exact AvIs.refl _ | exact trivial | exact fun _ _ => rfl | exact fun _ _ => ⟨rfl, AvIs.refl _⟩ | refine ⟨?_, ?_⟩))
            · rw [(fin false (by simp [holdsAt, h3, h5])).1 rfl]; rfl
          · (repeat (first | refine XK.norm rfl rfl ?_ | refine XK.rgnA hT rfl rfl rfl ?_ | refine XK.rgnB hT hm rfl rfl rfl ?_))
            refine XK.inv ⟨j + 1, ⟨hlt, (fin true (by simp [holdsAt, h3, h5])).2 rfl⟩, (Weak.of hN rfl rfl rfl (by (repeat' (first | exact rfl | exact AvIs.refl _ | exact trivial | exact fun _ _ => rfl | exact fun _ _ => ⟨rfl, AvIs.refl _⟩ | refine ⟨?_, ?_⟩))) (by (repeat' (first | exact rfl | exact AvIs.refl _ | exact trivial | exact fun _ _ => rfl | exact fun _ _ => ⟨rfl, AvIs.refl _⟩ | refine ⟨?_, ?_⟩)))), by omega⟩
        · (repeat (first | refine XK.norm rfl rfl ?_ | refine XK.rgnA hT rfl rfl rfl ?_ | refine XK.rgnB hT hm rfl rfl rfl ?_)); refine XK.cond rfl (fun h4 => ?_) (fun h4 => ?_) <;> (try simp at h4)
          · (repeat (first | refine XK.norm rfl rfl ?_ | refine XK.rgnA hT rfl rfl rfl ?_ | refine XK.rgnB hT hm rfl rfl rfl ?_)); refine XK.cond rfl (fun h5 => ?_) (fun h5 => ?_) <;> (try simp at h5)
            · (repeat (first | refine XK.norm rfl rfl ?_ | refine XK.rgnA hT rfl rfl rfl ?_ | refine XK.rgnB hT hm rfl rfl rfl ?_))
              (first | refine XK.outR [0, 1, 2, 3, 4, 5] hN rfl rfl rfl ?_ rfl rfl ?_ | refine XK.outRN [0, 1, 2, 3, 4, 5] hN rfl rfl rfl ?_ rfl rfl ?_)
              · (repeat' (first | exact rfl | exact AvIs.refl _ | exact trivial | exact fun _ _ => rfl | exact fun _ _ => ⟨rfl, AvIs.refl _⟩ | refine ⟨?_, ?_⟩))
              · rw [(fin false (by simp [holdsAt, h4, h5])).1 rfl]; rfl
            · (repeat (first | refine XK.norm rfl rfl ?_ | refine XK.rgnA hT rfl rfl rfl ?_ | refine XK.rgnB hT hm rfl rfl rfl ?_))
              refine XK.inv ⟨j + 1, ⟨hlt, (fin true (by simp [holdsAt, h4, h5])).2 rfl⟩, (Weak.of hN rfl rfl rfl (by (repeat' (first | exact rfl | exact AvIs.refl _ | exact trivial | exact fun _ _ => rfl | exact fun _ _ => ⟨rfl, AvIs.refl _⟩ | refine ⟨?_, ?_⟩))) (by (repeat' (first | exact rfl | exact AvIs.refl _ | exact trivial | exact fun _ _ => rfl | exact fun _ _ => ⟨rfl, AvIs.refl _⟩ | refine ⟨?_, ?_⟩)))), by omega⟩
          · omega
  · (repeat (first | refine XK.norm rfl rfl ?_ | refine XK.rgnA hT rfl rfl rfl ?_ | refine XK.rgnB hT hm rfl rfl rfl ?_))
    (first | refine XK.outR [0, 1, 2, 3, 4, 5] hN rfl rfl rfl ?_ rfl rfl ?_ | refine XK.outRN [0, 1, 2, 3, 4, 5] hN rfl rfl rfl ?_ rfl rfl ?_)
    · (repeat' (first | exact rfl | exact AvIs.refl _ | exact trivial | exact fun _ _ => rfl | exact fun _ _ => ⟨rfl, AvIs.refl _⟩ | refine ⟨?_, ?_⟩))
    · have : readyB k r.out i = true := all_at.2 fun q hq => hj2 q (by omega)
      rw [this]; rfl
theorem runs_ok (k : K) (r : Rd) (i : Nat) (hi : i < k.clauses.length) : DoesM Try.prog 108 [.ptr 0 0, .c (.int .i64 i)] (rdOs k r) (.c (.bool (decide (0 ≤ (r.out i).from_) && decide ((r.out i).to < 0)))) (rdOs k r) := by
  refine DoesM.mk (fun _ => false) 100 TT_ok Try.func108 rfl (by kernel_rfl) Try.ntmps108 rfl rfl rfl fun E hT hE hN hR => ?_
  have hm : E.P.follows .mixedOrders = true := by rw [hE]; kernel_rfl
  (repeat (first | refine XK.norm rfl rfl ?_ | refine XK.rgnA hT rfl rfl rfl ?_ | refine XK.rgnB hT hm rfl rfl rfl ?_))
  (first | refine XK.outR [0, 1, 2, 3, 4, 5] hN rfl rfl rfl ?_ rfl rfl ?_ | refine XK.outRN [0, 1, 2, 3, 4, 5] hN rfl rfl rfl ?_ rfl rfl ?_)
  · exact ⟨⟨rfl, rfl⟩, ⟨⟨rfl, rfl, rfl⟩, rfl, fun _ _ => rfl⟩, ⟨⟨rfl, rfl, rfl⟩, rfl, fun _ _ => rfl⟩, ⟨rfl, rfl, fun _ _ => ⟨rfl, AvIs.refl _⟩⟩, ⟨⟨rfl, rfl, rfl⟩, rfl, fun _ _ => rfl⟩, ⟨⟨rfl, rfl, rfl⟩, rfl, fun _ _ => rfl⟩⟩
  · exact AvIs.refl _
end Go.Proofs.Ytiiegpjpckkohaa
end
section
/- Contracts: package trace: end, counted. -/
namespace Go.Proofs.Ytiiegpjpckkohaa
open Go.Eng
set_option maxRecDepth 10000
set_option linter.unusedSimpArgs false
set_option linter.unusedVariables false
def Rd.upOut (r : Rd) (i : Nat) (o : Oc) : Rd := { r with out := fun j => if j = i then o else r.out j }
def Rd.upCnt (r : Rd) (i : Nat) (c : Int × Bool) : Rd := { r with cnt := fun j => if j = i then c else r.cnt j }
theorem end_ok (k : K) (r : Rd) (i : Nat) (s : Int) (hi : i < k.clauses.length) : DoesM Try.prog 110 [.ptr 0 0, .c (.int .i64 i), .c (.int .i64 s)] (rdOs k r) (.tup []) (rdOs k (r.upOut i { r.out i with status := s, to := r.steps })) := by
  refine DoesM.mk (fun _ => false) 100 TT_ok Try.func110 rfl (by kernel_rfl) Try.ntmps110 rfl rfl rfl fun E hT hE hN hR => ?_
  have hm : E.P.follows .mixedOrders = true := by rw [hE]; kernel_rfl
  (repeat (first | refine XK.norm rfl rfl ?_ | refine XK.rgnA hT rfl rfl rfl ?_ | refine XK.rgnB hT hm rfl rfl rfl ?_))
  (first | refine XK.outR [0, 1, 2, 3, 4, 5] hN rfl rfl rfl ?_ rfl rfl ?_ | refine XK.outRN [0, 1, 2, 3, 4, 5] hN rfl rfl rfl ?_ rfl rfl ?_)
  · refine ⟨?_, ?_, ?_, ?_, ?_, ⟨rfl, rfl, rfl⟩, rfl, (by intro j hj; by_cases hji : j = (i); (· subst hji; simp [setRowF, setL, Rd.upOut, Rd.upCnt]); (· simp [setRowF, beq_false hji, Rd.upOut, Rd.upCnt, hji]))⟩
    all_goals (repeat' (first | exact rfl | exact AvIs.refl _ | exact trivial | exact fun _ _ => rfl | exact fun _ _ => ⟨rfl, AvIs.refl _⟩ | refine ⟨?_, ?_⟩))
  · exact AvIs.refl _
/-- An act, by a doer, that is the Act of a running clause: what becomes of the clause, and whether it ends. -/
def countOne (x : Cl) (steps doer : Int) (paused : Bool) (o : Oc) : Oc × Bool :=
  if x.kind ≠ 4 ∧ o.bearer ≠ doer then (o, false)
  else if x.kind = 1 then (if o.got + 1 < x.need then ({ o with got := o.got + 1 }, false) else ({ o with got := o.got + 1, status := 3, to := steps }, true))
  else if x.kind = 2 then (if paused = true then (o, false) else ({ o with status := 4, to := steps }, true))
  else ({ o with status := 3, to := steps }, true)
theorem counted_ok (k : K) (hk : KFacts k) (r : Rd) (i : Nat) (doer : Int) (hi : i < k.clauses.length) (hg : 0 ≤ (r.out i).got ∧ (r.out i).got ≤ 1000000) :
    DoesM Try.prog 109 [.ptr 0 0, .c (.int .i64 i), .c (.int .i64 doer)] (rdOs k r) (.c (.bool (countOne (clAt k i) r.steps doer (r.cnt i).2 (r.out i)).2)) (rdOs k (r.upOut i (countOne (clAt k i) r.steps doer (r.cnt i).2 (r.out i)).1)) := by
  refine DoesM.mk (fun _ => false) 100 TT_ok Try.func109 rfl (by kernel_rfl) Try.ntmps109 rfl rfl rfl fun E hT hE hN hR => ?_
  have hm : E.P.follows .mixedOrders = true := by rw [hE]; kernel_rfl
  have fix : k.clauses.getD (i : Int).toNat default = clAt k i := rfl
  have fix2 : r.out (i : Int).toNat = r.out i := rfl
  have fix3 : r.cnt (i : Int).toNat = r.cnt i := rfl
  (repeat (first | refine XK.norm rfl rfl ?_ | refine XK.rgnA hT rfl rfl rfl ?_ | refine XK.rgnB hT hm rfl rfl rfl ?_)); refine XK.cond rfl (fun h1 => ?_) (fun h1 => ?_)
  · rw [fix, fix2] at h1
    have hc : countOne (clAt k i) r.steps doer (r.cnt i).2 (r.out i) = (r.out i, false) := by
      simp only [Bool.and_eq_true, bne_iff_ne, ne_eq] at h1
      simp [countOne, h1]
    rw [hc]
    (repeat (first | refine XK.norm rfl rfl ?_ | refine XK.rgnA hT rfl rfl rfl ?_ | refine XK.rgnB hT hm rfl rfl rfl ?_))
    (first | refine XK.outR [0, 1, 2, 3, 4, 5] hN rfl rfl rfl ?_ rfl rfl ?_ | refine XK.outRN [0, 1, 2, 3, 4, 5] hN rfl rfl rfl ?_ rfl rfl ?_)
    · refine ⟨?_, ?_, ?_, ?_, ?_, ⟨rfl, rfl, rfl⟩, rfl, (by intro j hj; by_cases hji : j = (i); (· subst hji; simp [setRowF, setL, Rd.upOut, Rd.upCnt]); (· simp [setRowF, beq_false hji, Rd.upOut, Rd.upCnt, hji]))⟩
      all_goals (repeat' (first | exact rfl | exact AvIs.refl _ | exact trivial | exact fun _ _ => rfl | exact fun _ _ => ⟨rfl, AvIs.refl _⟩ | refine ⟨?_, ?_⟩))
    · exact AvIs.refl _
  · rw [fix, fix2] at h1
    have h1' : ¬ ((clAt k i).kind ≠ 4 ∧ (r.out i).bearer ≠ doer) := by
      intro h
      simp [h.1, h.2] at h1
    (repeat (first | refine XK.norm rfl rfl ?_ | refine XK.rgnA hT rfl rfl rfl ?_ | refine XK.rgnB hT hm rfl rfl rfl ?_)); refine XK.cond rfl (fun h2 => ?_) (fun h2 => ?_)
    · rw [fix] at h2
      have hk1 : (clAt k i).kind = 1 := by simpa using h2
      (repeat (first | refine XK.norm rfl rfl ?_ | refine XK.rgnA hT rfl rfl rfl ?_ | refine XK.rgnB hT hm rfl rfl rfl ?_))
      refine XK.weak (Weak.of (L := [(0, .ptr 0 0), (1, .c (.int .i64 i)), (2, .c (.int .i64 doer)), (7, .ptr 183 0)]) (O := (183, .cells 86 (clC (clAt k i))) :: rdN k (r.upOut i { r.out i with got := (r.out i).got + 1 })) (nx := 1000) (nt := 76) (md := fun _ => false) hN rfl rfl rfl (by (repeat' (first | exact rfl | exact AvIs.refl _ | exact trivial | exact fun _ _ => rfl | exact fun _ _ => ⟨rfl, AvIs.refl _⟩ | refine ⟨?_, ?_⟩)))
        (by (repeat' (first | exact rfl | exact AvIs.refl _ | exact trivial | exact fun _ _ => rfl | exact fun _ _ => ⟨rfl, AvIs.refl _⟩ | exact fun _ hi => absurd hi (Nat.not_lt_zero _) | (intro i hi; cases Nat.lt_one_iff.1 hi; rfl) | (intro j hj; by_cases hji : j = (i); (· subst hji; simp [setRowF, setL, Rd.upOut, Rd.upCnt]; done); (· simp [setRowF, beq_false hji, Rd.upOut, Rd.upCnt, hji, lt_succ_ne hji]; done)) | refine ⟨?_, ?_⟩)))) ?_
      have up : ((r.upOut i { r.out i with got := (r.out i).got + 1 }).out (i : Int).toNat).got = (r.out i).got + 1 := by simp [Rd.upOut]
      (repeat (first | refine XK.norm rfl rfl ?_ | refine XK.rgnA hT rfl rfl rfl ?_ | refine XK.rgnB hT hm rfl rfl rfl ?_)); refine XK.cond rfl (fun h3 => ?_) (fun h3 => ?_)
      · rw [up] at h3
        have hc : countOne (clAt k i) r.steps doer (r.cnt i).2 (r.out i) = ({ r.out i with got := (r.out i).got + 1 }, false) := by
          unfold countOne
          rw [if_neg h1', if_pos hk1, if_pos (by simpa using h3)]
        rw [hc]
        (repeat (first | refine XK.norm rfl rfl ?_ | refine XK.rgnA hT rfl rfl rfl ?_ | refine XK.rgnB hT hm rfl rfl rfl ?_))
        (first | refine XK.outR [0, 1, 2, 3, 4, 5] hN rfl rfl rfl ?_ rfl rfl ?_ | refine XK.outRN [0, 1, 2, 3, 4, 5] hN rfl rfl rfl ?_ rfl rfl ?_)
        · refine ⟨?_, ?_, ?_, ?_, ?_, ⟨rfl, rfl, rfl⟩, rfl, (by intro j hj; by_cases hji : j = (i); (· subst hji; simp [setRowF, setL, Rd.upOut, Rd.upCnt]); (· simp [setRowF, beq_false hji, Rd.upOut, Rd.upCnt, hji]))⟩
          all_goals (repeat' (first | exact rfl | exact AvIs.refl _ | exact trivial | exact fun _ _ => rfl | exact fun _ _ => ⟨rfl, AvIs.refl _⟩ | refine ⟨?_, ?_⟩))
        · exact AvIs.refl _
      · rw [up] at h3
        have hc : countOne (clAt k i) r.steps doer (r.cnt i).2 (r.out i) = ({ r.out i with got := (r.out i).got + 1, status := 3, to := r.steps }, true) := by
          unfold countOne
          rw [if_neg h1', if_pos hk1, if_neg (by simpa using h3)]
        rw [hc]
        (repeat (first | refine XK.norm rfl rfl ?_ | refine XK.rgnA hT rfl rfl rfl ?_ | refine XK.rgnB hT hm rfl rfl rfl ?_)); refine XK.region ?_; refine XL.goA hT rfl rfl rfl rfl ?_
        refine XL.callMA [0, 1, 2, 3, 4, 5] hE rfl rfl rfl rfl trivial (end_ok k (r.upOut i { r.out i with got := (r.out i).got + 1 }) i 3 hi) rfl rfl rfl rfl rfl ?_
        refine XL.goA hT rfl rfl rfl rfl ?_; refine XL.fin ?_; (repeat (first | refine XK.norm rfl rfl ?_ | refine XK.rgnA hT rfl rfl rfl ?_ | refine XK.rgnB hT hm rfl rfl rfl ?_))
        (first | refine XK.outR [0, 1, 2, 3, 4, 5] hN rfl rfl rfl ?_ rfl rfl ?_ | refine XK.outRN [0, 1, 2, 3, 4, 5] hN rfl rfl rfl ?_ rfl rfl ?_)
        · refine ⟨?_, ?_, ?_, ?_, ?_, ⟨rfl, rfl, rfl⟩, rfl, (by intro j hj; by_cases hji : j = (i); (· subst hji; simp [setRowF, setL, Rd.upOut, Rd.upCnt]); (· simp [setRowF, beq_false hji, Rd.upOut, Rd.upCnt, hji]))⟩
          all_goals (repeat' (first | exact rfl | exact AvIs.refl _ | exact trivial | exact fun _ _ => rfl | exact fun _ _ => ⟨rfl, AvIs.refl _⟩ | refine ⟨?_, ?_⟩))
        · exact AvIs.refl _
    · rw [fix] at h2
      have hk1 : ¬ (clAt k i).kind = 1 := by simpa using h2
      (repeat (first | refine XK.norm rfl rfl ?_ | refine XK.rgnA hT rfl rfl rfl ?_ | refine XK.rgnB hT hm rfl rfl rfl ?_)); refine XK.cond rfl (fun h3 => ?_) (fun h3 => ?_)
      · rw [fix] at h3
        have hk2 : (clAt k i).kind = 2 := by simpa using h3
        (repeat (first | refine XK.norm rfl rfl ?_ | refine XK.rgnA hT rfl rfl rfl ?_ | refine XK.rgnB hT hm rfl rfl rfl ?_)); refine XK.cond rfl (fun h4 => ?_) (fun h4 => ?_)
        · rw [fix3] at h4
          have hc : countOne (clAt k i) r.steps doer (r.cnt i).2 (r.out i) = (r.out i, false) := by
            unfold countOne
            rw [if_neg h1', if_neg hk1, if_pos hk2, if_pos h4]
          rw [hc]
          (repeat (first | refine XK.norm rfl rfl ?_ | refine XK.rgnA hT rfl rfl rfl ?_ | refine XK.rgnB hT hm rfl rfl rfl ?_))
          (first | refine XK.outR [0, 1, 2, 3, 4, 5] hN rfl rfl rfl ?_ rfl rfl ?_ | refine XK.outRN [0, 1, 2, 3, 4, 5] hN rfl rfl rfl ?_ rfl rfl ?_)
          · refine ⟨?_, ?_, ?_, ?_, ?_, ⟨rfl, rfl, rfl⟩, rfl, (by intro j hj; by_cases hji : j = (i); (· subst hji; simp [setRowF, setL, Rd.upOut, Rd.upCnt]); (· simp [setRowF, beq_false hji, Rd.upOut, Rd.upCnt, hji]))⟩
            all_goals (repeat' (first | exact rfl | exact AvIs.refl _ | exact trivial | exact fun _ _ => rfl | exact fun _ _ => ⟨rfl, AvIs.refl _⟩ | refine ⟨?_, ?_⟩))
          · exact AvIs.refl _
        · rw [fix3] at h4
          have hc : countOne (clAt k i) r.steps doer (r.cnt i).2 (r.out i) = ({ r.out i with status := 4, to := r.steps }, true) := by
            unfold countOne
            rw [if_neg h1', if_neg hk1, if_pos hk2, if_neg (by simp [h4])]
          rw [hc]
          (repeat (first | refine XK.norm rfl rfl ?_ | refine XK.rgnA hT rfl rfl rfl ?_ | refine XK.rgnB hT hm rfl rfl rfl ?_)); refine XK.region ?_; refine XL.goA hT rfl rfl rfl rfl ?_
          refine XL.callMA [0, 1, 2, 3, 4, 5] hE rfl rfl rfl rfl trivial (end_ok k r i 4 hi) rfl rfl rfl rfl rfl ?_
          refine XL.goA hT rfl rfl rfl rfl ?_; refine XL.fin ?_; (repeat (first | refine XK.norm rfl rfl ?_ | refine XK.rgnA hT rfl rfl rfl ?_ | refine XK.rgnB hT hm rfl rfl rfl ?_))
          (first | refine XK.outR [0, 1, 2, 3, 4, 5] hN rfl rfl rfl ?_ rfl rfl ?_ | refine XK.outRN [0, 1, 2, 3, 4, 5] hN rfl rfl rfl ?_ rfl rfl ?_)
          · refine ⟨?_, ?_, ?_, ?_, ?_, ⟨rfl, rfl, rfl⟩, rfl, (by intro j hj; by_cases hji : j = (i); (· subst hji; simp [setRowF, setL, Rd.upOut, Rd.upCnt]); (· simp [setRowF, beq_false hji, Rd.upOut, Rd.upCnt, hji]))⟩
            all_goals (repeat' (first | exact rfl | exact AvIs.refl _ | exact trivial | exact fun _ _ => rfl | exact fun _ _ => ⟨rfl, AvIs.refl _⟩ | refine ⟨?_, ?_⟩))
          · exact AvIs.refl _
      · rw [fix] at h3
        have hk2 : ¬ (clAt k i).kind = 2 := by simpa using h3
        have hc : countOne (clAt k i) r.steps doer (r.cnt i).2 (r.out i) = ({ r.out i with status := 3, to := r.steps }, true) := by
          unfold countOne
          rw [if_neg h1', if_neg hk1, if_neg hk2]
        rw [hc]
        (repeat (first | refine XK.norm rfl rfl ?_ | refine XK.rgnA hT rfl rfl rfl ?_ | refine XK.rgnB hT hm rfl rfl rfl ?_)); refine XK.region ?_; refine XL.goA hT rfl rfl rfl rfl ?_
        refine XL.callMA [0, 1, 2, 3, 4, 5] hE rfl rfl rfl rfl trivial (end_ok k r i 3 hi) rfl rfl rfl rfl rfl ?_
        refine XL.goA hT rfl rfl rfl rfl ?_; refine XL.fin ?_; (repeat (first | refine XK.norm rfl rfl ?_ | refine XK.rgnA hT rfl rfl rfl ?_ | refine XK.rgnB hT hm rfl rfl rfl ?_))
        (first | refine XK.outR [0, 1, 2, 3, 4, 5] hN rfl rfl rfl ?_ rfl rfl ?_ | refine XK.outRN [0, 1, 2, 3, 4, 5] hN rfl rfl rfl ?_ rfl rfl ?_)
        · refine ⟨?_, ?_, ?_, ?_, ?_, ⟨rfl, rfl, rfl⟩, rfl, (by intro j hj; by_cases hji : j = (i); (· subst hji; simp [setRowF, setL, Rd.upOut, Rd.upCnt]); (· simp [setRowF, beq_false hji, Rd.upOut, Rd.upCnt, hji]))⟩
          all_goals (repeat' (first | exact rfl | exact AvIs.refl _ | exact trivial | exact fun _ _ => rfl | exact fun _ _ => ⟨rfl, AvIs.refl _⟩ | refine ⟨?_, ?_⟩))
        · exact AvIs.refl _
end Go.Proofs.Ytiiegpjpckkohaa
end
