import Derived.Test.YtofdehlikigonaaGreatH1
section
/- Contracts: package migrate: copies of states. -/
namespace Go.Proofs.YtofdehlikigonaaGreat
open Go.Eng
set_option maxRecDepth 10000
set_option linter.unusedSimpArgs false
set_option linter.unusedVariables false
def hRow (l : List Int) : Ob := .vec 3 1 0 l.length (fun i => [.c (.int .i64 (l.getD i default))])
def bRow (l : List Bool) : Ob := .vec 4 1 0 l.length (fun i => [.c (.bool (l.getD i default))])
def padM (l : List Mk) (i : Nat) : Mk := if i < l.length then l.getD i default else idleMk
theorem pad_row (l : List Mk) (q : Nat) (hq : l.length ≤ q) (i : Nat) : mkC (if i < q + 1 then padM l i else default) = setRowF (fun i => mkC (if i < q then padM l i else default)) q 0 (mkC idleMk) i := by
  unfold setRowF
  by_cases h : i = q
  · subst h
    rw [show Nat.beq i i = true by simp, if_pos (Nat.lt_succ_self i), padM, if_neg (by omega)]
    rfl
  · rw [beq_false h]
    by_cases h2 : i < q
    · rw [if_pos (by omega)]; show _ = mkC (if i < q then _ else _); rw [if_pos h2]
    · rw [if_neg (by omega)]; show _ = mkC (if i < q then _ else _); rw [if_neg h2]
theorem copiedState_ok (s : St) (n : Nat) (hn : s.marks.length ≤ n) (hn2 : n ≤ 1000000) (h1 : s.holders.length ≤ 1000000) (h2 : s.used.length ≤ 1000000) :
    DoesM Tryz.prog 44 [stV s, .c (.int .i64 n)] [] (.agg [.c (.int .i64 s.day), .vec 0 0, .vec 1 0, .vec 2 0]) [hRow s.holders, bRow s.used, mRow n (padM s.marks), .cells 38 [.c (.int .i64 s.day), .vec 0 0, .vec 1 0, .vec 2 0]] := by
  refine DoesM.mk (fun d => Nat.beq d 13 || Nat.beq d 23 || Nat.beq d 31) 100 TT_ok Tryz.func44 rfl (by kernel_rfl) Tryz.ntmps44 rfl rfl rfl fun E hT hE hN hR => ?_
  have hm : E.P.follows .mixedOrders = true := by rw [hE]; kernel_rfl
  (repeat (first | refine XK.norm rfl rfl ?_ | refine XK.rgnA hT rfl rfl rfl ?_ | refine XK.rgnB hT hm rfl rfl rfl ?_))
  refine XK.weak (st' := ST.of [(1, .c (.int .i64 n)), (4, .ptr 104 0), (5, .ptr 154 0), (6, .c (.int .i64 s.marks.length))]
    [(104, .cells 38 [.c (.int .i64 0), .c (.slice none 0 0), .c (.slice none 0 0), .c (.slice none 0 0)]), (154, .cells 38 [.c (.int .i64 s.day), .vec 211 0, .vec 319 0, .vec 425 0]), (211, hRow s.holders), (319, bRow s.used), (425, mRow n (fun i => if i < s.marks.length then s.marks.getD i default else default))] 1000 49 (fun d => Nat.beq d 13 || Nat.beq d 23 || Nat.beq d 31))
    (Weak.of hN rfl rfl rfl (by (repeat' (first | exact rfl | exact AvIs.refl _ | exact trivial | exact fun _ _ => rfl | exact fun _ _ => ⟨rfl, AvIs.refl _⟩ | refine ⟨?_, ?_⟩))) ⟨by (repeat' (first | exact rfl | exact AvIs.refl _ | exact trivial | exact fun _ _ => rfl | exact fun _ _ => ⟨rfl, AvIs.refl _⟩ | refine ⟨?_, ?_⟩)), by (repeat' (first | exact rfl | exact AvIs.refl _ | exact trivial | exact fun _ _ => rfl | exact fun _ _ => ⟨rfl, AvIs.refl _⟩ | refine ⟨?_, ?_⟩)), ⟨⟨rfl, rfl, rfl⟩, rfl, fun i hi => ?x1⟩, ⟨⟨rfl, rfl, rfl⟩, rfl, fun i hi => ?x2⟩, ⟨⟨rfl, rfl, rfl⟩, rfl, fun i hi => ?x3⟩⟩) ?_
  · exact (cpF_lt (m := s.holders.length) (f := fun i => [.c (.int .i64 (s.holders.getD i default))]) hi).symm
  · exact (cpF_lt (m := s.used.length) (f := fun i => [.c (.bool (s.used.getD i default))]) hi).symm
  · by_cases h : i < s.marks.length
    · have := cpF_lt (m := s.marks.length) (f := fun i => mkC (s.marks.getD i default)) (f0 := fun x => List.map AV.c ty47e.zero) h
      exact (this.trans (by show mkC _ = mkC (if i < s.marks.length then _ else _); rw [if_pos h])).symm
    · have := cpF_ge (m := s.marks.length) (f := fun i => mkC (s.marks.getD i default)) (f0 := fun x => List.map AV.c ty47e.zero) h
      exact (this.trans (by show _ = mkC (if i < s.marks.length then _ else _); rw [if_neg h]; rfl)).symm
  have hl := idleM_ok
  refine XK.loop (ι := Nat) (fun q => ST.of [(1, .c (.int .i64 n)), (4, .ptr 104 0), (5, .ptr 154 0), (6, .c (.int .i64 q))]
    [(104, .cells 38 [.c (.int .i64 0), .c (.slice none 0 0), .c (.slice none 0 0), .c (.slice none 0 0)]), (154, .cells 38 [.c (.int .i64 s.day), .vec 211 0, .vec 319 0, .vec 425 0]), (211, hRow s.holders), (319, bRow s.used), (425, mRow n (fun i => if i < q then padM s.marks i else default))] 2000 49 (fun d => Nat.beq d 13 || Nat.beq d 23 || Nat.beq d 31))
    (fun q => s.marks.length ≤ q ∧ q ≤ n) (fun q => n - q) s.marks.length ⟨Nat.le_refl _, hn⟩
    (Weak.of hN rfl rfl rfl (by (repeat' (first | exact rfl | exact AvIs.refl _ | exact trivial | exact fun _ _ => rfl | exact fun _ _ => ⟨rfl, AvIs.refl _⟩ | refine ⟨?_, ?_⟩))) ⟨by (repeat' (first | exact rfl | exact AvIs.refl _ | exact trivial | exact fun _ _ => rfl | exact fun _ _ => ⟨rfl, AvIs.refl _⟩ | refine ⟨?_, ?_⟩)), by (repeat' (first | exact rfl | exact AvIs.refl _ | exact trivial | exact fun _ _ => rfl | exact fun _ _ => ⟨rfl, AvIs.refl _⟩ | refine ⟨?_, ?_⟩)), by (repeat' (first | exact rfl | exact AvIs.refl _ | exact trivial | exact fun _ _ => rfl | exact fun _ _ => ⟨rfl, AvIs.refl _⟩ | refine ⟨?_, ?_⟩)), by (repeat' (first | exact rfl | exact AvIs.refl _ | exact trivial | exact fun _ _ => rfl | exact fun _ _ => ⟨rfl, AvIs.refl _⟩ | refine ⟨?_, ?_⟩)), ⟨rfl, rfl, rfl⟩, rfl, fun i hi => congrArg mkC (by
      by_cases h : i < s.marks.length
      · show (if i < s.marks.length then _ else _) = (if i < s.marks.length then _ else _)
        rw [if_pos h, if_pos h, padM, if_pos h]
      · show (if i < s.marks.length then _ else _) = (if i < s.marks.length then _ else _)
        rw [if_neg h, if_neg h])⟩) fun q hq => ?_
  obtain ⟨hq0, hq⟩ := hq
  (repeat (first | refine XK.norm rfl rfl ?_ | refine XK.rgnA hT rfl rfl rfl ?_ | refine XK.rgnB hT hm rfl rfl rfl ?_)); refine XK.cond rfl (fun hlt => ?_) (fun hlt => ?_) <;> (try simp at hlt)
  · (repeat (first | refine XK.norm rfl rfl ?_ | refine XK.rgnA hT rfl rfl rfl ?_ | refine XK.rgnB hT hm rfl rfl rfl ?_)); refine XK.drawn hm ?_; refine XD.goA hT rfl rfl rfl rfl ?_
    refine XD.callLA hE rfl rfl rfl rfl trivial rfl (hl) rfl ?_
    refine XD.goA hT rfl rfl rfl rfl ?_; refine XD.fin (by kernel_rfl) ?_; (repeat (first | refine XK.norm rfl rfl ?_ | refine XK.rgnA hT rfl rfl rfl ?_ | refine XK.rgnB hT hm rfl rfl rfl ?_))
    exact XK.inv ⟨q + 1, ⟨by omega, hlt⟩, Weak.of hN rfl rfl rfl (by (repeat' (first | exact rfl | exact AvIs.refl _ | exact trivial | exact fun _ _ => rfl | exact fun _ _ => ⟨rfl, AvIs.refl _⟩ | refine ⟨?_, ?_⟩))) ⟨by (repeat' (first | exact rfl | exact AvIs.refl _ | exact trivial | exact fun _ _ => rfl | exact fun _ _ => ⟨rfl, AvIs.refl _⟩ | refine ⟨?_, ?_⟩)), by (repeat' (first | exact rfl | exact AvIs.refl _ | exact trivial | exact fun _ _ => rfl | exact fun _ _ => ⟨rfl, AvIs.refl _⟩ | refine ⟨?_, ?_⟩)), by (repeat' (first | exact rfl | exact AvIs.refl _ | exact trivial | exact fun _ _ => rfl | exact fun _ _ => ⟨rfl, AvIs.refl _⟩ | refine ⟨?_, ?_⟩)), by (repeat' (first | exact rfl | exact AvIs.refl _ | exact trivial | exact fun _ _ => rfl | exact fun _ _ => ⟨rfl, AvIs.refl _⟩ | refine ⟨?_, ?_⟩)), ⟨rfl, rfl, rfl⟩, rfl, fun i hi => pad_row s.marks q hq0 i⟩, by omega⟩
  · have hqn : q = n := by omega
    subst hqn
    (repeat (first | refine XK.norm rfl rfl ?_ | refine XK.rgnA hT rfl rfl rfl ?_ | refine XK.rgnB hT hm rfl rfl rfl ?_))
    (first | refine XK.outR [211, 319, 425, 104] hN rfl rfl rfl ?_ rfl rfl ?_ | refine XK.outRN [211, 319, 425, 104] hN rfl rfl rfl ?_ rfl rfl ?_)
    · exact ⟨by (repeat' (first | exact rfl | exact AvIs.refl _ | exact trivial | exact fun _ _ => rfl | exact fun _ _ => ⟨rfl, AvIs.refl _⟩ | refine ⟨?_, ?_⟩)), by (repeat' (first | exact rfl | exact AvIs.refl _ | exact trivial | exact fun _ _ => rfl | exact fun _ _ => ⟨rfl, AvIs.refl _⟩ | refine ⟨?_, ?_⟩)), ⟨⟨rfl, rfl, rfl⟩, rfl, fun i hi => congrArg mkC (by show padM s.marks i = (if i < q then _ else _); rw [if_pos hi])⟩, by (repeat' (first | exact rfl | exact AvIs.refl _ | exact trivial | exact fun _ _ => rfl | exact fun _ _ => ⟨rfl, AvIs.refl _⟩ | refine ⟨?_, ?_⟩))⟩
    · (repeat' (first | exact rfl | exact AvIs.refl _ | exact trivial | exact fun _ _ => rfl | exact fun _ _ => ⟨rfl, AvIs.refl _⟩ | refine ⟨?_, ?_⟩))
end Go.Proofs.YtofdehlikigonaaGreat
end
section
/- Contracts: package migrate: what a patch does to marks; migrated. -/
namespace Go.Proofs.YtofdehlikigonaaGreat
open Go.Eng
set_option maxRecDepth 10000
set_option linter.unusedSimpArgs false
set_option linter.unusedVariables false
/-- What a patch does to the mark of a clause. -/
def chgM (k : K) (p : Pt) (hold : List Int) (x : Nat) (m : Mk) : Mk :=
  if p.kind = 5 then spanM p.days (clAt k x) m else if p.kind = 2 then replM p.new (clAt k x) m hold else if p.kind = 1 then addM p.new m else voidM m
def chgV (k : K) (p : Pt) (hold : List Int) : AV :=
  if p.kind = 5 then .fn (.func 65) [] [.rptr (ptC p), .rptr (kC k)]
  else if p.kind = 2 then .fn (.func 66) [] [.rptr (ptC p), .rptr (kC k), .rptr [intsV hold]]
  else if p.kind = 1 then .fn (.func 71) [] [.rptr (ptC p)]
  else .fn (.func 72) [] []
theorem change_ok (k : K) (p : Pt) (hold : List Int) : Does Tryz.prog 45 [kV k, ptV p, intsV hold] (chgV k p hold) := by
  refine Does.mk (fun _ => false) TT_ok Tryz.func45 rfl (by kernel_rfl) Tryz.ntmps45 rfl rfl fun E hT hE hN hR => ?_
  have hm : E.P.follows .mixedOrders = true := by rw [hE]; kernel_rfl
  (repeat (first | refine XK.norm rfl rfl ?_ | refine XK.rgnA hT rfl rfl rfl ?_ | refine XK.rgnB hT hm rfl rfl rfl ?_)); refine XK.cond rfl (fun h1 => ?_) (fun h1 => ?_) <;> (try simp at h1)
  · rw [chgV, if_pos h1]
    (repeat (first | refine XK.norm rfl rfl ?_ | refine XK.rgnA hT rfl rfl rfl ?_ | refine XK.rgnB hT hm rfl rfl rfl ?_))
    refine XK.weak (Weak.trans (Weak.frozenC (k := 3) hN rfl rfl rfl) (Weak.frozenC (k := 4) hN rfl rfl rfl)) ?_
    (first | refine XK.out rfl rfl rfl ?_ | refine XK.outN rfl rfl rfl ?_)
    rfl
  (repeat (first | refine XK.norm rfl rfl ?_ | refine XK.rgnA hT rfl rfl rfl ?_ | refine XK.rgnB hT hm rfl rfl rfl ?_)); refine XK.cond rfl (fun h2 => ?_) (fun h2 => ?_) <;> (try simp at h2)
  · rw [chgV, if_neg h1, if_pos h2]
    (repeat (first | refine XK.norm rfl rfl ?_ | refine XK.rgnA hT rfl rfl rfl ?_ | refine XK.rgnB hT hm rfl rfl rfl ?_))
    refine XK.weak (Weak.trans (Weak.frozenC (k := 3) hN rfl rfl rfl) (Weak.trans (Weak.frozenC (k := 4) hN rfl rfl rfl) (Weak.frozenC (k := 5) hN rfl rfl rfl))) ?_
    (first | refine XK.out rfl rfl rfl ?_ | refine XK.outN rfl rfl rfl ?_)
    rfl
  (repeat (first | refine XK.norm rfl rfl ?_ | refine XK.rgnA hT rfl rfl rfl ?_ | refine XK.rgnB hT hm rfl rfl rfl ?_)); refine XK.cond rfl (fun h3 => ?_) (fun h3 => ?_) <;> (try simp at h3)
  · rw [chgV, if_neg h1, if_neg h2, if_pos h3]
    (repeat (first | refine XK.norm rfl rfl ?_ | refine XK.rgnA hT rfl rfl rfl ?_ | refine XK.rgnB hT hm rfl rfl rfl ?_))
    refine XK.weak (Weak.frozenC (k := 4) hN rfl rfl rfl) ?_
    (first | refine XK.out rfl rfl rfl ?_ | refine XK.outN rfl rfl rfl ?_)
    rfl
  · rw [chgV, if_neg h1, if_neg h2, if_neg h3]
    (repeat (first | refine XK.norm rfl rfl ?_ | refine XK.rgnA hT rfl rfl rfl ?_ | refine XK.rgnB hT hm rfl rfl rfl ?_))
    (first | refine XK.out rfl rfl rfl ?_ | refine XK.outN rfl rfl rfl ?_)
    rfl
end Go.Proofs.YtofdehlikigonaaGreat
end
section
/- A state carried over: plain facts. -/
namespace Go.Proofs.YtofdehlikigonaaGreat
open Go.Eng
set_option maxRecDepth 10000
set_option linter.unusedSimpArgs false
set_option linter.unusedVariables false
theorem incB_last {n : Int} : ∀ {l : List Int} {last : Int}, incB n last l = true → ∀ i, i < l.length → last < l.getD i default
  | [], _, _, i, hi => absurd hi (Nat.not_lt_zero _)
  | x :: l, last, h, i, hi => by
    simp only [incB, Bool.and_eq_true, decide_eq_true_eq] at h
    cases i with
    | zero => exact h.1.1
    | succ i => have := incB_last h.2 i (by simpa using hi); exact Int.lt_trans h.1.1 this
theorem incB_lt {n : Int} : ∀ {l : List Int} {last : Int}, incB n last l = true → ∀ i j, i < j → j < l.length → l.getD i default < l.getD j default
  | [], _, _, _, j, _, hj => absurd hj (Nat.not_lt_zero _)
  | x :: l, last, h, i, j, hij, hj => by
    simp only [incB, Bool.and_eq_true, decide_eq_true_eq] at h
    cases j with
    | zero => omega
    | succ j =>
      cases i with
      | zero => exact incB_last h.2 j (by simpa using hj)
      | succ i => exact incB_lt h.2 i j (by omega) (by simpa using hj)
/-- The clauses whose marks a patch changes. -/
def listP (k : K) (p : Pt) : List Int := if p.kind = 1 then [(k.clauses.length : Int)] else p.clauses
def mkTo (k : K) (p : Pt) (hold : List Int) (m0 : Nat → Mk) (L : List Int) : Nat → Nat → Mk
  | 0 => m0
  | i + 1 => fun j => if j = (L.getD i default).toNat then chgM k p hold (L.getD i default).toNat (mkTo k p hold m0 L i (L.getD i default).toNat) else mkTo k p hold m0 L i j
theorem mkTo_keep {k : K} {p : Pt} {hold : List Int} {m0 : Nat → Mk} {L : List Int} {j : Nat} : ∀ {i : Nat}, (∀ q, q < i → (L.getD q default).toNat ≠ j) → mkTo k p hold m0 L i j = m0 j
  | 0, _ => rfl
  | i + 1, h => by
    show (if j = (L.getD i default).toNat then _ else _) = _
    rw [if_neg fun e => h i (Nat.lt_succ_self i) e.symm]
    exact mkTo_keep fun q hq => h q (by omega)
structure LOk (n : Nat) (L : List Int) : Prop where
  rng : ∀ i, i < L.length → 0 ≤ L.getD i default ∧ L.getD i default < n
  lt : ∀ i j, i < j → j < L.length → L.getD i default < L.getD j default
theorem LOk.at {k : K} {p : Pt} {hold : List Int} {m0 : Nat → Mk} {n : Nat} {L : List Int} (h : LOk n L) {i : Nat} (hi : i < L.length) : mkTo k p hold m0 L i (L.getD i default).toNat = m0 (L.getD i default).toNat :=
  mkTo_keep fun q hq e => by
    have h1 := h.lt q i hq hi
    have h2 := (h.rng q (by omega)).1
    have h3 := (h.rng i hi).1
    omega
theorem LOk.in {k : K} {p : Pt} {hold : List Int} {m0 : Nat → Mk} {n : Nat} {L : List Int} (h : LOk n L) {i : Nat} (hi : i < L.length) : mkTo k p hold m0 L L.length (L.getD i default).toNat = chgM k p hold (L.getD i default).toNat (m0 (L.getD i default).toNat) := by
  have : ∀ m, i < m → m ≤ L.length → mkTo k p hold m0 L m (L.getD i default).toNat = chgM k p hold (L.getD i default).toNat (m0 (L.getD i default).toNat) := fun m => by
    induction m with
    | zero => intro h1; omega
    | succ m ih =>
      intro h1 h2
      show (if (L.getD i default).toNat = (L.getD m default).toNat then _ else _) = _
      by_cases e : i = m
      · subst e
        rw [if_pos rfl, h.at hi]
      · have h3 := h.lt i m (by omega) (by omega)
        have h4 := (h.rng i hi).1
        rw [if_neg (by omega)]
        exact ih (by omega) (by omega)
  exact this L.length hi (Nat.le_refl _)
theorem markB_left {k : K} (hk : KFacts k) {i : Nat} (hi : i < k.clauses.length) {m : Mk} (h : markB k i m = true) : lB m := by
  have hc := hk.clB hi
  have hg := kindW hc.2.2.1
  unfold markB at h
  unfold lB
  split at h
  · simp only [idleB, Bool.and_eq_true, beq_iff_eq] at h
    omega
  · have hrun : runB k (clAt k i) m = true → 1 ≤ m.left := fun h => by
      unfold runB at h
      split at h
      · cases h
      · rename_i h2
        simp only [Bool.or_eq_true, decide_eq_true_eq, not_or] at h2
        omega
    split at h
    · simp only [Bool.and_eq_true, decide_eq_true_eq] at h
      have := hrun h.2
      omega
    · split at h
      · simp only [Bool.and_eq_true, decide_eq_true_eq] at h
        have := hrun h.2
        rcases hg with hg | hg <;> omega
      · split at h
        · simp only [endB, Bool.and_eq_true, beq_iff_eq] at h
          omega
        · cases h
theorem dB_of {k : K} (hk : KFacts k) {i : Nat} (hi : i < k.clauses.length) : dB (clAt k i) := by
  have hc := hk.clB hi
  have hg := kindW hc.2.2.1
  unfold dB
  rcases hg with hg | hg <;> omega
/-- What is known of a patch that can be applied. -/
structure PFacts (k : K) (p : Pt) : Prop where
  kk : KFacts k
  kn : KFacts (applyR k p).1
  eq : (applyR k p).1 = { k with clauses := doP k.clauses p }
  kind : p.kind = 1 ∨ p.kind = 2 ∨ p.kind = 3 ∨ p.kind = 4 ∨ p.kind = 5
  len : (applyR k p).1.clauses.length = if p.kind = 1 then k.clauses.length + 1 else k.clauses.length
  lok : LOk (applyR k p).1.clauses.length (listP k p)
  old : p.kind ≠ 1 → ∀ i, i < (listP k p).length → ((listP k p).getD i default).toNat < k.clauses.length
  days : p.kind = 5 → 1 ≤ p.days ∧ p.days ≤ 400
  one : p.kind = 2 → ∃ x, p.clauses = [x] ∧ 0 ≤ x ∧ x.toNat < k.clauses.length ∧ clAt (applyR k p).1 x.toNat = p.new
  add : p.kind = 1 → p.clauses = [] ∧ clAt (applyR k p).1 k.clauses.length = p.new
theorem waiveL_len (cs : List Cl) (l : List Int) : (waiveL cs l).length = cs.length := by
  unfold waiveL
  induction l generalizing cs with
  | nil => rfl
  | cons a l ih => rw [List.foldl_cons, ih, List.length_set]
theorem spanL_len (d : Int) (cs : List Cl) (l : List Int) : (spanL d cs l).length = cs.length := by
  unfold spanL
  induction l generalizing cs with
  | nil => rfl
  | cons a l ih => rw [List.foldl_cons, ih, List.length_set]
theorem patch_facts {k : K} {p : Pt} (hk : kW k) (hp : ptW p) (h : (applyR k p).2 = 0) : PFacts k p := by
  rcases applyR_cases k p with ⟨h2, _⟩ | ⟨_, hv, he, hv2, e, hef, hft⟩
  · exact absurd h h2
  have hkk := (show kOk k from ⟨hk, hv⟩).facts
  have hkn := (show kOk (applyR k p).1 from ⟨applyR_W hk hp, hv2⟩).facts
  obtain ⟨⟨f1, f2⟩, f3⟩ := fits_facts hft
  have hdays : (if e.spanned then decide (1 ≤ p.days) && decide (p.days ≤ 400) else p.days == 0) = true := by
    unfold fitsB at hft
    simp only [Bool.and_eq_true] at hft
    exact hft.2
  have hkind : p.kind = 1 ∨ p.kind = 2 ∨ p.kind = 3 ∨ p.kind = 4 ∨ p.kind = 5 := by
    unfold efOf at hef
    repeat (split at hef; · omega)
    cases hef
  have hlen : (applyR k p).1.clauses.length = if p.kind = 1 then k.clauses.length + 1 else k.clauses.length := by
    rw [he]
    show (doP k.clauses p).length = _
    unfold doP
    split
    · simp
    · split
      · simp
      · split
        · rw [spanL_len]
        · rw [waiveL_len]
  refine ⟨hkk, hkn, he, hkind, hlen, ?_, ?_, ?_, ?_, ?_⟩
  · unfold listP
    by_cases h1 : p.kind = 1
    · rw [if_pos h1] at hlen ⊢
      rw [hlen]
      refine ⟨fun i hi => ?_, fun i j hij hj => ?_⟩
      · have : i = 0 := by simp at hi; exact hi
        subst this
        show 0 ≤ (k.clauses.length : Int) ∧ (k.clauses.length : Int) < _
        omega
      · simp at hj; omega
    · rw [if_neg h1] at hlen ⊢
      rw [hlen]
      exact ⟨fun i hi => incB_idx (by omega) f3 i hi, incB_lt f3⟩
  · intro h1 i hi
    unfold listP at hi ⊢
    rw [if_neg h1] at hi ⊢
    have := incB_idx (by omega) f3 i hi
    omega
  · intro h1
    unfold efOf at hef
    rw [h1] at hef
    simp at hef
    rw [← hef] at hdays
    simpa using hdays
  · intro h1
    unfold efOf at hef
    rw [h1] at hef
    simp at hef
    rw [← hef] at f1 f2
    dsimp only at f1 f2
    have hl1 : p.clauses.length = 1 := by omega
    obtain ⟨x, hx⟩ := List.length_eq_one_iff.1 hl1
    have hr := incB_idx (by omega) f3 0 (by omega)
    rw [hx] at hr
    have hr : 0 ≤ x ∧ x < k.clauses.length := hr
    refine ⟨x, hx, hr.1, by omega, ?_⟩
    have hxl : x.toNat < k.clauses.length := by omega
    rw [he]
    show (doP k.clauses p).getD x.toNat default = _
    unfold doP
    rw [if_neg (by omega), if_pos h1, hx]
    show (k.clauses.set x.toNat p.new).getD x.toNat default = _
    simp [List.getD, hxl]
  · intro h1
    unfold efOf at hef
    rw [h1] at hef
    simp at hef
    rw [← hef] at f2
    dsimp only at f2
    refine ⟨List.length_eq_zero_iff.1 (by omega), ?_⟩
    rw [he]
    show (doP k.clauses p).getD k.clauses.length default = _
    unfold doP
    rw [if_pos h1]
    simp [List.getD]
end Go.Proofs.YtofdehlikigonaaGreat
end
