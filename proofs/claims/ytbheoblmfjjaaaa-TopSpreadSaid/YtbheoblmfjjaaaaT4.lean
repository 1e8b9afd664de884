import Derived.Test.YtbheoblmfjjaaaaT3
section
/- Portfolios: what Valid, isParty, validDebts and laterDue compute; ratio.Div. -/
namespace Go.Proofs.Ytbheoblmfjjaaaa
open Go.Eng
set_option maxRecDepth 10000
set_option linter.unusedSimpArgs false
set_option linter.unusedVariables false
structure Gu where
  for_ : Int
  by_ : Int
  to : Int
deriving Inhabited
structure Tr where
  party : Int
  debtor : Int
deriving Inhabited
structure Pf where
  parties : Int
  assets : List Q
  due : List Db
  later : List Db
  gs : List Gu
  ts : List Tr
def guC (g : Gu) : List AV := [.c (.int .i64 g.for_), .c (.int .i64 g.by_), .c (.int .i64 g.to)]
def trC (t : Tr) : List AV := [.c (.int .i64 t.party), .c (.int .i64 t.debtor)]
def dbsL (l : List Db) : AV := .rs 4 l.length (fun i => dbC (l.getD i default))
def ratsL (l : List Q) : AV := .rs 2 l.length (fun i => qc (l.getD i default))
def gusL (l : List Gu) : AV := .rs 3 l.length (fun i => guC (l.getD i default))
def trsL (l : List Tr) : AV := .rs 2 l.length (fun i => trC (l.getD i default))
def pfC (p : Pf) : List AV := [.c (.int .i64 p.parties), ratsL p.assets, dbsL p.due, dbsL p.later, gusL p.gs, trsL p.ts]
def pfV (p : Pf) : AV := .agg [.c (.int .i64 p.parties), ratsL p.assets, dbsL p.due, dbsL p.later, gusL p.gs, trsL p.ts]
structure pfW (p : Pf) : Prop where
  parties : inK .i64 p.parties
  assets : ∀ i, i < p.assets.length → qW (p.assets.getD i default)
  due : ∀ i, i < p.due.length → dbW (p.due.getD i default)
  later : ∀ i, i < p.later.length → dbW (p.later.getD i default)
def isPB (P x : Int) : Bool := decide (0 ≤ x) && decide (x < P)
def guB (P : Int) (g : Gu) : Bool := isPB P g.for_ && isPB P g.by_ && isPB P g.to && !(g.by_ == g.for_ || g.by_ == g.to || g.for_ == g.to)
def trB (P : Int) (t : Tr) : Bool := isPB P t.party && isPB P t.debtor && !(t.party == t.debtor)
def asB (a : Q) : Bool := qOk a && decide (0 ≤ a.1)
def allB {α} [Inhabited α] (f : α → Bool) (l : List α) : Bool := (List.range l.length).all (fun i => f (l.getD i default))
theorem allB_iff {α} [Inhabited α] {f : α → Bool} {l : List α} : allB f l = true ↔ ∀ i, i < l.length → f (l.getD i default) = true := by
  simp [allB, List.all_eq_true, List.mem_range]
theorem allB_no {α} [Inhabited α] {f : α → Bool} {l : List α} {i : Nat} (hi : i < l.length) (h : f (l.getD i default) = false) : allB f l = false := by
  rw [Bool.eq_false_iff]
  intro hh
  rw [allB_iff.1 hh i hi] at h
  cases h
def validP (p : Pf) : Bool := !(decide (p.parties < 1) || decide (12 < p.parties) || (p.assets.length : Int) != p.parties) && (!(decide ((400 : Int) < p.due.length) || decide ((400 : Int) < p.later.length)) && (!(decide ((400 : Int) < p.gs.length) || decide ((400 : Int) < p.ts.length)) &&
  (allB asB p.assets && ((allB (dbB p.parties) p.due && allB (dbB p.parties) p.later) && (allB (guB p.parties) p.gs && allB (trB p.parties) p.ts)))))
theorem isParty_ok (p : Pf) (x : Int) : Does Try.prog 47 [pfV p, .c (.int .i64 x)] (.c (.bool (isPB p.parties x))) := by
  refine Does.mk (fun _ => false) TT_ok Try.func47 rfl (by kernel_rfl) Try.ntmps47 rfl rfl fun E hT hE hN hR => ?_
  have hm : E.P.follows .mixedOrders = true := by rw [hE]; kernel_rfl
  (repeat (first | refine XK.norm rfl rfl ?_ | refine XK.rgnA hT rfl rfl rfl ?_ | refine XK.rgnB hT hm rfl rfl rfl ?_))
  (first | refine XK.out rfl rfl rfl ?_ | refine XK.outN rfl rfl rfl ?_)
  rfl
theorem validDebts_ok (p : Pf) (l : List Db) (hl : ∀ i, i < l.length → dbW (l.getD i default)) : Does Try.prog 46 [pfV p, dbsL l] (.c (.bool (allB (dbB p.parties) l))) := by
  refine Does.mk (fun _ => false) TT_ok Try.func46 rfl (by kernel_rfl) Try.ntmps46 rfl rfl fun E hT hE hN hR => ?_
  have hm : E.P.follows .mixedOrders = true := by rw [hE]; kernel_rfl
  refine XK.fact (Sat.rs_len (j := 1) rfl) fun hlen => ?_
  have hm' := hlen.1
  (repeat (first | refine XK.norm rfl rfl ?_ | refine XK.rgnA hT rfl rfl rfl ?_ | refine XK.rgnB hT hm rfl rfl rfl ?_))
  refine XK.loop (ι := Nat) (fun i => ST.of [(2, .ptr 2 0), (7, dbsL l), (8, .c (.int .i64 l.length)), (9, .c (.int .i64 i))] [(2, .cells 27 (pfC p))] 1000 43 (fun _ => false))
    (fun i => i ≤ l.length ∧ ∀ j, j < i → dbB p.parties (l.getD j default) = true) (fun i => l.length - i) 0 ⟨Nat.zero_le _, fun j hj => absurd hj (Nat.not_lt_zero _)⟩ (Weak.of hN rfl rfl rfl (by (repeat' (first | exact rfl | exact AvIs.refl _ | exact trivial | exact fun _ _ => rfl | exact fun _ _ => ⟨rfl, AvIs.refl _⟩ | refine ⟨?_, ?_⟩))) (by (repeat' (first | exact rfl | exact AvIs.refl _ | exact trivial | exact fun _ _ => rfl | exact fun _ _ => ⟨rfl, AvIs.refl _⟩ | refine ⟨?_, ?_⟩)))) fun i hi => ?_
  obtain ⟨hi1, hi2⟩ := hi
  (repeat (first | refine XK.norm rfl rfl ?_ | refine XK.rgnA hT rfl rfl rfl ?_ | refine XK.rgnB hT hm rfl rfl rfl ?_)); refine XK.cond rfl (fun hlt => ?_) (fun hlt => ?_) <;> (try simp at hlt)
  · have hno := fun h => allB_no (f := dbB p.parties) (l := l) hlt h
    have fi : l.getD (i : Int).toNat default = l.getD i default := rfl
    have hw := hl i hlt
    have hst : dbB p.parties (l.getD i default) = true → ∀ j, j < i + 1 → dbB p.parties (l.getD j default) = true := fun h j hj => by
      by_cases hji : j = i
      · subst hji; exact h
      · exact hi2 j (by omega)
    generalize hd : l.getD i default = d at *
    have i1 := isParty_ok p d.from_
    have i2 := isParty_ok p d.to
    have hdb : dbB p.parties d = (!(!isPB p.parties d.from_ || !isPB p.parties d.to || d.from_ == d.to) && (qOk d.amt && decide (0 < d.amt.1))) := by
      rw [Bool.eq_iff_iff]
      simp [dbB, isPB]
      omega
    (repeat (first | refine XK.norm rfl rfl ?_ | refine XK.rgnA hT rfl rfl rfl ?_ | refine XK.rgnB hT hm rfl rfl rfl ?_))
    rw [fi]
    (repeat (first | refine XK.norm rfl rfl ?_ | refine XK.rgnA hT rfl rfl rfl ?_ | refine XK.rgnB hT hm rfl rfl rfl ?_)); refine XK.region ?_; refine XL.goA hT rfl rfl rfl rfl ?_
    refine XL.callLA hE rfl rfl rfl rfl trivial rfl (i1) rfl ?_
    refine XL.goA hT rfl rfl rfl rfl ?_
    refine XL.callGA hE rfl rfl rfl rfl rfl rfl rfl rfl (i2) rfl ?_
    refine XL.goA hT rfl rfl rfl rfl ?_; refine XL.fin ?_; (repeat (first | refine XK.norm rfl rfl ?_ | refine XK.rgnA hT rfl rfl rfl ?_ | refine XK.rgnB hT hm rfl rfl rfl ?_))
    (repeat (first | refine XK.norm rfl rfl ?_ | refine XK.rgnA hT rfl rfl rfl ?_ | refine XK.rgnB hT hm rfl rfl rfl ?_)); refine XK.cond rfl (fun h2 => ?_) (fun h2 => ?_)
    · (repeat (first | refine XK.norm rfl rfl ?_ | refine XK.rgnA hT rfl rfl rfl ?_ | refine XK.rgnB hT hm rfl rfl rfl ?_))
      (first | refine XK.out rfl rfl rfl ?_ | refine XK.outN rfl rfl rfl ?_)
      rw [hno (by rw [hdb, h2]; rfl)]
    · rw [h2] at hdb
      (repeat (first | refine XK.norm rfl rfl ?_ | refine XK.rgnA hT rfl rfl rfl ?_ | refine XK.rgnB hT hm rfl rfl rfl ?_)); refine XK.region ?_; refine XL.goA hT rfl rfl rfl rfl ?_
      refine XL.callLA hE rfl rfl rfl rfl trivial rfl (valid_ok d.amt hw.2.2) rfl ?_
      refine XL.goA hT rfl rfl rfl rfl ?_; refine XL.fin ?_; (repeat (first | refine XK.norm rfl rfl ?_ | refine XK.rgnA hT rfl rfl rfl ?_ | refine XK.rgnB hT hm rfl rfl rfl ?_))
      (repeat (first | refine XK.norm rfl rfl ?_ | refine XK.rgnA hT rfl rfl rfl ?_ | refine XK.rgnB hT hm rfl rfl rfl ?_)); refine XK.cond rfl (fun h3 => ?_) (fun h3 => ?_)
      · (repeat (first | refine XK.norm rfl rfl ?_ | refine XK.rgnA hT rfl rfl rfl ?_ | refine XK.rgnB hT hm rfl rfl rfl ?_))
        (first | refine XK.out rfl rfl rfl ?_ | refine XK.outN rfl rfl rfl ?_)
        rw [hno (by rw [hdb]; cases hq : qOk d.amt with
          | false => rfl
          | true => rw [hq] at h3; simp at h3; simp; omega)]
      · (repeat (first | refine XK.norm rfl rfl ?_ | refine XK.rgnA hT rfl rfl rfl ?_ | refine XK.rgnB hT hm rfl rfl rfl ?_))
        refine XK.inv ⟨i + 1, ⟨hlt, hst (by rw [hdb]; cases hq : qOk d.amt with
          | false => rw [hq] at h3; simp at h3
          | true => rw [hq] at h3; simp at h3; simp; omega)⟩, (Weak.of hN rfl rfl rfl (by (repeat' (first | exact rfl | exact AvIs.refl _ | exact trivial | exact fun _ _ => rfl | exact fun _ _ => ⟨rfl, AvIs.refl _⟩ | refine ⟨?_, ?_⟩))) (by (repeat' (first | exact rfl | exact AvIs.refl _ | exact trivial | exact fun _ _ => rfl | exact fun _ _ => ⟨rfl, AvIs.refl _⟩ | refine ⟨?_, ?_⟩)))), by omega⟩
  · have hin : i = l.length := by omega
    subst hin
    (repeat (first | refine XK.norm rfl rfl ?_ | refine XK.rgnA hT rfl rfl rfl ?_ | refine XK.rgnB hT hm rfl rfl rfl ?_))
    (first | refine XK.out rfl rfl rfl ?_ | refine XK.outN rfl rfl rfl ?_)
    rw [allB_iff.2 hi2]
end Go.Proofs.Ytbheoblmfjjaaaa
end
section
/- Portfolios: Valid, laterDue. -/
namespace Go.Proofs.Ytbheoblmfjjaaaa
open Go.Eng
set_option maxRecDepth 10000
set_option linter.unusedSimpArgs false
set_option linter.unusedVariables false
def setV (d : Nat → Bool) : AV := .agg [.c (.bool (d 0)), .c (.bool (d 1)), .c (.bool (d 2)), .c (.bool (d 3)), .c (.bool (d 4)), .c (.bool (d 5)), .c (.bool (d 6)), .c (.bool (d 7)), .c (.bool (d 8)), .c (.bool (d 9)), .c (.bool (d 10)), .c (.bool (d 11))]
def setO (d : Nat → Bool) : Ob := .vec 98 1 0 12 (fun j => [.c (.bool (d j))])
theorem setRow (d : Nat → Bool) : ∀ j, j < 12 → [AV.c (.bool (d j))] = rowOf [.c (.bool (d 0)), .c (.bool (d 1)), .c (.bool (d 2)), .c (.bool (d 3)), .c (.bool (d 4)), .c (.bool (d 5)), .c (.bool (d 6)), .c (.bool (d 7)), .c (.bool (d 8)), .c (.bool (d 9)), .c (.bool (d 10)), .c (.bool (d 11))] ty4.size j := by
  intro j hj
  match j, hj with
  | 0, _ => rfl
  | 1, _ => rfl
  | 2, _ => rfl
  | 3, _ => rfl
  | 4, _ => rfl
  | 5, _ => rfl
  | 6, _ => rfl
  | 7, _ => rfl
  | 8, _ => rfl
  | 9, _ => rfl
  | 10, _ => rfl
  | 11, _ => rfl
def lateB (p : Pf) (x : Int) (d : Nat → Bool) : Bool := p.ts.any (fun t => t.debtor == x && d t.party.toNat)
theorem lateB_iff {p : Pf} {x : Int} {d : Nat → Bool} : lateB p x d = true ↔ ∃ i, i < p.ts.length ∧ ((p.ts.getD i default).debtor == x && d (p.ts.getD i default).party.toNat) = true := by
  unfold lateB
  rw [List.any_eq_true]
  constructor
  · rintro ⟨t, ht, h⟩
    obtain ⟨i, hi, rfl⟩ := List.getElem_of_mem ht
    exact ⟨i, hi, by simpa only [List.getD_eq_getElem?_getD, List.getElem?_eq_getElem hi, Option.getD_some] using h⟩
  · rintro ⟨i, hi, h⟩
    refine ⟨_, List.getElem_mem hi, ?_⟩
    simpa only [List.getD_eq_getElem?_getD, List.getElem?_eq_getElem hi, Option.getD_some] using h
theorem laterDue_ok (p : Pf) (x : Int) (d : Nat → Bool) (ht : ∀ i, i < p.ts.length → 0 ≤ (p.ts.getD i default).party ∧ (p.ts.getD i default).party < 12) : Does Try.prog 98 [pfV p, .c (.int .i64 x), setV d] (.c (.bool (lateB p x d))) := by
  refine Does.mk (fun _ => false) TT_ok Try.func98 rfl (by kernel_rfl) Try.ntmps98 rfl rfl fun E hT hE hN hR => ?_
  have hm : E.P.follows .mixedOrders = true := by rw [hE]; kernel_rfl
  (repeat (first | refine XK.norm rfl rfl ?_ | refine XK.rgnA hT rfl rfl rfl ?_ | refine XK.rgnB hT hm rfl rfl rfl ?_))
  refine XK.fact (Sat.rs_len (j := 10) rfl) fun hlen => ?_
  have hm' := hlen.1
  refine XK.loop (ι := Nat) (fun i => ST.of [(1, .c (.int .i64 x)), (5, .vptr 5 0 1 0 0), (10, trsL p.ts), (11, .c (.int .i64 p.ts.length)), (12, .c (.int .i64 i))] [(5, setO d)] 1000 27 (fun _ => false))
    (fun i => i ≤ p.ts.length ∧ ∀ j, j < i → ((p.ts.getD j default).debtor == x && d (p.ts.getD j default).party.toNat) = false) (fun i => p.ts.length - i) 0 ⟨Nat.zero_le _, fun j hj => absurd hj (Nat.not_lt_zero _)⟩
    (Weak.of hN rfl rfl rfl (by (repeat' (first | exact rfl | exact AvIs.refl _ | exact trivial | exact fun _ _ => rfl | exact fun _ _ => ⟨rfl, AvIs.refl _⟩ | refine ⟨?_, ?_⟩))) ⟨⟨rfl, rfl, rfl⟩, rfl, fun j hj => setRow d j hj⟩) fun i hi => ?_
  obtain ⟨hi1, hi2⟩ := hi
  (repeat (first | refine XK.norm rfl rfl ?_ | refine XK.rgnA hT rfl rfl rfl ?_ | refine XK.rgnB hT hm rfl rfl rfl ?_)); refine XK.cond rfl (fun hlt => ?_) (fun hlt => ?_) <;> (try simp at hlt)
  · have fi : p.ts.getD (i : Int).toNat default = p.ts.getD i default := rfl
    have h1 := ht i hlt
    have hyes : ((p.ts.getD i default).debtor == x && d (p.ts.getD i default).party.toNat) = true → lateB p x d = true := fun h => lateB_iff.2 ⟨i, hlt, h⟩
    have hst : ((p.ts.getD i default).debtor == x && d (p.ts.getD i default).party.toNat) = false → ∀ j, j < i + 1 → ((p.ts.getD j default).debtor == x && d (p.ts.getD j default).party.toNat) = false := fun h j hj => by
      by_cases hji : j = i
      · subst hji; exact h
      · exact hi2 j (by omega)
    generalize p.ts.getD i default = t at *
    (repeat (first | refine XK.norm rfl rfl ?_ | refine XK.rgnA hT rfl rfl rfl ?_ | refine XK.rgnB hT hm rfl rfl rfl ?_))
    rw [fi]
    (repeat (first | refine XK.norm rfl rfl ?_ | refine XK.rgnA hT rfl rfl rfl ?_ | refine XK.rgnB hT hm rfl rfl rfl ?_)); refine XK.cond rfl (fun h2 => ?_) (fun h2 => ?_)
    · (repeat (first | refine XK.norm rfl rfl ?_ | refine XK.rgnA hT rfl rfl rfl ?_ | refine XK.rgnB hT hm rfl rfl rfl ?_))
      (first | refine XK.out rfl rfl rfl ?_ | refine XK.outN rfl rfl rfl ?_)
      rw [hyes h2]
    · (repeat (first | refine XK.norm rfl rfl ?_ | refine XK.rgnA hT rfl rfl rfl ?_ | refine XK.rgnB hT hm rfl rfl rfl ?_))
      refine XK.inv ⟨i + 1, ⟨hlt, hst h2⟩, (Weak.of hN rfl rfl rfl (by (repeat' (first | exact rfl | exact AvIs.refl _ | exact trivial | exact fun _ _ => rfl | exact fun _ _ => ⟨rfl, AvIs.refl _⟩ | refine ⟨?_, ?_⟩))) (by (repeat' (first | exact rfl | exact AvIs.refl _ | exact trivial | exact fun _ _ => rfl | exact fun _ _ => ⟨rfl, AvIs.refl _⟩ | refine ⟨?_, ?_⟩)))), by omega⟩
  · have hin : i = p.ts.length := by omega
    subst hin
    (repeat (first | refine XK.norm rfl rfl ?_ | refine XK.rgnA hT rfl rfl rfl ?_ | refine XK.rgnB hT hm rfl rfl rfl ?_))
    (first | refine XK.out rfl rfl rfl ?_ | refine XK.outN rfl rfl rfl ?_)
    refine cB ?_
    symm
    rw [Bool.eq_false_iff]
    intro h
    obtain ⟨j, hj, h3⟩ := lateB_iff.1 h
    rw [hi2 j hj] at h3
    cases h3
theorem validP_ok (p : Pf) (hp : pfW p) : Does Try.prog 17 [pfV p] (.c (.bool (validP p))) := by
  refine Does.mk (fun _ => false) TT_ok Try.func17 rfl (by kernel_rfl) Try.ntmps17 rfl rfl fun E hT hE hN hR => ?_
  have hm : E.P.follows .mixedOrders = true := by rw [hE]; kernel_rfl
  unfold validP
  (repeat (first | refine XK.norm rfl rfl ?_ | refine XK.rgnA hT rfl rfl rfl ?_ | refine XK.rgnB hT hm rfl rfl rfl ?_))
  (repeat (first | refine XK.norm rfl rfl ?_ | refine XK.rgnA hT rfl rfl rfl ?_ | refine XK.rgnB hT hm rfl rfl rfl ?_)); refine XK.cond rfl (fun h1 => ?_) (fun h1 => ?_)
  · (repeat (first | refine XK.norm rfl rfl ?_ | refine XK.rgnA hT rfl rfl rfl ?_ | refine XK.rgnB hT hm rfl rfl rfl ?_))
    (first | refine XK.out rfl rfl rfl ?_ | refine XK.outN rfl rfl rfl ?_)
    rw [h1]
    rfl
  · rw [h1]
    simp only [Bool.not_false, Bool.true_and]
    (repeat (first | refine XK.norm rfl rfl ?_ | refine XK.rgnA hT rfl rfl rfl ?_ | refine XK.rgnB hT hm rfl rfl rfl ?_))
    (repeat (first | refine XK.norm rfl rfl ?_ | refine XK.rgnA hT rfl rfl rfl ?_ | refine XK.rgnB hT hm rfl rfl rfl ?_)); refine XK.cond rfl (fun h2 => ?_) (fun h2 => ?_)
    · (repeat (first | refine XK.norm rfl rfl ?_ | refine XK.rgnA hT rfl rfl rfl ?_ | refine XK.rgnB hT hm rfl rfl rfl ?_))
      (first | refine XK.out rfl rfl rfl ?_ | refine XK.outN rfl rfl rfl ?_)
      rw [h2]
      rfl
    · rw [h2]
      simp only [Bool.not_false, Bool.true_and]
      (repeat (first | refine XK.norm rfl rfl ?_ | refine XK.rgnA hT rfl rfl rfl ?_ | refine XK.rgnB hT hm rfl rfl rfl ?_))
      (repeat (first | refine XK.norm rfl rfl ?_ | refine XK.rgnA hT rfl rfl rfl ?_ | refine XK.rgnB hT hm rfl rfl rfl ?_)); refine XK.cond rfl (fun h3 => ?_) (fun h3 => ?_)
      · (repeat (first | refine XK.norm rfl rfl ?_ | refine XK.rgnA hT rfl rfl rfl ?_ | refine XK.rgnB hT hm rfl rfl rfl ?_))
        (first | refine XK.out rfl rfl rfl ?_ | refine XK.outN rfl rfl rfl ?_)
        rw [h3]
        rfl
      · rw [h3]
        simp only [Bool.not_false, Bool.true_and]
        (repeat (first | refine XK.norm rfl rfl ?_ | refine XK.rgnA hT rfl rfl rfl ?_ | refine XK.rgnB hT hm rfl rfl rfl ?_))
        refine XK.fact (Sat.rs_len (j := 46) rfl) fun hlen => ?_
        have hm1 : p.assets.length ≤ 9223372036854775807 := hlen.1
        refine XK.loop (ι := Nat) (fun i => ST.of [(1, .ptr 1 0), (46, ratsL p.assets), (47, .c (.int .i64 p.assets.length)), (48, .c (.int .i64 i))] [(1, .cells 27 (pfC p))] 1000 146 (fun _ => false))
          (fun i => i ≤ p.assets.length ∧ ∀ j, j < i → asB (p.assets.getD j default) = true) (fun i => p.assets.length - i) 0 ⟨Nat.zero_le _, fun j hj => absurd hj (Nat.not_lt_zero _)⟩ (Weak.of hN rfl rfl rfl (by (repeat' (first | exact rfl | exact AvIs.refl _ | exact trivial | exact fun _ _ => rfl | exact fun _ _ => ⟨rfl, AvIs.refl _⟩ | refine ⟨?_, ?_⟩))) (by (repeat' (first | exact rfl | exact AvIs.refl _ | exact trivial | exact fun _ _ => rfl | exact fun _ _ => ⟨rfl, AvIs.refl _⟩ | refine ⟨?_, ?_⟩)))) fun i hi => ?_
        obtain ⟨hi1, hi2⟩ := hi
        (repeat (first | refine XK.norm rfl rfl ?_ | refine XK.rgnA hT rfl rfl rfl ?_ | refine XK.rgnB hT hm rfl rfl rfl ?_)); refine XK.cond rfl (fun hlt => ?_) (fun hlt => ?_) <;> (try simp at hlt)
        · have hno := fun h => allB_no (f := asB) (l := p.assets) hlt h
          have fi : p.assets.getD (i : Int).toNat default = p.assets.getD i default := rfl
          have hw := hp.assets i hlt
          have hst : asB (p.assets.getD i default) = true → ∀ j, j < i + 1 → asB (p.assets.getD j default) = true := fun h j hj => by
            by_cases hji : j = i
            · subst hji; exact h
            · exact hi2 j (by omega)
          generalize p.assets.getD i default = a at *
          have hv := valid_ok a hw
          (repeat (first | refine XK.norm rfl rfl ?_ | refine XK.rgnA hT rfl rfl rfl ?_ | refine XK.rgnB hT hm rfl rfl rfl ?_))
          rw [fi]
          (repeat (first | refine XK.norm rfl rfl ?_ | refine XK.rgnA hT rfl rfl rfl ?_ | refine XK.rgnB hT hm rfl rfl rfl ?_)); refine XK.region ?_; refine XL.goA hT rfl rfl rfl rfl ?_
          refine XL.callLA hE rfl rfl rfl rfl trivial rfl (hv) rfl ?_
          refine XL.goA hT rfl rfl rfl rfl ?_; refine XL.fin ?_; (repeat (first | refine XK.norm rfl rfl ?_ | refine XK.rgnA hT rfl rfl rfl ?_ | refine XK.rgnB hT hm rfl rfl rfl ?_))
          (repeat (first | refine XK.norm rfl rfl ?_ | refine XK.rgnA hT rfl rfl rfl ?_ | refine XK.rgnB hT hm rfl rfl rfl ?_)); refine XK.cond rfl (fun h4 => ?_) (fun h4 => ?_)
          · (repeat (first | refine XK.norm rfl rfl ?_ | refine XK.rgnA hT rfl rfl rfl ?_ | refine XK.rgnB hT hm rfl rfl rfl ?_))
            (first | refine XK.out rfl rfl rfl ?_ | refine XK.outN rfl rfl rfl ?_)
            rw [hno (by unfold asB; cases hq : qOk a with
              | false => rfl
              | true => rw [hq] at h4; simp at h4; simp; omega)]
            simp
          · (repeat (first | refine XK.norm rfl rfl ?_ | refine XK.rgnA hT rfl rfl rfl ?_ | refine XK.rgnB hT hm rfl rfl rfl ?_))
            refine XK.inv ⟨i + 1, ⟨hlt, hst (by unfold asB; cases hq : qOk a with
              | false => rw [hq] at h4; simp at h4
              | true => rw [hq] at h4; simp at h4; simp; omega)⟩, (Weak.of hN rfl rfl rfl (by (repeat' (first | exact rfl | exact AvIs.refl _ | exact trivial | exact fun _ _ => rfl | exact fun _ _ => ⟨rfl, AvIs.refl _⟩ | refine ⟨?_, ?_⟩))) (by (repeat' (first | exact rfl | exact AvIs.refl _ | exact trivial | exact fun _ _ => rfl | exact fun _ _ => ⟨rfl, AvIs.refl _⟩ | refine ⟨?_, ?_⟩)))), by omega⟩
        · rw [show allB asB p.assets = true from allB_iff.2 fun j hj => hi2 j (by omega)]
          simp only [Bool.true_and]
          have d1 := validDebts_ok p p.due hp.due
          have d2 := validDebts_ok p p.later hp.later
          (repeat (first | refine XK.norm rfl rfl ?_ | refine XK.rgnA hT rfl rfl rfl ?_ | refine XK.rgnB hT hm rfl rfl rfl ?_))
          (repeat (first | refine XK.norm rfl rfl ?_ | refine XK.rgnA hT rfl rfl rfl ?_ | refine XK.rgnB hT hm rfl rfl rfl ?_)); refine XK.region ?_; refine XL.goA hT rfl rfl rfl rfl ?_
          refine XL.callLA hE rfl rfl rfl rfl trivial rfl (d1) rfl ?_
          refine XL.goA hT rfl rfl rfl rfl ?_
          refine XL.callGA hE rfl rfl rfl rfl rfl rfl rfl rfl (d2) rfl ?_
          refine XL.goA hT rfl rfl rfl rfl ?_; refine XL.fin ?_; (repeat (first | refine XK.norm rfl rfl ?_ | refine XK.rgnA hT rfl rfl rfl ?_ | refine XK.rgnB hT hm rfl rfl rfl ?_))
          (repeat (first | refine XK.norm rfl rfl ?_ | refine XK.rgnA hT rfl rfl rfl ?_ | refine XK.rgnB hT hm rfl rfl rfl ?_)); refine XK.cond rfl (fun h5 => ?_) (fun h5 => ?_)
          · (repeat (first | refine XK.norm rfl rfl ?_ | refine XK.rgnA hT rfl rfl rfl ?_ | refine XK.rgnB hT hm rfl rfl rfl ?_))
            (first | refine XK.out rfl rfl rfl ?_ | refine XK.outN rfl rfl rfl ?_)
            have h5 : (allB (dbB p.parties) p.due && allB (dbB p.parties) p.later) = false := by
              revert h5; cases allB (dbB p.parties) p.due <;> cases allB (dbB p.parties) p.later <;> simp
            rw [h5]
            rfl
          · have h5 : (allB (dbB p.parties) p.due && allB (dbB p.parties) p.later) = true := by simpa using h5
            rw [h5]
            simp only [Bool.true_and]
            clear d1 d2
            (repeat (first | refine XK.norm rfl rfl ?_ | refine XK.rgnA hT rfl rfl rfl ?_ | refine XK.rgnB hT hm rfl rfl rfl ?_))
            refine XK.fact (Sat.rs_len (j := 74) rfl) fun hlen2 => ?_
            have hm2 : p.gs.length ≤ 9223372036854775807 := hlen2.1
            refine XK.loop (ι := Nat) (fun i => ST.of [(1, .ptr 1 0), (74, gusL p.gs), (75, .c (.int .i64 p.gs.length)), (76, .c (.int .i64 i))] [(1, .cells 27 (pfC p))] 2000 146 (fun _ => false))
              (fun i => i ≤ p.gs.length ∧ ∀ j, j < i → guB p.parties (p.gs.getD j default) = true) (fun i => p.gs.length - i) 0 ⟨Nat.zero_le _, fun j hj => absurd hj (Nat.not_lt_zero _)⟩ (Weak.of hN rfl rfl rfl (by (repeat' (first | exact rfl | exact AvIs.refl _ | exact trivial | exact fun _ _ => rfl | exact fun _ _ => ⟨rfl, AvIs.refl _⟩ | refine ⟨?_, ?_⟩))) (by (repeat' (first | exact rfl | exact AvIs.refl _ | exact trivial | exact fun _ _ => rfl | exact fun _ _ => ⟨rfl, AvIs.refl _⟩ | refine ⟨?_, ?_⟩)))) fun i hi => ?_
            obtain ⟨hi1, hi2⟩ := hi
            (repeat (first | refine XK.norm rfl rfl ?_ | refine XK.rgnA hT rfl rfl rfl ?_ | refine XK.rgnB hT hm rfl rfl rfl ?_)); refine XK.cond rfl (fun hlt => ?_) (fun hlt => ?_) <;> (try simp at hlt)
            · have hno := fun h => allB_no (f := guB p.parties) (l := p.gs) hlt h
              have fi : p.gs.getD (i : Int).toNat default = p.gs.getD i default := rfl
              have hst : guB p.parties (p.gs.getD i default) = true → ∀ j, j < i + 1 → guB p.parties (p.gs.getD j default) = true := fun h j hj => by
                by_cases hji : j = i
                · subst hji; exact h
                · exact hi2 j (by omega)
              generalize p.gs.getD i default = a at *
              have i1 := isParty_ok p a.for_
              have i2 := isParty_ok p a.by_
              have i3 := isParty_ok p a.to
              (repeat (first | refine XK.norm rfl rfl ?_ | refine XK.rgnA hT rfl rfl rfl ?_ | refine XK.rgnB hT hm rfl rfl rfl ?_))
              rw [fi]
              (repeat (first | refine XK.norm rfl rfl ?_ | refine XK.rgnA hT rfl rfl rfl ?_ | refine XK.rgnB hT hm rfl rfl rfl ?_)); refine XK.region ?_; refine XL.goA hT rfl rfl rfl rfl ?_
              refine XL.callLA hE rfl rfl rfl rfl trivial rfl (i1) rfl ?_
              refine XL.goA hT rfl rfl rfl rfl ?_
              refine XL.callGA hE rfl rfl rfl rfl rfl rfl rfl rfl (i2) rfl ?_
              refine XL.goA hT rfl rfl rfl rfl ?_
              refine XL.callGA hE rfl rfl rfl rfl rfl rfl rfl rfl (i3) rfl ?_
              refine XL.goA hT rfl rfl rfl rfl ?_; refine XL.fin ?_; (repeat (first | refine XK.norm rfl rfl ?_ | refine XK.rgnA hT rfl rfl rfl ?_ | refine XK.rgnB hT hm rfl rfl rfl ?_))
              have hg : guB p.parties a = (isPB p.parties a.for_ && isPB p.parties a.by_ && isPB p.parties a.to && !(a.by_ == a.for_ || a.by_ == a.to || a.for_ == a.to)) := rfl
              (repeat (first | refine XK.norm rfl rfl ?_ | refine XK.rgnA hT rfl rfl rfl ?_ | refine XK.rgnB hT hm rfl rfl rfl ?_)); refine XK.cond rfl (fun h6 => ?_) (fun h6 => ?_)
              · (repeat (first | refine XK.norm rfl rfl ?_ | refine XK.rgnA hT rfl rfl rfl ?_ | refine XK.rgnB hT hm rfl rfl rfl ?_))
                (first | refine XK.out rfl rfl rfl ?_ | refine XK.outN rfl rfl rfl ?_)
                rw [hno (by rw [hg]; revert h6; cases isPB p.parties a.for_ <;> cases isPB p.parties a.by_ <;> cases isPB p.parties a.to <;> simp)]
                rfl
              · have h6 : (isPB p.parties a.for_ && isPB p.parties a.by_ && isPB p.parties a.to) = true := by simpa using h6
                rw [h6, Bool.true_and] at hg
                (repeat (first | refine XK.norm rfl rfl ?_ | refine XK.rgnA hT rfl rfl rfl ?_ | refine XK.rgnB hT hm rfl rfl rfl ?_))
                (repeat (first | refine XK.norm rfl rfl ?_ | refine XK.rgnA hT rfl rfl rfl ?_ | refine XK.rgnB hT hm rfl rfl rfl ?_)); refine XK.cond rfl (fun h7 => ?_) (fun h7 => ?_)
                · (repeat (first | refine XK.norm rfl rfl ?_ | refine XK.rgnA hT rfl rfl rfl ?_ | refine XK.rgnB hT hm rfl rfl rfl ?_))
                  (first | refine XK.out rfl rfl rfl ?_ | refine XK.outN rfl rfl rfl ?_)
                  rw [hno (by rw [hg, h7]; rfl)]
                  rfl
                · (repeat (first | refine XK.norm rfl rfl ?_ | refine XK.rgnA hT rfl rfl rfl ?_ | refine XK.rgnB hT hm rfl rfl rfl ?_))
                  refine XK.inv ⟨i + 1, ⟨hlt, hst (by rw [hg, h7]; rfl)⟩, (Weak.of hN rfl rfl rfl (by (repeat' (first | exact rfl | exact AvIs.refl _ | exact trivial | exact fun _ _ => rfl | exact fun _ _ => ⟨rfl, AvIs.refl _⟩ | refine ⟨?_, ?_⟩))) (by (repeat' (first | exact rfl | exact AvIs.refl _ | exact trivial | exact fun _ _ => rfl | exact fun _ _ => ⟨rfl, AvIs.refl _⟩ | refine ⟨?_, ?_⟩)))), by omega⟩
            · rw [show allB (guB p.parties) p.gs = true from allB_iff.2 fun j hj => hi2 j (by omega)]
              simp only [Bool.true_and]
              (repeat (first | refine XK.norm rfl rfl ?_ | refine XK.rgnA hT rfl rfl rfl ?_ | refine XK.rgnB hT hm rfl rfl rfl ?_))
              refine XK.fact (Sat.rs_len (j := 120) rfl) fun hlen3 => ?_
              have hm3 : p.ts.length ≤ 9223372036854775807 := hlen3.1
              refine XK.loop (ι := Nat) (fun i => ST.of [(1, .ptr 1 0), (120, trsL p.ts), (121, .c (.int .i64 p.ts.length)), (122, .c (.int .i64 i))] [(1, .cells 27 (pfC p))] 3000 146 (fun _ => false))
                (fun i => i ≤ p.ts.length ∧ ∀ j, j < i → trB p.parties (p.ts.getD j default) = true) (fun i => p.ts.length - i) 0 ⟨Nat.zero_le _, fun j hj => absurd hj (Nat.not_lt_zero _)⟩ (Weak.of hN rfl rfl rfl (by (repeat' (first | exact rfl | exact AvIs.refl _ | exact trivial | exact fun _ _ => rfl | exact fun _ _ => ⟨rfl, AvIs.refl _⟩ | refine ⟨?_, ?_⟩))) (by (repeat' (first | exact rfl | exact AvIs.refl _ | exact trivial | exact fun _ _ => rfl | exact fun _ _ => ⟨rfl, AvIs.refl _⟩ | refine ⟨?_, ?_⟩)))) fun i hi => ?_
              obtain ⟨hi1, hi2⟩ := hi
              (repeat (first | refine XK.norm rfl rfl ?_ | refine XK.rgnA hT rfl rfl rfl ?_ | refine XK.rgnB hT hm rfl rfl rfl ?_)); refine XK.cond rfl (fun hlt => ?_) (fun hlt => ?_) <;> (try simp at hlt)
              · have hno := fun h => allB_no (f := trB p.parties) (l := p.ts) hlt h
                have fi : p.ts.getD (i : Int).toNat default = p.ts.getD i default := rfl
                have hst : trB p.parties (p.ts.getD i default) = true → ∀ j, j < i + 1 → trB p.parties (p.ts.getD j default) = true := fun h j hj => by
                  by_cases hji : j = i
                  · subst hji; exact h
                  · exact hi2 j (by omega)
                generalize p.ts.getD i default = a at *
                have i1 := isParty_ok p a.party
                have i2 := isParty_ok p a.debtor
                have hg : trB p.parties a = (isPB p.parties a.party && isPB p.parties a.debtor && !(a.party == a.debtor)) := rfl
                (repeat (first | refine XK.norm rfl rfl ?_ | refine XK.rgnA hT rfl rfl rfl ?_ | refine XK.rgnB hT hm rfl rfl rfl ?_))
                rw [fi]
                (repeat (first | refine XK.norm rfl rfl ?_ | refine XK.rgnA hT rfl rfl rfl ?_ | refine XK.rgnB hT hm rfl rfl rfl ?_)); refine XK.region ?_; refine XL.goA hT rfl rfl rfl rfl ?_
                refine XL.callLA hE rfl rfl rfl rfl trivial rfl (i1) rfl ?_
                refine XL.goA hT rfl rfl rfl rfl ?_
                refine XL.callGA hE rfl rfl rfl rfl rfl rfl rfl rfl (i2) rfl ?_
                refine XL.goA hT rfl rfl rfl rfl ?_; refine XL.fin ?_; (repeat (first | refine XK.norm rfl rfl ?_ | refine XK.rgnA hT rfl rfl rfl ?_ | refine XK.rgnB hT hm rfl rfl rfl ?_))
                (repeat (first | refine XK.norm rfl rfl ?_ | refine XK.rgnA hT rfl rfl rfl ?_ | refine XK.rgnB hT hm rfl rfl rfl ?_)); refine XK.cond rfl (fun h6 => ?_) (fun h6 => ?_)
                · (repeat (first | refine XK.norm rfl rfl ?_ | refine XK.rgnA hT rfl rfl rfl ?_ | refine XK.rgnB hT hm rfl rfl rfl ?_))
                  (first | refine XK.out rfl rfl rfl ?_ | refine XK.outN rfl rfl rfl ?_)
                  rw [hno (by rw [hg]; revert h6; cases isPB p.parties a.party <;> cases isPB p.parties a.debtor <;> cases (a.party == a.debtor) <;> simp)]
                · (repeat (first | refine XK.norm rfl rfl ?_ | refine XK.rgnA hT rfl rfl rfl ?_ | refine XK.rgnB hT hm rfl rfl rfl ?_))
                  refine XK.inv ⟨i + 1, ⟨hlt, hst (by rw [hg]; revert h6; cases isPB p.parties a.party <;> cases isPB p.parties a.debtor <;> cases (a.party == a.debtor) <;> simp)⟩, (Weak.of hN rfl rfl rfl (by (repeat' (first | exact rfl | exact AvIs.refl _ | exact trivial | exact fun _ _ => rfl | exact fun _ _ => ⟨rfl, AvIs.refl _⟩ | refine ⟨?_, ?_⟩))) (by (repeat' (first | exact rfl | exact AvIs.refl _ | exact trivial | exact fun _ _ => rfl | exact fun _ _ => ⟨rfl, AvIs.refl _⟩ | refine ⟨?_, ?_⟩)))), by omega⟩
              · rw [show allB (trB p.parties) p.ts = true from allB_iff.2 fun j hj => hi2 j (by omega)]
                (repeat (first | refine XK.norm rfl rfl ?_ | refine XK.rgnA hT rfl rfl rfl ?_ | refine XK.rgnB hT hm rfl rfl rfl ?_))
                (first | refine XK.out rfl rfl rfl ?_ | refine XK.outN rfl rfl rfl ?_)
                rfl
end Go.Proofs.Ytbheoblmfjjaaaa
end
section
/- Portfolios: what owed's closures do: add, each. -/
namespace Go.Proofs.Ytbheoblmfjjaaaa
open Go.Eng
set_option maxRecDepth 10000
set_option linter.unusedSimpArgs false
set_option linter.unusedVariables false
/-- A sum and its error. -/
def addS (s : Q × Int) (a : Q) : Q × Int := if s.2 ≠ 0 then s else addR s.1 a
def sumO (s : Q × Int) : List Ob := [.cells 38 [.c (.int .i64 s.2)], .cells 37 (qc s.1)]
theorem addS_W {s : Q × Int} {a : Q} (h : qW s.1) : qW (addS s a).1 := by
  unfold addS
  split
  · exact h
  · exact addR_W _ _
theorem add_c_ok (s : Q × Int) (a : Q) (hs : qW s.1) (ha : qW a) : DoesM Try.prog 96 [qv a, .ptr 0 0, .ptr 1 0] (sumO s) (.tup []) (sumO (addS s a)) := by
  refine DoesM.mk (fun _ => false) 100 TT_ok Try.func96 rfl (by kernel_rfl) Try.ntmps96 rfl rfl rfl fun E hT hE hN hR => ?_
  have hm : E.P.follows .mixedOrders = true := by rw [hE]; kernel_rfl
  obtain ⟨t, e⟩ := s
  unfold addS
  dsimp only
  (repeat (first | refine XK.norm rfl rfl ?_ | refine XK.rgnA hT rfl rfl rfl ?_ | refine XK.rgnB hT hm rfl rfl rfl ?_))
  (repeat (first | refine XK.norm rfl rfl ?_ | refine XK.rgnA hT rfl rfl rfl ?_ | refine XK.rgnB hT hm rfl rfl rfl ?_)); refine XK.cond rfl (fun h1 => ?_) (fun h1 => ?_)
  · have h1 : e ≠ 0 := by simpa using h1
    rw [if_pos h1]
    (repeat (first | refine XK.norm rfl rfl ?_ | refine XK.rgnA hT rfl rfl rfl ?_ | refine XK.rgnB hT hm rfl rfl rfl ?_))
    (first | refine XK.outR [0, 1] hN rfl rfl rfl ?_ rfl rfl ?_ | refine XK.outRN [0, 1] hN rfl rfl rfl ?_ rfl rfl ?_)
    · (repeat' (first | exact rfl | exact AvIs.refl _ | exact trivial | exact fun _ _ => rfl | exact fun _ _ => ⟨rfl, AvIs.refl _⟩ | refine ⟨?_, ?_⟩))
    · (repeat' (first | exact rfl | exact AvIs.refl _ | exact trivial | exact fun _ _ => rfl | exact fun _ _ => ⟨rfl, AvIs.refl _⟩ | refine ⟨?_, ?_⟩))
  · have h1 : e = 0 := by simpa using h1
    subst h1
    rw [if_neg (by simp)]
    have ha2 := add_ok t a hs ha
    (repeat (first | refine XK.norm rfl rfl ?_ | refine XK.rgnA hT rfl rfl rfl ?_ | refine XK.rgnB hT hm rfl rfl rfl ?_))
    (repeat (first | refine XK.norm rfl rfl ?_ | refine XK.rgnA hT rfl rfl rfl ?_ | refine XK.rgnB hT hm rfl rfl rfl ?_)); refine XK.region ?_; refine XL.goA hT rfl rfl rfl rfl ?_
    refine XL.callLA hE rfl rfl rfl rfl trivial rfl (ha2) rfl ?_
    refine XL.goA hT rfl rfl rfl rfl ?_; refine XL.fin ?_; (repeat (first | refine XK.norm rfl rfl ?_ | refine XK.rgnA hT rfl rfl rfl ?_ | refine XK.rgnB hT hm rfl rfl rfl ?_))
    (first | refine XK.outR [0, 1] hN rfl rfl rfl ?_ rfl rfl ?_ | refine XK.outRN [0, 1] hN rfl rfl rfl ?_ rfl rfl ?_)
    · (repeat' (first | exact rfl | exact AvIs.refl _ | exact trivial | exact fun _ _ => rfl | exact fun _ _ => ⟨rfl, AvIs.refl _⟩ | refine ⟨?_, ?_⟩))
    · (repeat' (first | exact rfl | exact AvIs.refl _ | exact trivial | exact fun _ _ => rfl | exact fun _ _ => ⟨rfl, AvIs.refl _⟩ | refine ⟨?_, ?_⟩))
def selB (from_ to : Int) (d : Db) : Bool := d.from_ == from_ && (decide (to < 0) || d.to == to)
def eachD (from_ to : Int) (l : List Db) (s : Q × Int) : Nat → Q × Int
  | 0 => s
  | i + 1 => if selB from_ to (l.getD i default) = true then addS (eachD from_ to l s i) (l.getD i default).amt else eachD from_ to l s i
theorem eachD_W {f t : Int} {l : List Db} {s : Q × Int} (h : qW s.1) : ∀ i, qW (eachD f t l s i).1
  | 0 => h
  | i + 1 => by
    rw [eachD]
    split
    · exact addS_W (eachD_W h i)
    · exact eachD_W h i
/-- The lists that are due for a set, and what they add. -/
def listN (p : Pf) (x : Int) (d : Nat → Bool) : Nat := if lateB p x d = true then 2 else 1
def listAt (p : Pf) (j : Nat) : List Db := if j = 0 then p.due else p.later
def eachL (p : Pf) (from_ to : Int) (s : Q × Int) : Nat → Q × Int
  | 0 => s
  | j + 1 => eachD from_ to (listAt p j) (eachL p from_ to s j) (listAt p j).length
theorem eachL_W {p : Pf} {f t : Int} {s : Q × Int} (h : qW s.1) : ∀ i, qW (eachL p f t s i).1
  | 0 => h
  | i + 1 => eachD_W (eachL_W h i) _
def eachR (p : Pf) (d : Nat → Bool) (from_ to : Int) (s : Q × Int) : Q × Int := eachL p from_ to s (listN p from_ d)
def eachO (p : Pf) (d : Nat → Bool) (s : Q × Int) : List Ob := [.cells 27 (pfC p), setO d, .cells 147 [.fn (.func 96) [] [.ptr 3 0, .ptr 4 0]], .cells 38 [.c (.int .i64 s.2)], .cells 37 (qc s.1)]
def eachN (p : Pf) (d : Nat → Bool) (s : Q × Int) : List (Nat × Ob) := [(0, .cells 27 (pfC p)), (1, setO d), (2, .cells 147 [.fn (.func 96) [] [.ptr 3 0, .ptr 4 0]]), (3, .cells 38 [.c (.int .i64 s.2)]), (4, .cells 37 (qc s.1))]
theorem each_ok (p : Pf) (hp : pfW p) (ht : ∀ i, i < p.ts.length → 0 ≤ (p.ts.getD i default).party ∧ (p.ts.getD i default).party < 12) (d : Nat → Bool) (f t : Int) (s : Q × Int) (hs : qW s.1) : DoesM Try.prog 97 [.c (.int .i64 f), .c (.int .i64 t), .ptr 0 0, .vptr 1 0 1 0 0, .ptr 2 0] (eachO p d s) (.tup []) (eachO p d (eachR p d f t s)) := by
  refine DoesM.mk (fun d => Nat.beq d 14) 100 TT_ok Try.func97 rfl (by kernel_rfl) Try.ntmps97 rfl rfl rfl fun E hT hE hN hR => ?_
  have hm : E.P.follows .mixedOrders = true := by rw [hE]; kernel_rfl
  have hl := laterDue_ok p f d ht
  (repeat (first | refine XK.norm rfl rfl ?_ | refine XK.rgnA hT rfl rfl rfl ?_ | refine XK.rgnB hT hm rfl rfl rfl ?_))
  (repeat (first | refine XK.norm rfl rfl ?_ | refine XK.rgnA hT rfl rfl rfl ?_ | refine XK.rgnB hT hm rfl rfl rfl ?_)); refine XK.region ?_; refine XL.goA hT rfl rfl rfl rfl ?_
  refine XL.callLA hE rfl rfl rfl rfl trivial rfl (hl) rfl ?_
  refine XL.goA hT rfl rfl rfl rfl ?_; refine XL.fin ?_; (repeat (first | refine XK.norm rfl rfl ?_ | refine XK.rgnA hT rfl rfl rfl ?_ | refine XK.rgnB hT hm rfl rfl rfl ?_))
  unfold eachR
  (repeat (first | refine XK.norm rfl rfl ?_ | refine XK.rgnA hT rfl rfl rfl ?_ | refine XK.rgnB hT hm rfl rfl rfl ?_)); refine XK.join (ST.of [(0, .c (.int .i64 f)), (1, .c (.int .i64 t)), (2, .ptr 0 0), (3, .vptr 1 0 1 0 0), (4, .ptr 2 0), (7, .vec 114 0)] ((114, .vec 23 1 0 (listN p f d) (fun j => [dbsL (listAt p j)])) :: eachN p d s) 2000 56 (fun d => Nat.beq d 14)) rfl (fun h1 => ?_) (fun h1 => ?_) ?_
  · have hn : listN p f d = 2 := if_pos h1
    rw [hn]
    (repeat (first | refine XK.norm rfl rfl ?_ | refine XK.rgnA hT rfl rfl rfl ?_ | refine XK.rgnB hT hm rfl rfl rfl ?_))
    refine XK.inv (Weak.trans (Weak.stamp (k := 114) (t := 0) hN rfl rfl) (Weak.of hN rfl rfl rfl (by (repeat' (first | exact rfl | exact AvIs.refl _ | exact trivial | exact fun _ _ => rfl | exact fun _ _ => ⟨rfl, AvIs.refl _⟩ | refine ⟨?_, ?_⟩))) ⟨⟨⟨rfl, rfl, rfl⟩, rfl, fun j hj => ?_⟩, by (repeat' (first | exact rfl | exact AvIs.refl _ | exact trivial | exact fun _ _ => rfl | exact fun _ _ => ⟨rfl, AvIs.refl _⟩ | refine ⟨?_, ?_⟩))⟩))
    match j, hj with
    | 0, _ => rfl
    | 1, _ => rfl
  · have hn : listN p f d = 1 := if_neg (by rw [h1]; simp)
    rw [hn]
    (repeat (first | refine XK.norm rfl rfl ?_ | refine XK.rgnA hT rfl rfl rfl ?_ | refine XK.rgnB hT hm rfl rfl rfl ?_))
    refine XK.inv (Weak.of hN rfl rfl rfl (by (repeat' (first | exact rfl | exact AvIs.refl _ | exact trivial | exact fun _ _ => rfl | exact fun _ _ => ⟨rfl, AvIs.refl _⟩ | refine ⟨?_, ?_⟩))) ⟨⟨⟨rfl, rfl, rfl⟩, rfl, fun j hj => ?_⟩, by (repeat' (first | exact rfl | exact AvIs.refl _ | exact trivial | exact fun _ _ => rfl | exact fun _ _ => ⟨rfl, AvIs.refl _⟩ | refine ⟨?_, ?_⟩))⟩)
    match j, hj with
    | 0, _ => rfl
  generalize hn : listN p f d = n
  have hn2 : n ≤ 2 := by
    rw [← hn]
    unfold listN
    split <;> omega
  clear hn hl
  refine XK.weak (Weak.frozen (k := 114) hN rfl rfl) ?_
  (repeat (first | refine XK.norm rfl rfl ?_ | refine XK.rgnA hT rfl rfl rfl ?_ | refine XK.rgnB hT hm rfl rfl rfl ?_))
  refine XK.loop (ι := Nat) (fun j => ST.of [(0, .c (.int .i64 f)), (1, .c (.int .i64 t)), (2, .ptr 0 0), (3, .vptr 1 0 1 0 0), (4, .ptr 2 0), (24, .rs 1 n (fun j => [dbsL (listAt p j)])), (25, .c (.int .i64 n)), (26, .c (.int .i64 j))] (eachN p d (eachL p f t s j)) 3000 56 (fun d => Nat.beq d 14))
    (fun j => j ≤ n) (fun j => n - j) 0 (Nat.zero_le _) (Weak.of hN rfl rfl rfl (by (repeat' (first | exact rfl | exact AvIs.refl _ | exact trivial | exact fun _ _ => rfl | exact fun _ _ => ⟨rfl, AvIs.refl _⟩ | refine ⟨?_, ?_⟩))) (by (repeat' (first | exact rfl | exact AvIs.refl _ | exact trivial | exact fun _ _ => rfl | exact fun _ _ => ⟨rfl, AvIs.refl _⟩ | refine ⟨?_, ?_⟩)))) fun j hj => ?_
  (repeat (first | refine XK.norm rfl rfl ?_ | refine XK.rgnA hT rfl rfl rfl ?_ | refine XK.rgnB hT hm rfl rfl rfl ?_)); refine XK.cond rfl (fun hlt => ?_) (fun hlt => ?_) <;> (try simp at hlt)
  · have hEL : eachL p f t s (j + 1) = eachD f t (listAt p j) (eachL p f t s j) (listAt p j).length := rfl
    have hw := eachL_W (p := p) (f := f) (t := t) hs j
    have hla : ∀ i, i < (listAt p j).length → dbW ((listAt p j).getD i default) := by
      unfold listAt
      split
      · exact hp.due
      · exact hp.later
    have fj : listAt p (j : Int).toNat = listAt p j := rfl
    generalize eachL p f t s j = s1 at *
    generalize listAt p j = l at *
    (repeat (first | refine XK.norm rfl rfl ?_ | refine XK.rgnA hT rfl rfl rfl ?_ | refine XK.rgnB hT hm rfl rfl rfl ?_))
    rw [fj]
    refine XK.fact (Sat.rs_len (j := 9) rfl) fun hlen => ?_
    have hm1 : l.length ≤ 9223372036854775807 := hlen.1
    refine XK.loop (ι := Nat) (fun i => ST.of [(0, .c (.int .i64 f)), (1, .c (.int .i64 t)), (2, .ptr 0 0), (3, .vptr 1 0 1 0 0), (4, .ptr 2 0), (24, .rs 1 n (fun j => [dbsL (listAt p j)])), (25, .c (.int .i64 n)), (26, .c (.int .i64 j)), (30, dbsL l), (31, .c (.int .i64 l.length)), (32, .c (.int .i64 i))] (eachN p d (eachD f t l s1 i)) 4000 56 (fun d => Nat.beq d 14))
      (fun i => i ≤ l.length) (fun i => l.length - i) 0 (Nat.zero_le _) (Weak.of hN rfl rfl rfl (by (repeat' (first | exact rfl | exact AvIs.refl _ | exact trivial | exact fun _ _ => rfl | exact fun _ _ => ⟨rfl, AvIs.refl _⟩ | refine ⟨?_, ?_⟩))) (by (repeat' (first | exact rfl | exact AvIs.refl _ | exact trivial | exact fun _ _ => rfl | exact fun _ _ => ⟨rfl, AvIs.refl _⟩ | refine ⟨?_, ?_⟩)))) fun i hi => ?_
    (repeat (first | refine XK.norm rfl rfl ?_ | refine XK.rgnA hT rfl rfl rfl ?_ | refine XK.rgnB hT hm rfl rfl rfl ?_)); refine XK.cond rfl (fun hlt2 => ?_) (fun hlt2 => ?_) <;> (try simp at hlt2)
    · have hD : eachD f t l s1 (i + 1) = if selB f t (l.getD i default) = true then addS (eachD f t l s1 i) (l.getD i default).amt else eachD f t l s1 i := rfl
      have hw2 := eachD_W (f := f) (t := t) (l := l) hw i
      have hdw := hla i hlt2
      have fi : l.getD (i : Int).toNat default = l.getD i default := rfl
      generalize eachD f t l s1 i = s2 at *
      generalize l.getD i default = x at *
      have hadd := add_c_ok s2 x.amt hw2 hdw.2.2
      (repeat (first | refine XK.norm rfl rfl ?_ | refine XK.rgnA hT rfl rfl rfl ?_ | refine XK.rgnB hT hm rfl rfl rfl ?_))
      rw [fi]
      (repeat (first | refine XK.norm rfl rfl ?_ | refine XK.rgnA hT rfl rfl rfl ?_ | refine XK.rgnB hT hm rfl rfl rfl ?_)); refine XK.cond rfl (fun h3 => ?_) (fun h3 => ?_)
      · have h3 : selB f t x = true := h3
        rw [if_pos h3] at hD
        (repeat (first | refine XK.norm rfl rfl ?_ | refine XK.rgnA hT rfl rfl rfl ?_ | refine XK.rgnB hT hm rfl rfl rfl ?_)); refine XK.region ?_; refine XL.goA hT rfl rfl rfl rfl ?_
        refine XL.callMA [3, 4] hE rfl rfl rfl rfl trivial (hadd) rfl rfl rfl rfl rfl ?_
        refine XL.goA hT rfl rfl rfl rfl ?_; refine XL.fin ?_; (repeat (first | refine XK.norm rfl rfl ?_ | refine XK.rgnA hT rfl rfl rfl ?_ | refine XK.rgnB hT hm rfl rfl rfl ?_))
        refine XK.inv ⟨i + 1, hlt2, ?_, by omega⟩
        rw [hD]
        exact (Weak.of hN rfl rfl rfl (by (repeat' (first | exact rfl | exact AvIs.refl _ | exact trivial | exact fun _ _ => rfl | exact fun _ _ => ⟨rfl, AvIs.refl _⟩ | refine ⟨?_, ?_⟩))) (by (repeat' (first | exact rfl | exact AvIs.refl _ | exact trivial | exact fun _ _ => rfl | exact fun _ _ => ⟨rfl, AvIs.refl _⟩ | refine ⟨?_, ?_⟩))))
      · have h3 : selB f t x = false := h3
        rw [if_neg (by rw [h3]; simp)] at hD
        (repeat (first | refine XK.norm rfl rfl ?_ | refine XK.rgnA hT rfl rfl rfl ?_ | refine XK.rgnB hT hm rfl rfl rfl ?_))
        refine XK.inv ⟨i + 1, hlt2, ?_, by omega⟩
        rw [hD]
        exact (Weak.of hN rfl rfl rfl (by (repeat' (first | exact rfl | exact AvIs.refl _ | exact trivial | exact fun _ _ => rfl | exact fun _ _ => ⟨rfl, AvIs.refl _⟩ | refine ⟨?_, ?_⟩))) (by (repeat' (first | exact rfl | exact AvIs.refl _ | exact trivial | exact fun _ _ => rfl | exact fun _ _ => ⟨rfl, AvIs.refl _⟩ | refine ⟨?_, ?_⟩))))
    · have hie : i = l.length := by omega
      subst hie
      (repeat (first | refine XK.norm rfl rfl ?_ | refine XK.rgnA hT rfl rfl rfl ?_ | refine XK.rgnB hT hm rfl rfl rfl ?_))
      refine XK.inv ⟨j + 1, hlt, ?_, by omega⟩
      rw [hEL]
      exact (Weak.of hN rfl rfl rfl (by (repeat' (first | exact rfl | exact AvIs.refl _ | exact trivial | exact fun _ _ => rfl | exact fun _ _ => ⟨rfl, AvIs.refl _⟩ | refine ⟨?_, ?_⟩))) (by (repeat' (first | exact rfl | exact AvIs.refl _ | exact trivial | exact fun _ _ => rfl | exact fun _ _ => ⟨rfl, AvIs.refl _⟩ | refine ⟨?_, ?_⟩))))
  · have hje : j = n := by omega
    subst hje
    (repeat (first | refine XK.norm rfl rfl ?_ | refine XK.rgnA hT rfl rfl rfl ?_ | refine XK.rgnB hT hm rfl rfl rfl ?_))
    (first | refine XK.outR [0, 1, 2, 3, 4] hN rfl rfl rfl ?_ rfl rfl ?_ | refine XK.outRN [0, 1, 2, 3, 4] hN rfl rfl rfl ?_ rfl rfl ?_)
    · (repeat' (first | exact rfl | exact AvIs.refl _ | exact trivial | exact fun _ _ => rfl | exact fun _ _ => ⟨rfl, AvIs.refl _⟩ | refine ⟨?_, ?_⟩))
    · (repeat' (first | exact rfl | exact AvIs.refl _ | exact trivial | exact fun _ _ => rfl | exact fun _ _ => ⟨rfl, AvIs.refl _⟩ | refine ⟨?_, ?_⟩))
end Go.Proofs.Ytbheoblmfjjaaaa
end
section
/- Portfolios: owed. -/
namespace Go.Proofs.Ytbheoblmfjjaaaa
open Go.Eng
set_option maxRecDepth 10000
set_option linter.unusedSimpArgs false
set_option linter.unusedVariables false
theorem eachR_W {p : Pf} {d : Nat → Bool} {f t : Int} {s : Q × Int} (h : qW s.1) : qW (eachR p d f t s).1 := eachL_W h _
theorem q01_W : qW (0, 1) := by simp [qW, inK]
def gSel (x : Int) (d : Nat → Bool) (g : Gu) : Bool := g.by_ == x && d g.for_.toNat
def owedT (p : Pf) (x : Int) (d : Nat → Bool) : Nat → Q × Int
  | 0 => eachR p d x (-1) ((0, 1), 0)
  | i + 1 => if gSel x d (p.gs.getD i default) = true then eachR p d (p.gs.getD i default).for_ (p.gs.getD i default).to (owedT p x d i) else owedT p x d i
theorem owedT_W {p : Pf} {x : Int} {d : Nat → Bool} : ∀ i, qW (owedT p x d i).1
  | 0 => eachR_W q01_W
  | i + 1 => by
    rw [owedT]
    split
    · exact eachR_W (owedT_W i)
    · exact owedT_W i
def owedR (p : Pf) (x : Int) (d : Nat → Bool) : Q × Int := if (owedT p x d p.gs.length).2 ≠ 0 then ((0, 0), (owedT p x d p.gs.length).2) else ((owedT p x d p.gs.length).1, 0)
def tsIn (p : Pf) : Prop := ∀ i, i < p.ts.length → 0 ≤ (p.ts.getD i default).party ∧ (p.ts.getD i default).party < 12
def gsIn (p : Pf) : Prop := ∀ i, i < p.gs.length → 0 ≤ (p.gs.getD i default).for_ ∧ (p.gs.getD i default).for_ < 12
def owedN (p : Pf) (d : Nat → Bool) (s : Q × Int) : List (Nat × Ob) := [(3, .cells 27 (pfC p)), (5, setO d), (108, .cells 147 [.fn (.func 96) [] [.ptr 58 0, .ptr 57 0]]), (58, .cells 38 [.c (.int .i64 s.2)]), (57, .cells 37 (qc s.1))]
theorem owed_ok (p : Pf) (hp : pfW p) (ht : tsIn p) (hg : gsIn p) (x : Int) (d : Nat → Bool) : Does Try.prog 80 [pfV p, .c (.int .i64 x), setV d] (qr (owedR p x d)) := by
  refine Does.mk (fun _ => false) TT_ok Try.func80 rfl (by kernel_rfl) Try.ntmps80 rfl rfl fun E hT hE hN hR => ?_
  have hm : E.P.follows .mixedOrders = true := by rw [hE]; kernel_rfl
  have h0 := each_ok p hp ht d x (-1) ((0, 1), 0) q01_W
  (repeat (first | refine XK.norm rfl rfl ?_ | refine XK.rgnA hT rfl rfl rfl ?_ | refine XK.rgnB hT hm rfl rfl rfl ?_))
  refine XK.weak (Weak.of (L := [(1, .c (.int .i64 x)), (3, .ptr 3 0), (5, .vptr 5 0 1 0 0), (6, .ptr 6 0), (7, .c (.int .i64 0)), (8, .ptr 57 0), (9, .ptr 58 0), (10, .ptr 108 0), (11, .fn (.func 97) [] [.ptr 3 0, .vptr 5 0 1 0 0, .ptr 108 0])])
    (O := (6, .cells 37 (qc (0, 0))) :: owedN p d ((0, 1), 0)) (nx := 1000) (nt := 49) (md := fun _ => false) hN rfl rfl rfl (by (repeat' (first | exact rfl | exact AvIs.refl _ | exact trivial | exact fun _ _ => rfl | exact fun _ _ => ⟨rfl, AvIs.refl _⟩ | refine ⟨?_, ?_⟩))) ⟨by (repeat' (first | exact rfl | exact AvIs.refl _ | exact trivial | exact fun _ _ => rfl | exact fun _ _ => ⟨rfl, AvIs.refl _⟩ | refine ⟨?_, ?_⟩)), by (repeat' (first | exact rfl | exact AvIs.refl _ | exact trivial | exact fun _ _ => rfl | exact fun _ _ => ⟨rfl, AvIs.refl _⟩ | refine ⟨?_, ?_⟩)), ⟨⟨rfl, rfl, rfl⟩, rfl, fun j hj => setRow d j hj⟩, by (repeat' (first | exact rfl | exact AvIs.refl _ | exact trivial | exact fun _ _ => rfl | exact fun _ _ => ⟨rfl, AvIs.refl _⟩ | refine ⟨?_, ?_⟩))⟩) ?_
  (repeat (first | refine XK.norm rfl rfl ?_ | refine XK.rgnA hT rfl rfl rfl ?_ | refine XK.rgnB hT hm rfl rfl rfl ?_)); refine XK.region ?_; refine XL.goA hT rfl rfl rfl rfl ?_
  refine XL.callMA [3, 5, 108, 58, 57] hE rfl rfl rfl rfl trivial (h0) rfl rfl rfl rfl rfl ?_
  refine XL.goA hT rfl rfl rfl rfl ?_; refine XL.fin ?_; (repeat (first | refine XK.norm rfl rfl ?_ | refine XK.rgnA hT rfl rfl rfl ?_ | refine XK.rgnB hT hm rfl rfl rfl ?_))
  refine XK.fact (Sat.rs_len (j := 21) rfl) fun hlen => ?_
  have hm1 : p.gs.length ≤ 9223372036854775807 := hlen.1
  refine XK.loop (ι := Nat) (fun i => ST.of [(1, .c (.int .i64 x)), (6, .ptr 6 0), (8, .ptr 57 0), (9, .ptr 58 0), (11, .fn (.func 97) [] [.ptr 3 0, .vptr 5 0 1 0 0, .ptr 108 0]), (5, .vptr 5 0 1 0 0), (21, gusL p.gs), (22, .c (.int .i64 p.gs.length)), (23, .c (.int .i64 i))]
      ((6, .cells 37 (qc (0, 0))) :: owedN p d (owedT p x d i)) 2000 49 (fun _ => false))
    (fun i => i ≤ p.gs.length) (fun i => p.gs.length - i) 0 (Nat.zero_le _) (Weak.of hN rfl rfl rfl (by (repeat' (first | exact rfl | exact AvIs.refl _ | exact trivial | exact fun _ _ => rfl | exact fun _ _ => ⟨rfl, AvIs.refl _⟩ | refine ⟨?_, ?_⟩))) (by (repeat' (first | exact rfl | exact AvIs.refl _ | exact trivial | exact fun _ _ => rfl | exact fun _ _ => ⟨rfl, AvIs.refl _⟩ | refine ⟨?_, ?_⟩)))) fun i hi => ?_
  (repeat (first | refine XK.norm rfl rfl ?_ | refine XK.rgnA hT rfl rfl rfl ?_ | refine XK.rgnB hT hm rfl rfl rfl ?_)); refine XK.cond rfl (fun hlt => ?_) (fun hlt => ?_) <;> (try simp at hlt)
  · have hO : owedT p x d (i + 1) = if gSel x d (p.gs.getD i default) = true then eachR p d (p.gs.getD i default).for_ (p.gs.getD i default).to (owedT p x d i) else owedT p x d i := rfl
    have hw := owedT_W (p := p) (x := x) (d := d) i
    have hgi := hg i hlt
    have fi : p.gs.getD (i : Int).toNat default = p.gs.getD i default := rfl
    generalize owedT p x d i = s at *
    generalize p.gs.getD i default = g at *
    have h1 := each_ok p hp ht d g.for_ g.to s hw
    (repeat (first | refine XK.norm rfl rfl ?_ | refine XK.rgnA hT rfl rfl rfl ?_ | refine XK.rgnB hT hm rfl rfl rfl ?_))
    rw [fi]
    (repeat (first | refine XK.norm rfl rfl ?_ | refine XK.rgnA hT rfl rfl rfl ?_ | refine XK.rgnB hT hm rfl rfl rfl ?_)); refine XK.cond rfl (fun h2 => ?_) (fun h2 => ?_)
    · have h2 : gSel x d g = true := h2
      rw [if_pos h2] at hO
      (repeat (first | refine XK.norm rfl rfl ?_ | refine XK.rgnA hT rfl rfl rfl ?_ | refine XK.rgnB hT hm rfl rfl rfl ?_)); refine XK.region ?_; refine XL.goA hT rfl rfl rfl rfl ?_
      refine XL.callMA [3, 5, 108, 58, 57] hE rfl rfl rfl rfl trivial (h1) rfl rfl rfl rfl rfl ?_
      refine XL.goA hT rfl rfl rfl rfl ?_; refine XL.fin ?_; (repeat (first | refine XK.norm rfl rfl ?_ | refine XK.rgnA hT rfl rfl rfl ?_ | refine XK.rgnB hT hm rfl rfl rfl ?_))
      refine XK.inv ⟨i + 1, hlt, ?_, by omega⟩
      rw [hO]
      exact (Weak.of hN rfl rfl rfl (by (repeat' (first | exact rfl | exact AvIs.refl _ | exact trivial | exact fun _ _ => rfl | exact fun _ _ => ⟨rfl, AvIs.refl _⟩ | refine ⟨?_, ?_⟩))) (by (repeat' (first | exact rfl | exact AvIs.refl _ | exact trivial | exact fun _ _ => rfl | exact fun _ _ => ⟨rfl, AvIs.refl _⟩ | refine ⟨?_, ?_⟩))))
    · have h2 : gSel x d g = false := h2
      rw [if_neg (by rw [h2]; simp)] at hO
      (repeat (first | refine XK.norm rfl rfl ?_ | refine XK.rgnA hT rfl rfl rfl ?_ | refine XK.rgnB hT hm rfl rfl rfl ?_))
      refine XK.inv ⟨i + 1, hlt, ?_, by omega⟩
      rw [hO]
      exact (Weak.of hN rfl rfl rfl (by (repeat' (first | exact rfl | exact AvIs.refl _ | exact trivial | exact fun _ _ => rfl | exact fun _ _ => ⟨rfl, AvIs.refl _⟩ | refine ⟨?_, ?_⟩))) (by (repeat' (first | exact rfl | exact AvIs.refl _ | exact trivial | exact fun _ _ => rfl | exact fun _ _ => ⟨rfl, AvIs.refl _⟩ | refine ⟨?_, ?_⟩))))
  · have hie : i = p.gs.length := by omega
    subst hie
    unfold owedR
    generalize owedT p x d p.gs.length = s at *
    (repeat (first | refine XK.norm rfl rfl ?_ | refine XK.rgnA hT rfl rfl rfl ?_ | refine XK.rgnB hT hm rfl rfl rfl ?_))
    (repeat (first | refine XK.norm rfl rfl ?_ | refine XK.rgnA hT rfl rfl rfl ?_ | refine XK.rgnB hT hm rfl rfl rfl ?_)); refine XK.cond rfl (fun h3 => ?_) (fun h3 => ?_)
    · have h3 : s.2 ≠ 0 := by simpa using h3
      rw [if_pos h3]
      (repeat (first | refine XK.norm rfl rfl ?_ | refine XK.rgnA hT rfl rfl rfl ?_ | refine XK.rgnB hT hm rfl rfl rfl ?_))
      (first | refine XK.out rfl rfl rfl ?_ | refine XK.outN rfl rfl rfl ?_)
      rfl
    · have h3 : s.2 = 0 := by simpa using h3
      rw [if_neg (by simpa using h3)]
      (repeat (first | refine XK.norm rfl rfl ?_ | refine XK.rgnA hT rfl rfl rfl ?_ | refine XK.rgnB hT hm rfl rfl rfl ?_))
      (first | refine XK.out rfl rfl rfl ?_ | refine XK.outN rfl rfl rfl ?_)
      rfl
end Go.Proofs.Ytbheoblmfjjaaaa
end
