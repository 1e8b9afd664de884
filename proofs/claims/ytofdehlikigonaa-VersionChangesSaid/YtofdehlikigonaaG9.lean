import Derived.Test.YtofdehlikigonaaG8
section
/- The head of the laws of layer 25. -/
namespace Go.Proofs.Ytofdehlikigonaa
open Go.Eng
set_option maxRecDepth 10000
set_option linter.unusedSimpArgs false
set_option linter.unusedVariables false
def exCl : Cl := ⟨3, 0, 0, 1, [], 3, 0, false, false, -1, -1, (0, 1), -1, -1, false⟩
def exK : K := ⟨1, [0], [], [⟨1, 0, 0, -1, -1, (0, 1)⟩], [exCl, exCl], 9, []⟩
def wvP (i : Int) : Pt := ⟨3, [i], default, 0⟩
def exL : List Am := [⟨7, 5, 2, wvP 0⟩, ⟨3, 5, 4, ⟨1, [], exCl, 0⟩⟩, ⟨9, 1, 0, wvP 2⟩]
theorem exClause_ok : Does Try.prog 20 [] (clV exCl) := by
  refine Does.weaken (res := ?x) ?_ ?_
  rotate_left
  refine Does.mk (fun _ => false) TT_ok Try.func20 rfl (by kernel_rfl) Try.ntmps20 rfl rfl fun E hT hE hN hR => ?_
  have hm : E.P.follows .mixedOrders = true := by rw [hE]; kernel_rfl
  (repeat (first | refine XK.norm rfl rfl ?_ | refine XK.rgnA hT rfl rfl rfl ?_ | refine XK.rgnB hT hm rfl rfl rfl ?_))
  (first | refine XK.out rfl rfl rfl ?_ | refine XK.outN rfl rfl rfl ?_)
  rfl
  · refine AvS.agg ⟨AvS.refl _, AvS.refl _, AvS.refl _, AvS.refl _, AvS.nil, AvS.refl _, AvS.refl _, AvS.refl _, AvS.refl _, AvS.refl _, AvS.refl _, AvS.refl _, AvS.refl _, AvS.refl _, AvS.refl _, AvS.refl _, trivial⟩
theorem exWaive_ok (i : Int) : Does Try.prog 19 [.c (.int .i64 i)] (ptV (wvP i)) := by
  refine Does.weaken (res := ?x) ?_ ?_
  rotate_left
  refine Does.mk (fun _ => false) TT_ok Try.func19 rfl (by kernel_rfl) Try.ntmps19 rfl rfl fun E hT hE hN hR => ?_
  have hm : E.P.follows .mixedOrders = true := by rw [hE]; kernel_rfl
  (repeat (first | refine XK.norm rfl rfl ?_ | refine XK.rgnA hT rfl rfl rfl ?_ | refine XK.rgnB hT hm rfl rfl rfl ?_))
  (first | refine XK.out rfl rfl rfl ?_ | refine XK.outN rfl rfl rfl ?_)
  rfl
  · refine AvS.agg ⟨AvS.refl _, AvS.rs (fun i hi => ?_), AvS.refl _, AvS.refl _, AvS.refl _, AvS.refl _, AvS.nil, AvS.refl _, AvS.refl _, AvS.refl _, AvS.refl _, AvS.refl _, AvS.refl _, AvS.refl _, AvS.refl _, AvS.refl _, AvS.refl _, AvS.refl _, AvS.refl _, trivial⟩
    cases Nat.lt_one_iff.1 hi; exact AvSL.refl _
theorem exK_ok : Does Try.prog 18 [] (kV exK) := by
  refine Does.weaken (res := ?x) ?_ ?_
  rotate_left
  refine Does.mk (fun _ => false) TT_ok Try.func18 rfl (by kernel_rfl) Try.ntmps18 rfl rfl fun E hT hE hN hR => ?_
  have hm : E.P.follows .mixedOrders = true := by rw [hE]; kernel_rfl
  (repeat (first | refine XK.norm rfl rfl ?_ | refine XK.rgnA hT rfl rfl rfl ?_ | refine XK.rgnB hT hm rfl rfl rfl ?_)); refine XK.region ?_; refine XL.goA hT rfl rfl rfl rfl ?_
  refine XL.callKA hE rfl rfl rfl rfl trivial rfl rfl (exClause_ok) ?_
  refine XL.goA hT rfl rfl rfl rfl ?_
  refine XL.callKA hE rfl rfl rfl rfl trivial rfl rfl (exClause_ok) ?_
  refine XL.goA hT rfl rfl rfl rfl ?_; refine XL.fin ?_; (repeat (first | refine XK.norm rfl rfl ?_ | refine XK.rgnA hT rfl rfl rfl ?_ | refine XK.rgnB hT hm rfl rfl rfl ?_))
  (first | refine XK.out rfl rfl rfl ?_ | refine XK.outN rfl rfl rfl ?_)
  rfl
  · refine AvS.agg ⟨AvS.refl _, AvS.rs (fun i hi => ?_), AvS.nil, AvS.rs (fun i hi => ?_), AvS.rs (fun i hi => ?_), AvS.refl _, AvS.nil, trivial⟩
    · cases Nat.lt_one_iff.1 hi; exact AvSL.refl _
    · cases Nat.lt_one_iff.1 hi; exact AvSL.refl _
    · rcases i with _ | _ | i <;> first | exact AvSL.refl _ | omega
theorem ex1 : (inForceR exK exL 5 4).2 = 0 ∧ (inForceR exK exL 5 4).1.2 = [3, 7] ∧ (inForceR exK exL 5 4).1.1.clauses.length = 3 ∧ ((inForceR exK exL 5 4).1.1.clauses.getD 0 default).waived = true ∧ ((inForceR exK exL 5 4).1.1.clauses.getD 2 default).waived = false := by decide +kernel
theorem ex2 : (inForceR exK exL 5 2).2 = 0 ∧ (inForceR exK exL 5 2).1.2 = [7] ∧ (inForceR exK exL 5 2).1.1.clauses.length = 2 ∧ ((inForceR exK exL 5 2).1.1.clauses.getD 0 default).waived = true := by decide +kernel
theorem ex3 : daysR exK exL 9 = ([5], 0) := by decide +kernel
theorem ex4 : (inForceR exK (List.replicate 61 default) 0 0).2 = 3 := by decide +kernel
theorem ex5 : ordI exL = [2, 1, 0] := by decide +kernel
end Go.Proofs.Ytofdehlikigonaa
end
section
/- The head of the laws of layer 25: it returns true. -/
namespace Go.Proofs.Ytofdehlikigonaa
open Go.Eng
set_option maxRecDepth 10000
set_option linter.unusedSimpArgs false
set_option linter.unusedVariables false
def nilAm : List AV := [.c (.int .i64 0), .c (.int .i64 0), .c (.int .i64 0), .c (.int .i64 0), .c (.slice none 0 0), .c (.int .i64 0), .c (.int .i64 0), .c (.int .i64 0), .c (.int .i64 0), .c (.slice none 0 0), .c (.int .i64 0), .c (.int .i64 0), .c (.bool false), .c (.bool false), .c (.int .i64 0), .c (.int .i64 0), .c (.int .i64 0), .c (.int .i64 0), .c (.int .i64 0), .c (.int .i64 0), .c (.bool false), .c (.int .i64 0)]
def exRow : Nat → List AV
  | 0 => amC ⟨7, 5, 2, wvP 0⟩
  | 1 => [.c (.int .i64 3), .c (.int .i64 5), .c (.int .i64 4), .c (.int .i64 1), .c (.slice none 0 0), .c (.int .i64 3), .c (.int .i64 0), .c (.int .i64 0), .c (.int .i64 1), cndsV [], .c (.int .i64 3), .c (.int .i64 0), .c (.bool false), .c (.bool false), .c (.int .i64 (-1)), .c (.int .i64 (-1)), .c (.int .i64 0), .c (.int .i64 1), .c (.int .i64 (-1)), .c (.int .i64 (-1)), .c (.bool false), .c (.int .i64 0)]
  | _ => amC ⟨9, 1, 0, wvP 2⟩
theorem exRow_is : AvS (.rs 22 3 exRow) (amsV exL) := by
  refine AvS.rs (fun i hi => ?_)
  rcases i with _ | _ | _ | i
  · exact AvSL.refl _
  · exact ⟨AvS.refl _, AvS.refl _, AvS.refl _, AvS.refl _, AvS.nil, AvS.refl _, AvS.refl _, AvS.refl _, AvS.refl _, AvS.refl _, AvS.refl _, AvS.refl _, AvS.refl _, AvS.refl _, AvS.refl _, AvS.refl _, AvS.refl _, AvS.refl _, AvS.refl _, AvS.refl _, AvS.refl _, AvS.refl _, trivial⟩
  · exact AvSL.refl _
  · omega
theorem nilRow_is : AvS (.rs 22 61 (fun _ => nilAm)) (amsV (List.replicate 61 default)) := by
  refine AvS.rs (fun i hi => ?_)
  have : (List.replicate 61 (default : Am)).getD i default = default := by
    rw [List.getD_eq_getElem?_getD, List.getElem?_replicate]; split <;> rfl
  show AvSL nilAm (amC ((List.replicate 61 (default : Am)).getD i default))
  rw [this]
  exact ⟨AvS.refl _, AvS.refl _, AvS.refl _, AvS.refl _, AvS.nil, AvS.refl _, AvS.refl _, AvS.refl _, AvS.refl _, AvS.nil, AvS.refl _, AvS.refl _, AvS.refl _, AvS.refl _, AvS.refl _, AvS.refl _, AvS.refl _, AvS.refl _, AvS.refl _, AvS.refl _, AvS.refl _, AvS.refl _, trivial⟩
theorem exK_W : kW exK := by
  simp [kW, exK, exCl, inK, clW, actW, qW]
theorem exCl_W : clW exCl := by simp [exCl, inK, clW, qW]
theorem dfCl_W : clW default := by
  refine ⟨?_, ?_, ?_, ?_, fun x hx => (by cases hx), ?_, ?_, ?_, ?_, ⟨?_, ?_⟩, ?_, ?_⟩ <;> (show _ ≤ _ ∧ _ ≤ _; decide)
theorem wvP_ok (i : Int) (hi : inK .i64 i) (n d k : Int) (hn : inK .i64 n) (hd : inK .i64 d) (hk : inK .i64 k) : amOk ⟨n, d, k, wvP i⟩ :=
  ⟨⟨hn, hd, hk, by simp [wvP, inK], by simpa [wvP] using hi, dfCl_W, by simp [wvP, inK]⟩, by simp [wvP], by show ([] : List Cnd).length ≤ _; simp⟩
theorem exL_ok : amsOk exL := by
  intro a ha
  simp only [exL, List.mem_cons, List.not_mem_nil, or_false] at ha
  rcases ha with rfl | rfl | rfl
  · exact wvP_ok 0 (by simp [inK]) _ _ _ (by simp [inK]) (by simp [inK]) (by simp [inK])
  · exact ⟨⟨by simp [inK], by simp [inK], by simp [inK], by simp [inK], by simp, exCl_W, by simp [inK]⟩, by simp, by simp [exCl]⟩
  · exact wvP_ok 2 (by simp [inK]) _ _ _ (by simp [inK]) (by simp [inK]) (by simp [inK])
theorem nilL_ok : amsOk (List.replicate 61 default) := by
  intro a ha
  rw [List.mem_replicate] at ha
  rw [ha.2]
  exact ⟨⟨by show _ ≤ _ ∧ _ ≤ _; decide, by show _ ≤ _ ∧ _ ≤ _; decide, by show _ ≤ _ ∧ _ ≤ _; decide, by show _ ≤ _ ∧ _ ≤ _; decide, (fun z hz => by cases hz), dfCl_W, by show _ ≤ _ ∧ _ ≤ _; decide⟩, by show ([] : List Int).length ≤ _; simp, by show ([] : List Cnd).length ≤ _; simp⟩
theorem exOrd : Does Try.prog 10 [.rs 22 3 exRow] (intsV [2, 1, 0]) := by
  have h := order_ok exL (by simp [exL])
  rw [ex5] at h
  exact h.argS ⟨exRow_is, trivial⟩
theorem exDays : Does Try.prog 13 [kV exK, .rs 22 3 exRow, .c (.int .i64 9)] (.tup [intsV [5], .c (.int .i64 0)]) := by
  have h := days_ok exK exK_W exL exL_ok 9
  rw [ex3] at h
  exact h.argS ⟨AvS.refl _, exRow_is, AvS.refl _, trivial⟩
theorem head25_ok : Does Try.prog 9 [] (.c (.bool true)) := by
  have f1 := (inForce_ok exK exK_W exL exL_ok 5 4).argS (args' := [kV exK, .rs 22 3 exRow, .c (.int .i64 5), .c (.int .i64 4)]) ⟨AvS.refl _, exRow_is, AvS.refl _, AvS.refl _, trivial⟩
  have f2 := (inForce_ok exK exK_W exL exL_ok 5 2).argS (args' := [kV exK, .rs 22 3 exRow, .c (.int .i64 5), .c (.int .i64 2)]) ⟨AvS.refl _, exRow_is, AvS.refl _, AvS.refl _, trivial⟩
  have f3 : Does Try.prog 12 [kV exK, .rs 22 61 (fun _ => nilAm), .c (.int .i64 0), .c (.int .i64 0)] (.tup [zKV, .junk, .c (.int .i64 3)]) := by
    have h := (inForce_ok0 exK exK_W _ nilL_ok 0 0).argS (args' := [kV exK, .rs 22 61 (fun _ => nilAm), .c (.int .i64 0), .c (.int .i64 0)]) ⟨AvS.refl _, nilRow_is, AvS.refl _, AvS.refl _, trivial⟩
    rw [ex4] at h
    refine h.weaken ?_
    refine AvS.tupS ⟨?_, fun _ _ _ _ _ => .junk, AvS.refl _, trivial⟩
    exact AvS.eq (if_neg (by decide))
  obtain ⟨a1, a2, a3, a4, a5⟩ := ex1
  obtain ⟨b1, b2, b3, b4⟩ := ex2
  generalize inForceR exK exL 5 4 = r1 at *
  generalize inForceR exK exL 5 2 = r2 at *
  obtain ⟨⟨k1, n1⟩, e1⟩ := r1
  obtain ⟨⟨k2, n2⟩, e2⟩ := r2
  simp only at a1 a2 a3 a4 a5 b1 b2 b3 b4
  subst a1 a2 b1 b2
  refine Does.mk (fun _ => false) TT_ok Try.func9 rfl (by kernel_rfl) Try.ntmps9 rfl rfl fun E hT hE hN hR => ?_
  have hm : E.P.follows .mixedOrders = true := by rw [hE]; kernel_rfl
  (repeat (first | refine XK.norm rfl rfl ?_ | refine XK.rgnA hT rfl rfl rfl ?_ | refine XK.rgnB hT hm rfl rfl rfl ?_)); refine XK.region ?_; refine XL.goA hT rfl rfl rfl rfl ?_
  refine XL.callKA hE rfl rfl rfl rfl trivial rfl rfl (exK_ok) ?_
  refine XL.goA hT rfl rfl rfl rfl ?_; refine XL.fin ?_; (repeat (first | refine XK.norm rfl rfl ?_ | refine XK.rgnA hT rfl rfl rfl ?_ | refine XK.rgnB hT hm rfl rfl rfl ?_))
  (repeat (first | refine XK.norm rfl rfl ?_ | refine XK.rgnA hT rfl rfl rfl ?_ | refine XK.rgnB hT hm rfl rfl rfl ?_))
  (repeat (first | refine XK.norm rfl rfl ?_ | refine XK.rgnA hT rfl rfl rfl ?_ | refine XK.rgnB hT hm rfl rfl rfl ?_)); refine XK.region ?_; refine XL.goA hT rfl rfl rfl rfl ?_
  refine XL.callKA hE rfl rfl rfl rfl trivial rfl rfl (exWaive_ok 0) ?_
  refine XL.goA hT rfl rfl rfl rfl ?_
  refine XL.callKA hE rfl rfl rfl rfl trivial rfl rfl (exClause_ok) ?_
  refine XL.goA hT rfl rfl rfl rfl ?_
  refine XL.callKA hE rfl rfl rfl rfl trivial rfl rfl (exWaive_ok 2) ?_
  refine XL.goA hT rfl rfl rfl rfl ?_; refine XL.fin ?_; (repeat (first | refine XK.norm rfl rfl ?_ | refine XK.rgnA hT rfl rfl rfl ?_ | refine XK.rgnB hT hm rfl rfl rfl ?_))
  refine XK.weak (st' := ST.of [(1, .ptr 123 0), (3, .rs 22 3 exRow)] [(123, .cells 41 (kC exK))] 1000 122 (fun _ => false))
    (Weak.of hN rfl rfl rfl ⟨rfl, rfl, rfl, fun i hi => by rcases i with _ | _ | _ | i <;> first | rfl | omega⟩ (by (repeat' (first | exact rfl | exact AvIs.refl _ | exact trivial | exact fun _ _ => rfl | exact fun _ _ => ⟨rfl, AvIs.refl _⟩ | refine ⟨?_, ?_⟩)))) ?_
  (repeat (first | refine XK.norm rfl rfl ?_ | refine XK.rgnA hT rfl rfl rfl ?_ | refine XK.rgnB hT hm rfl rfl rfl ?_)); refine XK.region ?_; refine XL.goA hT rfl rfl rfl rfl ?_
  refine XL.callKA hE rfl rfl rfl rfl trivial rfl rfl (f1) ?_
  refine XL.goA hT rfl rfl rfl rfl ?_; refine XL.fin ?_; (repeat (first | refine XK.norm rfl rfl ?_ | refine XK.rgnA hT rfl rfl rfl ?_ | refine XK.rgnB hT hm rfl rfl rfl ?_))
  (repeat (first | refine XK.norm rfl rfl ?_ | refine XK.rgnA hT rfl rfl rfl ?_ | refine XK.rgnB hT hm rfl rfl rfl ?_)); refine XK.region ?_; refine XL.goA hT rfl rfl rfl rfl ?_
  refine XL.callKA hE rfl rfl rfl rfl trivial rfl rfl (f2) ?_
  refine XL.goA hT rfl rfl rfl rfl ?_; refine XL.fin ?_; (repeat (first | refine XK.norm rfl rfl ?_ | refine XK.rgnA hT rfl rfl rfl ?_ | refine XK.rgnB hT hm rfl rfl rfl ?_))
  (repeat (first | refine XK.norm rfl rfl ?_ | refine XK.rgnA hT rfl rfl rfl ?_ | refine XK.rgnB hT hm rfl rfl rfl ?_)); refine XK.region ?_; refine XL.goA hT rfl rfl rfl rfl ?_
  refine XL.callKA hE rfl rfl rfl rfl trivial rfl rfl (exDays) ?_
  refine XL.goA hT rfl rfl rfl rfl ?_; refine XL.fin ?_; (repeat (first | refine XK.norm rfl rfl ?_ | refine XK.rgnA hT rfl rfl rfl ?_ | refine XK.rgnB hT hm rfl rfl rfl ?_))
  (repeat (first | refine XK.norm rfl rfl ?_ | refine XK.rgnA hT rfl rfl rfl ?_ | refine XK.rgnB hT hm rfl rfl rfl ?_))
  (repeat (first | refine XK.norm rfl rfl ?_ | refine XK.rgnA hT rfl rfl rfl ?_ | refine XK.rgnB hT hm rfl rfl rfl ?_)); refine XK.drawn hm ?_; refine XD.goA hT rfl rfl rfl rfl ?_
  refine XD.callLA hE rfl rfl rfl rfl trivial rfl (f3) rfl ?_
  refine XD.goA hT rfl rfl rfl rfl ?_; refine XD.fin (by kernel_rfl) ?_; (repeat (first | refine XK.norm rfl rfl ?_ | refine XK.rgnA hT rfl rfl rfl ?_ | refine XK.rgnB hT hm rfl rfl rfl ?_))
  (repeat (first | refine XK.norm rfl rfl ?_ | refine XK.rgnA hT rfl rfl rfl ?_ | refine XK.rgnB hT hm rfl rfl rfl ?_)); refine XK.cond rfl (fun h1 => ?_) (fun h1 => ?_)
  · exfalso
    dsimp only at h1
    rw [a3, b3] at h1
    cases h1
  clear f1 f2 f3 h1
  have i1 := ints13_ok [2, 1, 0] [2, 1, 0] (by simp)
  have i2 := ints13_ok [3, 7] [3, 7] (by simp)
  have i3 := ints13_ok [7] [7] (by simp)
  have i4 := ints13_ok [5] [5] (by simp)
  (repeat (first | refine XK.norm rfl rfl ?_ | refine XK.rgnA hT rfl rfl rfl ?_ | refine XK.rgnB hT hm rfl rfl rfl ?_))
  (repeat (first | refine XK.norm rfl rfl ?_ | refine XK.rgnA hT rfl rfl rfl ?_ | refine XK.rgnB hT hm rfl rfl rfl ?_)); refine XK.region ?_; refine XL.goA hT rfl rfl rfl rfl ?_
  refine XL.callKA hE rfl rfl rfl rfl trivial rfl rfl (exOrd) ?_
  refine XL.goA hT rfl rfl rfl rfl ?_
  refine XL.callLA hE rfl rfl rfl rfl trivial rfl (i1) rfl ?_
  refine XL.goA hT rfl rfl rfl rfl ?_
  refine XL.callGA hE rfl rfl rfl rfl rfl rfl rfl rfl (i2) rfl ?_
  refine XL.goA hT rfl rfl rfl rfl ?_; refine XL.fin ?_; (repeat (first | refine XK.norm rfl rfl ?_ | refine XK.rgnA hT rfl rfl rfl ?_ | refine XK.rgnB hT hm rfl rfl rfl ?_))
  have z0 : k1.clauses.getD (Int.toNat 0) default = k1.clauses.getD 0 default := rfl
  have z2 : k1.clauses.getD (Int.toNat 2) default = k1.clauses.getD 2 default := rfl
  rw [z0, z2, a4, a5]
  (repeat (first | refine XK.norm rfl rfl ?_ | refine XK.rgnA hT rfl rfl rfl ?_ | refine XK.rgnB hT hm rfl rfl rfl ?_)); refine XK.region ?_; refine XL.goA hT rfl rfl rfl rfl ?_
  refine XL.callGA hE rfl rfl rfl rfl rfl rfl rfl rfl (i3) rfl ?_
  refine XL.goA hT rfl rfl rfl rfl ?_
  refine XL.callGA hE rfl rfl rfl rfl rfl rfl rfl rfl (i4) rfl ?_
  refine XL.goA hT rfl rfl rfl rfl ?_; refine XL.fin ?_; (repeat (first | refine XK.norm rfl rfl ?_ | refine XK.rgnA hT rfl rfl rfl ?_ | refine XK.rgnB hT hm rfl rfl rfl ?_))
  have z0 : k2.clauses.getD (Int.toNat 0) default = k2.clauses.getD 0 default := rfl
  rw [z0, b4]
  (first | refine XK.out rfl rfl rfl ?_ | refine XK.outN rfl rfl rfl ?_)
  rfl
end Go.Proofs.Ytofdehlikigonaa
end
