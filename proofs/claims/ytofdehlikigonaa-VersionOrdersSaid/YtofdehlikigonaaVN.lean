/- The law VersionOrders: the walk. -/
import Derived.Test.YtofdehlikigonaaG9
namespace Go.Proofs.Ytofdehlikigonaa
open Go.Eng
set_option maxRecDepth 10000
set_option linter.unusedSimpArgs false
set_option linter.unusedVariables false
def seenTo (l : List Am) (i : Nat) : Nat → List AV := fun j => [.c (.bool (decide (∃ q, q < i ∧ ordAt l q = j)))]
theorem ordAt_get {l : List Am} {i : Nat} (hi : i < l.length) : ∃ h : i < (ordL l).length, ordAt l i = (ordL l)[i] := by
  have h1 : i < (ordL l).length := by rw [ordL_len]; exact hi
  refine ⟨h1, ?_⟩
  unfold ordAt
  rw [List.getD_eq_getElem?_getD, List.getElem?_eq_getElem h1]
  rfl
theorem ordAt_lt {l : List Am} {i : Nat} (hi : i < l.length) : ordAt l i < l.length := by
  obtain ⟨h, e⟩ := ordAt_get hi
  rw [e]; exact ordL_lt (List.getElem_mem h)
theorem ordAt_inj {l : List Am} {i j : Nat} (hi : i < l.length) (hj : j < l.length) (h : ordAt l i = ordAt l j) : i = j := by
  obtain ⟨h1, e1⟩ := ordAt_get hi
  obtain ⟨h2, e2⟩ := ordAt_get hj
  have hn : (ordL l).Nodup := (ordL_perm l).nodup_iff.2 List.nodup_range
  exact (List.getElem_inj hn).1 (by rw [← e1, ← e2, h])
theorem ordAt_le {l : List Am} {i j : Nat} (hij : i < j) (hj : j < l.length) : amLe l (ordAt l i) (ordAt l j) = true := by
  obtain ⟨h1, e1⟩ := ordAt_get (show i < l.length by omega)
  obtain ⟨h2, e2⟩ := ordAt_get hj
  rw [e1, e2]
  exact List.pairwise_iff_getElem.1 (ordL_sorted l) i j h1 h2 hij
theorem seen_zero (l : List Am) (j : Nat) : seenTo l 0 j = [.c (.bool false)] := by simp [seenTo]
theorem seen_succ (l : List Am) (i j : Nat) : seenTo l (i + 1) j = setRowF (seenTo l i) (ordAt l i) 0 [.c (.bool true)] j := by
  unfold setRowF
  by_cases h : j = ordAt l i
  · subst h
    rw [show Nat.beq (ordAt l i) (ordAt l i) = true by simp]
    have : decide (∃ q, q < i + 1 ∧ ordAt l q = ordAt l i) = true := decide_eq_true ⟨i, Nat.lt_succ_self i, rfl⟩
    simp only [seenTo, this]
    rfl
  · rw [beq_false h]
    have : (∃ q, q < i + 1 ∧ ordAt l q = j) ↔ ∃ q, q < i ∧ ordAt l q = j := by
      constructor
      · rintro ⟨q, h1, h2⟩
        have : q ≠ i := fun e => h (by subst e; exact h2.symm)
        exact ⟨q, by omega, h2⟩
      · rintro ⟨q, h1, h2⟩; exact ⟨q, by omega, h2⟩
    simp only [seenTo, this]
    rfl
theorem seen_new {l : List Am} {i : Nat} (hi : i < l.length) : decide (∃ q, q < i ∧ ordAt l q = ordAt l i) = false := by
  rw [decide_eq_false_iff_not]
  rintro ⟨q, h1, h2⟩
  have := ordAt_inj (by omega) hi h2
  omega
theorem lawVO (l : List Am) : Does Try.prog 3 [amsV l] (.c (.bool true)) := by
  refine Does.mk (fun d => Nat.beq d 20) TT_ok Try.func3 rfl (by kernel_rfl) Try.ntmps3 rfl rfl fun E hT hE hN hR => ?_
  have hm : E.P.follows .mixedOrders = true := by rw [hE]; kernel_rfl
  (repeat (first | refine XK.norm rfl rfl ?_ | refine XK.rgnA hT rfl rfl rfl ?_ | refine XK.rgnB hT hm rfl rfl rfl ?_)); refine XK.region ?_; refine XL.goA hT rfl rfl rfl rfl ?_
  refine XL.callLA hE rfl rfl rfl rfl trivial rfl (head25_ok) rfl ?_
  refine XL.goA hT rfl rfl rfl rfl ?_; refine XL.fin ?_; (repeat (first | refine XK.norm rfl rfl ?_ | refine XK.rgnA hT rfl rfl rfl ?_ | refine XK.rgnB hT hm rfl rfl rfl ?_))
  (repeat (first | refine XK.norm rfl rfl ?_ | refine XK.rgnA hT rfl rfl rfl ?_ | refine XK.rgnB hT hm rfl rfl rfl ?_)); refine XK.cond rfl (fun h1 => ?_) (fun h1 => ?_) <;> (try simp at h1)
  · (repeat (first | refine XK.norm rfl rfl ?_ | refine XK.rgnA hT rfl rfl rfl ?_ | refine XK.rgnB hT hm rfl rfl rfl ?_))
    (first | refine XK.out rfl rfl rfl ?_ | refine XK.outN rfl rfl rfl ?_)
    rfl
  have hol := ordI_len l
  (repeat (first | refine XK.norm rfl rfl ?_ | refine XK.rgnA hT rfl rfl rfl ?_ | refine XK.rgnB hT hm rfl rfl rfl ?_)); refine XK.region ?_; refine XL.goA hT rfl rfl rfl rfl ?_
  refine XL.callKA hE rfl rfl rfl rfl trivial rfl rfl (order_ok l (by omega)) ?_
  refine XL.goA hT rfl rfl rfl rfl ?_; refine XL.fin ?_; (repeat (first | refine XK.norm rfl rfl ?_ | refine XK.rgnA hT rfl rfl rfl ?_ | refine XK.rgnB hT hm rfl rfl rfl ?_))
  (repeat (first | refine XK.norm rfl rfl ?_ | refine XK.rgnA hT rfl rfl rfl ?_ | refine XK.rgnB hT hm rfl rfl rfl ?_)); refine XK.cond rfl (fun h2 => ?_) (fun h2 => ?_)
  · exfalso
    rw [hol] at h2
    simp at h2
  clear h2
  (repeat (first | refine XK.norm rfl rfl ?_ | refine XK.rgnA hT rfl rfl rfl ?_ | refine XK.rgnB hT hm rfl rfl rfl ?_))
  refine XK.loop (ι := Nat) (fun i => ST.of [(0, amsV l), (3, .c (.bool true)), (4, intsV (ordI l)), (5, .vec 424 0), (6, .c (.int .i64 i))] [(424, .vec 4 1 0 l.length (seenTo l i))] 1000 101 (fun _ => false))
    (fun i => i ≤ l.length) (fun i => l.length - i) 0 (Nat.zero_le _) (Weak.of hN rfl rfl rfl (by (repeat' (first | exact rfl | exact AvIs.refl _ | exact trivial | exact fun _ _ => rfl | exact fun _ _ => ⟨rfl, AvIs.refl _⟩ | exact cI (by omega) | refine ⟨?_, ?_⟩))) ⟨⟨rfl, rfl, rfl⟩, rfl, fun j hj => seen_zero l j⟩) fun i hi => ?_
  (repeat (first | refine XK.norm rfl rfl ?_ | refine XK.rgnA hT rfl rfl rfl ?_ | refine XK.rgnB hT hm rfl rfl rfl ?_)); refine XK.cond rfl (fun hlt => ?_) (fun hlt => ?_) <;> (try simp at hlt)
  · have hil : i < l.length := by omega
    have hor := ordI_at l hil
    have hop := ordAt_lt hil
    have fx : (ordI l).getD (i : Int).toNat default = (ordAt l i : Nat) := hor
    have fs : seenTo l i ((ordAt l i : Nat) : Int).toNat = [.c (.bool false)] := by
      show [AV.c (.bool (decide (∃ q, q < i ∧ ordAt l q = ordAt l i)))] = _
      rw [seen_new hil]
    (repeat (first | refine XK.norm rfl rfl ?_ | refine XK.rgnA hT rfl rfl rfl ?_ | refine XK.rgnB hT hm rfl rfl rfl ?_))
    rw [fx]
    (repeat (first | refine XK.norm rfl rfl ?_ | refine XK.rgnA hT rfl rfl rfl ?_ | refine XK.rgnB hT hm rfl rfl rfl ?_)); refine XK.cond rfl (fun hb => ?_) (fun hb => ?_)
    · exfalso
      have e1 : decide (((ordAt l i : Nat) : Int) < 0) = false := by simp only [decide_eq_false_iff_not]; omega
      have e2 : decide ((l.length : Int) ≤ ((ordAt l i : Nat) : Int)) = false := by simp only [decide_eq_false_iff_not]; omega
      rw [e1, e2, show ((ordAt l i : Nat) : Int).toNat = ordAt l i from rfl, seen_new hil] at hb
      cases hb
    clear hb
    (repeat (first | refine XK.norm rfl rfl ?_ | refine XK.rgnA hT rfl rfl rfl ?_ | refine XK.rgnB hT hm rfl rfl rfl ?_)); refine XK.cond rfl (fun h3 => ?_) (fun h3 => ?_)
    · (repeat (first | refine XK.norm rfl rfl ?_ | refine XK.rgnA hT rfl rfl rfl ?_ | refine XK.rgnB hT hm rfl rfl rfl ?_))
      refine XK.inv ⟨i + 1, by omega, Weak.of hN rfl rfl rfl (by (repeat' (first | exact rfl | exact AvIs.refl _ | exact trivial | exact fun _ _ => rfl | exact fun _ _ => ⟨rfl, AvIs.refl _⟩ | exact cI (by omega) | refine ⟨?_, ?_⟩))) ⟨⟨rfl, rfl, rfl⟩, rfl, fun j hj => seen_succ l i j⟩, by omega⟩
    · have h3 : i ≠ 0 := fun e => by subst e; simp at h3
      have hpl : i - 1 < l.length := by omega
      have hpr := ordI_at l hpl
      have hpp := ordAt_lt hpl
      have hle := ordAt_le (l := l) (show i - 1 < i by omega) hil
      have hmx : (bif true then (if (i : Int) - 1 < 0 then (0 : Int) else (i : Int) - 1) else if (0 : Int) < (i : Int) - 1 then 0 else (i : Int) - 1) = ((i - 1 : Nat) : Int) := by
        rw [cond_true, if_neg (by omega)]; omega
      have fp : (ordI l).getD ((i - 1 : Nat) : Int).toNat default = (ordAt l (i - 1) : Nat) := hpr
      refine XK.norm rfl rfl ?_
      refine XK.region ?_
      refine XL.goA hT rfl rfl rfl rfl ?_ (by simp only [AllP, inK, hmx]; omega)
      rw [hmx, fp]
      refine XL.fin ?_
      have fa : l.getD ((ordAt l (i - 1) : Nat) : Int).toNat default = l.getD (ordAt l (i - 1)) default := rfl
      have fb : l.getD ((ordAt l i : Nat) : Int).toNat default = l.getD (ordAt l i) default := rfl
      (repeat (first | refine XK.norm rfl rfl ?_ | refine XK.rgnA hT rfl rfl rfl ?_ | refine XK.rgnB hT hm rfl rfl rfl ?_))
      rw [fa, fb]
      (repeat (first | refine XK.norm rfl rfl ?_ | refine XK.rgnA hT rfl rfl rfl ?_ | refine XK.rgnB hT hm rfl rfl rfl ?_)); refine XK.cond rfl (fun h4 => ?_) (fun h4 => ?_)
      · exfalso
        unfold amLe at hle
        generalize l.getD (ordAt l (i - 1)) default = a at *
        generalize l.getD (ordAt l i) default = b at *
        generalize ordAt l (i - 1) = x at *
        generalize ordAt l i = y at *
        simp only [Bool.or_eq_true, Bool.and_eq_true, decide_eq_true_eq, beq_iff_eq] at h4 hle
        omega
      · (repeat (first | refine XK.norm rfl rfl ?_ | refine XK.rgnA hT rfl rfl rfl ?_ | refine XK.rgnB hT hm rfl rfl rfl ?_))
        refine XK.inv ⟨i + 1, by omega, Weak.of hN rfl rfl rfl (by (repeat' (first | exact rfl | exact AvIs.refl _ | exact trivial | exact fun _ _ => rfl | exact fun _ _ => ⟨rfl, AvIs.refl _⟩ | exact cI (by omega) | refine ⟨?_, ?_⟩))) ⟨⟨rfl, rfl, rfl⟩, rfl, fun j hj => seen_succ l i j⟩, by omega⟩
  · (repeat (first | refine XK.norm rfl rfl ?_ | refine XK.rgnA hT rfl rfl rfl ?_ | refine XK.rgnB hT hm rfl rfl rfl ?_))
    (first | refine XK.out rfl rfl rfl ?_ | refine XK.outN rfl rfl rfl ?_)
    rfl
end Go.Proofs.Ytofdehlikigonaa
