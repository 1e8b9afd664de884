import Derived.Test.YtiiegpjpckkohaaPA
section
/- Contracts: package trace: tick. -/
namespace Go.Proofs.Ytiiegpjpckkohaa
open Go.Eng
set_option maxRecDepth 10000
set_option linter.unusedSimpArgs false
set_option linter.unusedVariables false
theorem kind_facts {k : K} {x : Cl} (h : kindB k x = true) : (x.kind = 4 ∧ x.role = -1 ∧ x.need = 1 ∧ x.grace = 0 ∧ x.final = false) ∨
    ((0 ≤ x.role ∧ x.role < k.holders.length) ∧ natB k x.act = false ∧ ((x.kind = 1 ∧ (1 ≤ x.need ∧ x.need ≤ 9) ∧ 0 ≤ x.grace ∧ x.grace ≤ 400) ∨ (x.kind = 2 ∧ x.need = 1 ∧ x.grace = 0) ∨ (x.kind = 3 ∧ x.need = 1 ∧ x.grace = 0 ∧ x.final = false))) := by
  unfold kindB at h
  by_cases h4 : x.kind = 4
  · rw [if_pos h4] at h
    simp only [Bool.and_eq_true, beq_iff_eq, Bool.not_eq_true'] at h
    exact .inl ⟨h4, h.1.1.1, h.1.1.2, h.1.2, h.2⟩
  · rw [if_neg h4] at h
    by_cases h0 : (!movB k x.role || natB k x.act) = true
    · rw [if_pos h0] at h; cases h
    · rw [if_neg h0] at h
      simp only [Bool.or_eq_true, Bool.not_eq_true', not_or, Bool.not_eq_false, Bool.not_eq_true] at h0
      have hm := h0.1
      simp only [movB, Bool.and_eq_true, decide_eq_true_eq] at hm
      refine .inr ⟨hm, h0.2, ?_⟩
      by_cases h1 : x.kind = 1
      · rw [if_pos h1] at h
        simp only [Bool.and_eq_true, decide_eq_true_eq] at h
        exact .inl ⟨h1, h.1.1, h.1.2, h.2⟩
      · rw [if_neg h1] at h
        by_cases h2 : x.kind = 2
        · rw [if_pos h2] at h
          simp only [Bool.and_eq_true, beq_iff_eq] at h
          exact .inr (.inl ⟨h2, h⟩)
        · rw [if_neg h2] at h
          by_cases h3 : x.kind = 3
          · rw [if_pos h3] at h
            simp only [Bool.and_eq_true, beq_iff_eq, Bool.not_eq_true'] at h
            exact .inr (.inr ⟨h3, h.1.1, h.1.2, h.2⟩)
          · rw [if_neg h3] at h; cases h
theorem grace_bd {k : K} {x : Cl} (h : kindB k x = true) : 0 ≤ x.grace ∧ x.grace ≤ 400 := by
  rcases kind_facts h with h | ⟨_, _, h | h | h⟩ <;> omega
/-- What the end of a day makes of a clause: the outcome, the days that have counted, whether it ends. -/
def tickOne (x : Cl) (free : Bool) (steps : Int) (o : Oc) (c : Int × Bool) : Oc × Int × Bool :=
  if (!runsB o || c.2 || (x.business && free)) = true then (o, c.1, false)
  else if c.1 + 1 < x.after then (o, c.1 + 1, false)
  else if c.1 + 1 < x.after + x.grace then ({ o with status := 2 }, c.1 + 1, false)
  else ({ o with status := if x.kind = 1 then 4 else if x.kind = 2 then 3 else 5, to := steps }, c.1 + 1, true)
def tickAt (k : K) (r : Rd) (free : Bool) (j : Nat) : Oc × Int × Bool := tickOne (clAt k j) free r.steps (r.out j) (r.cnt j)
def endedT (k : K) (r : Rd) (free : Bool) (n : Nat) : List Int := ((List.range n).filter (fun j => (tickAt k r free j).2.2)).map (fun j : Nat => (j : Int))
def tickTo (k : K) (r : Rd) (free : Bool) (n : Nat) : Rd :=
  { r with day := r.day + 1, cnt := fun j => if j < n then ((tickAt k r free j).2.1, (r.cnt j).2) else r.cnt j, out := fun j => if j < n then (tickAt k r free j).1 else r.out j }
theorem tick_ok (k : K) (hk : KFacts k) (r : Rd) (s : Int) (hday : 0 ≤ r.day ∧ r.day ≤ 1000000) (hg : ∀ j, j < k.clauses.length → 0 ≤ (r.cnt j).1 ∧ (r.cnt j).1 ≤ 1000000) :
    DoesM Try.prog 97 [.ptr 0 0, .c (.int .i64 s)] (rdOs k r) (.vec 6 0) (rdOs k (tickTo k r (freeB k r.day) k.clauses.length) ++ [intsO (endedT k r (freeB k r.day) k.clauses.length)]) := by
  refine DoesM.mk (fun _ => false) 100 TT_ok Try.func97 rfl (by kernel_rfl) Try.ntmps97 rfl rfl rfl fun E hT hE hN hR => ?_
  have hm : E.P.follows .mixedOrders = true := by rw [hE]; kernel_rfl
  (repeat (first | refine XK.norm rfl rfl ?_ | refine XK.rgnA hT rfl rfl rfl ?_ | refine XK.rgnB hT hm rfl rfl rfl ?_)); refine XK.drawn hm ?_; refine XD.goA hT rfl rfl rfl rfl ?_
  refine XD.callLA hE rfl rfl rfl rfl trivial rfl (free_ok k hk r.day) rfl ?_
  refine XD.goA hT rfl rfl rfl rfl ?_; refine XD.fin (by kernel_rfl) ?_; (repeat (first | refine XK.norm rfl rfl ?_ | refine XK.rgnA hT rfl rfl rfl ?_ | refine XK.rgnB hT hm rfl rfl rfl ?_))
  generalize freeB k r.day = free
  (repeat (first | refine XK.norm rfl rfl ?_ | refine XK.rgnA hT rfl rfl rfl ?_ | refine XK.rgnB hT hm rfl rfl rfl ?_))
  refine XK.loop (ι := Nat) (fun i => ST.of [(0, .ptr 0 0), (5, .c (.bool free)), (6, .vec 999 0), (30, clsV k.clauses), (31, .c (.int .i64 k.clauses.length)), (32, .c (.int .i64 i))] ((999, intsO (endedT k r free i)) :: rdN k (tickTo k r free i)) 2000 120 (fun _ => false))
    (fun i => i ≤ k.clauses.length) (fun i => k.clauses.length - i) 0 (Nat.zero_le _)
    (Weak.trans (Weak.ghost (j := 6) (k := 999) (e := 3) (sz := 1) (f := fun _ => []) rfl rfl) (Weak.of hN rfl rfl rfl (by (repeat' (first | exact rfl | exact AvIs.refl _ | exact trivial | exact fun _ _ => rfl | exact fun _ _ => ⟨rfl, AvIs.refl _⟩ | refine ⟨?_, ?_⟩))) (by (repeat' (first | exact rfl | exact AvIs.refl _ | exact trivial | exact fun _ _ => rfl | exact fun _ _ => ⟨rfl, AvIs.refl _⟩ | exact fun _ hi => absurd hi (Nat.not_lt_zero _) | (intro i hi; cases Nat.lt_one_iff.1 hi; rfl) | (intro j hj; by_cases hji : j = (0); (· subst hji; simp [setRowF, setL, Rd.upOut, Rd.upCnt, endedT]; done); (· simp [setRowF, beq_false hji, Rd.upOut, Rd.upCnt, endedT, hji, lt_succ_ne hji]; done)) | refine ⟨?_, ?_⟩))))) fun i hi => ?_
  have hnc := hk.nc
  (repeat (first | refine XK.norm rfl rfl ?_ | refine XK.rgnA hT rfl rfl rfl ?_ | refine XK.rgnB hT hm rfl rfl rfl ?_)); refine XK.cond rfl (fun hlt => ?_) (fun hlt => ?_)
  · have hlt : i < k.clauses.length := by simpa using hlt
    have f1 : (tickTo k r free i).out i = r.out i := by simp [tickTo]
    have f2 : (tickTo k r free i).cnt i = r.cnt i := by simp [tickTo]
    have f2' : (tickTo k r free i).cnt (i : Int).toNat = r.cnt i := f2
    have fc : k.clauses.getD (i : Int).toNat default = clAt k i := rfl
    have hgi := hg i hlt
    have hx := hk.clW' hlt
    have hxb := hk.clB hlt
    have hgr := grace_bd hxb.2.2.1
    have hel : (endedT k r free i).length ≤ i := by
      have := List.length_filter_le (fun j => (tickAt k r free j).2.2) (List.range i)
      simpa [endedT] using this
    (repeat (first | refine XK.norm rfl rfl ?_ | refine XK.rgnA hT rfl rfl rfl ?_ | refine XK.rgnB hT hm rfl rfl rfl ?_)); refine XK.region ?_; refine XL.goA hT rfl rfl rfl rfl ?_
    rw [fc]
    refine XL.callMA [0, 1, 2, 3, 4, 5] hE rfl rfl rfl rfl trivial (runs_ok k (tickTo k r free i) i hlt) rfl rfl rfl rfl rfl ?_
    refine XL.goA hT rfl rfl rfl rfl ?_; refine XL.fin ?_; (repeat (first | refine XK.norm rfl rfl ?_ | refine XK.rgnA hT rfl rfl rfl ?_ | refine XK.rgnB hT hm rfl rfl rfl ?_))
    (repeat (first | refine XK.norm rfl rfl ?_ | refine XK.rgnA hT rfl rfl rfl ?_ | refine XK.rgnB hT hm rfl rfl rfl ?_)); refine XK.cond rfl (fun h2 => ?_) (fun h2 => ?_)
    · rw [f1, f2'] at h2
      have hone : tickAt k r free i = (r.out i, (r.cnt i).1, false) := by
        exact if_pos (show (!runsB (r.out i) || (r.cnt i).2 || ((clAt k i).business && free)) = true from h2)
      have he : endedT k r free (i + 1) = endedT k r free i := by simp [endedT, List.range_succ, List.filter_append, hone]
      (repeat (first | refine XK.norm rfl rfl ?_ | refine XK.rgnA hT rfl rfl rfl ?_ | refine XK.rgnB hT hm rfl rfl rfl ?_))
      refine XK.inv ⟨i + 1, hlt, Weak.of hN rfl rfl rfl (by (repeat' (first | exact rfl | exact AvIs.refl _ | exact trivial | exact fun _ _ => rfl | exact fun _ _ => ⟨rfl, AvIs.refl _⟩ | refine ⟨?_, ?_⟩))) (by rw [he]; (repeat' (first | exact rfl | exact AvIs.refl _ | exact trivial | exact fun _ _ => rfl | exact fun _ _ => ⟨rfl, AvIs.refl _⟩ | exact fun _ hi => absurd hi (Nat.not_lt_zero _) | (intro i hi; cases Nat.lt_one_iff.1 hi; rfl) | (intro j hj; by_cases hji : j = (i); (· subst hji; simp [setRowF, setL, Rd.upOut, Rd.upCnt, tickTo, hone]; done); (· simp [setRowF, beq_false hji, Rd.upOut, Rd.upCnt, tickTo, hone, hji, lt_succ_ne hji]; done)) | refine ⟨?_, ?_⟩))), by omega⟩
    · rw [f1, f2'] at h2
      have h2' : ¬ (!runsB (r.out i) || (r.cnt i).2 || ((clAt k i).business && free)) = true := by rw [show (!runsB (r.out i) || (r.cnt i).2 || ((clAt k i).business && free)) = false from h2]; simp
      have hone : tickAt k r free i = if (r.cnt i).1 + 1 < (clAt k i).after then (r.out i, (r.cnt i).1 + 1, false)
          else if (r.cnt i).1 + 1 < (clAt k i).after + (clAt k i).grace then ({ r.out i with status := 2 }, (r.cnt i).1 + 1, false)
          else ({ r.out i with status := if (clAt k i).kind = 1 then 4 else if (clAt k i).kind = 2 then 3 else 5, to := r.steps }, (r.cnt i).1 + 1, true) := by
        unfold tickAt tickOne
        rw [if_neg h2']
      rw [← f2'] at hgi
      (repeat (first | refine XK.norm rfl rfl ?_ | refine XK.rgnA hT rfl rfl rfl ?_ | refine XK.rgnB hT hm rfl rfl rfl ?_))
      refine XK.weak (Weak.of (L := (7, .c (.int .i64 i)) :: (8, .ptr 2128 0) :: [(0, .ptr 0 0), (5, .c (.bool free)), (6, .vec 999 0), (30, clsV k.clauses), (31, .c (.int .i64 k.clauses.length)), (32, .c (.int .i64 i))]) (O := (2128, .cells 86 (clC (clAt k i))) :: (999, intsO (endedT k r free i)) :: rdN k ((tickTo k r free i).upCnt i ((r.cnt i).1 + 1, (r.cnt i).2))) (nx := 5000) (nt := 120) (md := fun _ => false) hN rfl rfl rfl (by (repeat' (first | exact rfl | exact AvIs.refl _ | exact trivial | exact fun _ _ => rfl | exact fun _ _ => ⟨rfl, AvIs.refl _⟩ | refine ⟨?_, ?_⟩))) (by (repeat' (first | exact rfl | exact AvIs.refl _ | exact trivial | exact fun _ _ => rfl | exact fun _ _ => ⟨rfl, AvIs.refl _⟩ | exact fun _ hi => absurd hi (Nat.not_lt_zero _) | (intro i hi; cases Nat.lt_one_iff.1 hi; rfl) | (intro j hj; by_cases hji : j = (i); (· subst hji; simp [setRowF, setL, Rd.upOut, Rd.upCnt, tickTo]; done); (· simp [setRowF, beq_false hji, Rd.upOut, Rd.upCnt, tickTo, hji, lt_succ_ne hji]; done)) | refine ⟨?_, ?_⟩)))) ?_
      have f3 : ((tickTo k r free i).upCnt i ((r.cnt i).1 + 1, (r.cnt i).2)).cnt (i : Int).toNat = ((r.cnt i).1 + 1, (r.cnt i).2) := by simp [Rd.upCnt]
      (repeat (first | refine XK.norm rfl rfl ?_ | refine XK.rgnA hT rfl rfl rfl ?_ | refine XK.rgnB hT hm rfl rfl rfl ?_))
      rw [f3]
      (repeat (first | refine XK.norm rfl rfl ?_ | refine XK.rgnA hT rfl rfl rfl ?_ | refine XK.rgnB hT hm rfl rfl rfl ?_)); refine XK.cond rfl (fun h3 => ?_) (fun h3 => ?_)
      · have h3 : (r.cnt i).1 + 1 < (clAt k i).after := of_decide_eq_true h3
        rw [if_pos h3] at hone
        have he : endedT k r free (i + 1) = endedT k r free i := by simp [endedT, List.range_succ, List.filter_append, hone]
        (repeat (first | refine XK.norm rfl rfl ?_ | refine XK.rgnA hT rfl rfl rfl ?_ | refine XK.rgnB hT hm rfl rfl rfl ?_))
        refine XK.inv ⟨i + 1, hlt, Weak.of hN rfl rfl rfl (by (repeat' (first | exact rfl | exact AvIs.refl _ | exact trivial | exact fun _ _ => rfl | exact fun _ _ => ⟨rfl, AvIs.refl _⟩ | refine ⟨?_, ?_⟩))) (by rw [he]; (repeat' (first | exact rfl | exact AvIs.refl _ | exact trivial | exact fun _ _ => rfl | exact fun _ _ => ⟨rfl, AvIs.refl _⟩ | exact fun _ hi => absurd hi (Nat.not_lt_zero _) | (intro i hi; cases Nat.lt_one_iff.1 hi; rfl) | (intro j hj; by_cases hji : j = (i); (· subst hji; simp [setRowF, setL, Rd.upOut, Rd.upCnt, tickTo, hone]; done); (· simp [setRowF, beq_false hji, Rd.upOut, Rd.upCnt, tickTo, hone, hji, lt_succ_ne hji]; done)) | refine ⟨?_, ?_⟩))), by omega⟩
      · have h3 : ¬ (r.cnt i).1 + 1 < (clAt k i).after := of_decide_eq_false h3
        rw [if_neg h3] at hone
        (repeat (first | refine XK.norm rfl rfl ?_ | refine XK.rgnA hT rfl rfl rfl ?_ | refine XK.rgnB hT hm rfl rfl rfl ?_)); refine XK.cond rfl (fun h4 => ?_) (fun h4 => ?_)
        · have h4 : (r.cnt i).1 + 1 < (clAt k i).after + (clAt k i).grace := of_decide_eq_true h4
          rw [if_pos h4] at hone
          have he : endedT k r free (i + 1) = endedT k r free i := by simp [endedT, List.range_succ, List.filter_append, hone]
          (repeat (first | refine XK.norm rfl rfl ?_ | refine XK.rgnA hT rfl rfl rfl ?_ | refine XK.rgnB hT hm rfl rfl rfl ?_))
          refine XK.inv ⟨i + 1, hlt, Weak.of hN rfl rfl rfl (by (repeat' (first | exact rfl | exact AvIs.refl _ | exact trivial | exact fun _ _ => rfl | exact fun _ _ => ⟨rfl, AvIs.refl _⟩ | refine ⟨?_, ?_⟩))) (by rw [he]; (repeat' (first | exact rfl | exact AvIs.refl _ | exact trivial | exact fun _ _ => rfl | exact fun _ _ => ⟨rfl, AvIs.refl _⟩ | exact fun _ hi => absurd hi (Nat.not_lt_zero _) | (intro i hi; cases Nat.lt_one_iff.1 hi; rfl) | (intro j hj; by_cases hji : j = (i); (· subst hji; simp [setRowF, setL, Rd.upOut, Rd.upCnt, tickTo, hone]; done); (· simp [setRowF, beq_false hji, Rd.upOut, Rd.upCnt, tickTo, hone, hji, lt_succ_ne hji]; done)) | refine ⟨?_, ?_⟩))), by omega⟩
        · have h4 : ¬ (r.cnt i).1 + 1 < (clAt k i).after + (clAt k i).grace := of_decide_eq_false h4
          rw [if_neg h4] at hone
          (repeat (first | refine XK.norm rfl rfl ?_ | refine XK.rgnA hT rfl rfl rfl ?_ | refine XK.rgnB hT hm rfl rfl rfl ?_)); refine XK.cond rfl (fun h5 => ?_) (fun h5 => ?_)
          · have h5 : (clAt k i).kind = 1 := by simpa using h5
            rw [if_pos h5] at hone
            (repeat (first | refine XK.norm rfl rfl ?_ | refine XK.rgnA hT rfl rfl rfl ?_ | refine XK.rgnB hT hm rfl rfl rfl ?_))
            (repeat (first | refine XK.norm rfl rfl ?_ | refine XK.rgnA hT rfl rfl rfl ?_ | refine XK.rgnB hT hm rfl rfl rfl ?_)); refine XK.region ?_; refine XL.goA hT rfl rfl rfl rfl ?_
            refine XL.callMA [0, 1, 2, 3, 4, 5] hE rfl rfl rfl rfl trivial (end_ok k ((tickTo k r free i).upCnt i ((r.cnt i).1 + 1, (r.cnt i).2)) i 4 hlt) rfl rfl rfl rfl rfl ?_
            refine XL.goA hT rfl rfl rfl rfl ?_; refine XL.fin ?_; (repeat (first | refine XK.norm rfl rfl ?_ | refine XK.rgnA hT rfl rfl rfl ?_ | refine XK.rgnB hT hm rfl rfl rfl ?_))
            have he : endedT k r free (i + 1) = endedT k r free i ++ [(i : Int)] := by simp [endedT, List.range_succ, List.filter_append, hone]
            (repeat (first | refine XK.norm rfl rfl ?_ | refine XK.rgnA hT rfl rfl rfl ?_ | refine XK.rgnB hT hm rfl rfl rfl ?_))
            refine XK.inv ⟨i + 1, hlt, (Weak.trans (Weak.stamp (k := 999) (t := 0) hN rfl rfl) (Weak.of hN rfl rfl rfl (by (repeat' (first | exact rfl | exact AvIs.refl _ | exact trivial | exact fun _ _ => rfl | exact fun _ _ => ⟨rfl, AvIs.refl _⟩ | refine ⟨?_, ?_⟩))) ?_)), by omega⟩
            rw [he]
            exact ⟨⟨⟨rfl, rfl, rfl⟩, by simp, ints_app (endedT k r free i) i _ rfl⟩, by (repeat' (first | exact rfl | exact AvIs.refl _ | exact trivial | exact fun _ _ => rfl | exact fun _ _ => ⟨rfl, AvIs.refl _⟩ | exact fun _ hi => absurd hi (Nat.not_lt_zero _) | (intro i hi; cases Nat.lt_one_iff.1 hi; rfl) | (intro j hj; by_cases hji : j = (i); (· subst hji; simp [setRowF, setL, Rd.upOut, Rd.upCnt, tickTo, hone]; done); (· simp [setRowF, beq_false hji, Rd.upOut, Rd.upCnt, tickTo, hone, hji, lt_succ_ne hji]; done)) | refine ⟨?_, ?_⟩))⟩
          · have h5 : ¬ (clAt k i).kind = 1 := by simpa using h5
            rw [if_neg h5] at hone
            (repeat (first | refine XK.norm rfl rfl ?_ | refine XK.rgnA hT rfl rfl rfl ?_ | refine XK.rgnB hT hm rfl rfl rfl ?_)); refine XK.cond rfl (fun h6 => ?_) (fun h6 => ?_)
            · have h6 : (clAt k i).kind = 2 := by simpa using h6
              rw [if_pos h6] at hone
              (repeat (first | refine XK.norm rfl rfl ?_ | refine XK.rgnA hT rfl rfl rfl ?_ | refine XK.rgnB hT hm rfl rfl rfl ?_))
              (repeat (first | refine XK.norm rfl rfl ?_ | refine XK.rgnA hT rfl rfl rfl ?_ | refine XK.rgnB hT hm rfl rfl rfl ?_)); refine XK.region ?_; refine XL.goA hT rfl rfl rfl rfl ?_
              refine XL.callMA [0, 1, 2, 3, 4, 5] hE rfl rfl rfl rfl trivial (end_ok k ((tickTo k r free i).upCnt i ((r.cnt i).1 + 1, (r.cnt i).2)) i 3 hlt) rfl rfl rfl rfl rfl ?_
              refine XL.goA hT rfl rfl rfl rfl ?_; refine XL.fin ?_; (repeat (first | refine XK.norm rfl rfl ?_ | refine XK.rgnA hT rfl rfl rfl ?_ | refine XK.rgnB hT hm rfl rfl rfl ?_))
              have he : endedT k r free (i + 1) = endedT k r free i ++ [(i : Int)] := by simp [endedT, List.range_succ, List.filter_append, hone]
              (repeat (first | refine XK.norm rfl rfl ?_ | refine XK.rgnA hT rfl rfl rfl ?_ | refine XK.rgnB hT hm rfl rfl rfl ?_))
              refine XK.inv ⟨i + 1, hlt, (Weak.trans (Weak.stamp (k := 999) (t := 0) hN rfl rfl) (Weak.of hN rfl rfl rfl (by (repeat' (first | exact rfl | exact AvIs.refl _ | exact trivial | exact fun _ _ => rfl | exact fun _ _ => ⟨rfl, AvIs.refl _⟩ | refine ⟨?_, ?_⟩))) ?_)), by omega⟩
              rw [he]
              exact ⟨⟨⟨rfl, rfl, rfl⟩, by simp, ints_app (endedT k r free i) i _ rfl⟩, by (repeat' (first | exact rfl | exact AvIs.refl _ | exact trivial | exact fun _ _ => rfl | exact fun _ _ => ⟨rfl, AvIs.refl _⟩ | exact fun _ hi => absurd hi (Nat.not_lt_zero _) | (intro i hi; cases Nat.lt_one_iff.1 hi; rfl) | (intro j hj; by_cases hji : j = (i); (· subst hji; simp [setRowF, setL, Rd.upOut, Rd.upCnt, tickTo, hone]; done); (· simp [setRowF, beq_false hji, Rd.upOut, Rd.upCnt, tickTo, hone, hji, lt_succ_ne hji]; done)) | refine ⟨?_, ?_⟩))⟩
            · have h6 : ¬ (clAt k i).kind = 2 := by simpa using h6
              rw [if_neg h6] at hone
              (repeat (first | refine XK.norm rfl rfl ?_ | refine XK.rgnA hT rfl rfl rfl ?_ | refine XK.rgnB hT hm rfl rfl rfl ?_))
              (repeat (first | refine XK.norm rfl rfl ?_ | refine XK.rgnA hT rfl rfl rfl ?_ | refine XK.rgnB hT hm rfl rfl rfl ?_)); refine XK.region ?_; refine XL.goA hT rfl rfl rfl rfl ?_
              refine XL.callMA [0, 1, 2, 3, 4, 5] hE rfl rfl rfl rfl trivial (end_ok k ((tickTo k r free i).upCnt i ((r.cnt i).1 + 1, (r.cnt i).2)) i 5 hlt) rfl rfl rfl rfl rfl ?_
              refine XL.goA hT rfl rfl rfl rfl ?_; refine XL.fin ?_; (repeat (first | refine XK.norm rfl rfl ?_ | refine XK.rgnA hT rfl rfl rfl ?_ | refine XK.rgnB hT hm rfl rfl rfl ?_))
              have he : endedT k r free (i + 1) = endedT k r free i ++ [(i : Int)] := by simp [endedT, List.range_succ, List.filter_append, hone]
              (repeat (first | refine XK.norm rfl rfl ?_ | refine XK.rgnA hT rfl rfl rfl ?_ | refine XK.rgnB hT hm rfl rfl rfl ?_))
              refine XK.inv ⟨i + 1, hlt, (Weak.trans (Weak.stamp (k := 999) (t := 0) hN rfl rfl) (Weak.of hN rfl rfl rfl (by (repeat' (first | exact rfl | exact AvIs.refl _ | exact trivial | exact fun _ _ => rfl | exact fun _ _ => ⟨rfl, AvIs.refl _⟩ | refine ⟨?_, ?_⟩))) ?_)), by omega⟩
              rw [he]
              exact ⟨⟨⟨rfl, rfl, rfl⟩, by simp, ints_app (endedT k r free i) i _ rfl⟩, by (repeat' (first | exact rfl | exact AvIs.refl _ | exact trivial | exact fun _ _ => rfl | exact fun _ _ => ⟨rfl, AvIs.refl _⟩ | exact fun _ hi => absurd hi (Nat.not_lt_zero _) | (intro i hi; cases Nat.lt_one_iff.1 hi; rfl) | (intro j hj; by_cases hji : j = (i); (· subst hji; simp [setRowF, setL, Rd.upOut, Rd.upCnt, tickTo, hone]; done); (· simp [setRowF, beq_false hji, Rd.upOut, Rd.upCnt, tickTo, hone, hji, lt_succ_ne hji]; done)) | refine ⟨?_, ?_⟩))⟩
  · have hlt : ¬ i < k.clauses.length := by simpa using hlt
    have hin : i = k.clauses.length := by omega
    subst hin
    (repeat (first | refine XK.norm rfl rfl ?_ | refine XK.rgnA hT rfl rfl rfl ?_ | refine XK.rgnB hT hm rfl rfl rfl ?_))
    (first | refine XK.outR [0, 1, 2, 3, 4, 5, 999] hN rfl rfl rfl ?_ rfl rfl ?_ | refine XK.outRN [0, 1, 2, 3, 4, 5, 999] hN rfl rfl rfl ?_ rfl rfl ?_)
    · (repeat' (first | exact rfl | exact AvIs.refl _ | exact trivial | exact fun _ _ => rfl | exact fun _ _ => ⟨rfl, AvIs.refl _⟩ | refine ⟨?_, ?_⟩))
    · (repeat' (first | exact rfl | exact AvIs.refl _ | exact trivial | exact fun _ _ => rfl | exact fun _ _ => ⟨rfl, AvIs.refl _⟩ | refine ⟨?_, ?_⟩))
end Go.Proofs.Ytiiegpjpckkohaa
end
section
/- Contracts: package trace: start. -/
namespace Go.Proofs.Ytiiegpjpckkohaa
open Go.Eng
set_option maxRecDepth 10000
set_option linter.unusedSimpArgs false
set_option linter.unusedVariables false
def startOne (k : K) (r : Rd) (i : Nat) : Oc := { r.out i with status := 1, from_ := r.steps, bearer := if (clAt k i).kind ≠ 4 then r.hold (clAt k i).role.toNat else (r.out i).bearer }
def istep (k : K) (s : Rd × List Int × List Int) (z : Int) : Rd × List Int × List Int :=
  if readyB k s.1.out z.toNat = false then (s.1, s.2.1, s.2.2 ++ [z])
  else if 0 ≤ (s.1.out z.toNat).from_ then s
  else (s.1.upOut z.toNat (startOne k s.1 z.toNat), s.2.1 ++ [z], s.2.2)
def innerTo (k : K) (r : Rd) (kn ws : List Int) : Nat → Rd × List Int × List Int
  | 0 => (r, kn, [])
  | p + 1 => istep k (innerTo k r kn ws p) (ws.getD p default)
def putWait (r : Rd) (z : Int) (l : List Int) : Rd := { r with wait := fun y => if y = z then l else r.wait y, dom := fun u => keyEq u (.int .i64 z) || r.dom u }
def roundR (k : K) (r : Rd) (kn : List Int) (n : Nat) : Rd × List Int :=
  (putWait (innerTo k r kn (r.wait (kn.getD n default)) (r.wait (kn.getD n default)).length).1 (kn.getD n default) (innerTo k r kn (r.wait (kn.getD n default)) (r.wait (kn.getD n default)).length).2.2,
   (innerTo k r kn (r.wait (kn.getD n default)) (r.wait (kn.getD n default)).length).2.1)
def runS (k : K) : Nat → Nat → Rd → List Int → Rd
  | 0, _, r, _ => r
  | f + 1, n, r, kn => if n < kn.length then runS k f (n + 1) (roundR k r kn n).1 (roundR k r kn n).2 else r
def unst (k : K) (out : Nat → Oc) : Nat := (List.range k.clauses.length).countP (fun i => decide ((out i).from_ < 0))
def startR (k : K) (r : Rd) (kn : List Int) : Rd := runS k (unst k r.out + kn.length) 0 r kn
def WaitOk (k : K) (r : Rd) : Prop := ∀ z, (r.wait z).length ≤ 4000 ∧ ∀ x ∈ r.wait z, 0 ≤ x ∧ x < k.clauses.length
theorem countP_upd {p p' : Nat → Bool} {n i : Nat} (hi : i < n) (h1 : p i = true) (h2 : p' i = false) (h : ∀ j, j ≠ i → p' j = p j) : (List.range n).countP p' + 1 = (List.range n).countP p := by
  induction n with
  | zero => omega
  | succ n ih =>
    rw [List.range_succ, List.countP_append, List.countP_append]
    by_cases e : i = n
    · subst e
      have : (List.range i).countP p' = (List.range i).countP p := List.countP_congr fun j hj => by rw [h j (by simp at hj; omega)]
      simp [this, h1, h2]
    · have := ih (by omega)
      simp only [List.countP_singleton, h n (Ne.symm e)]
      omega
/-- What the rounds over the clauses that wait keep. -/
structure Inner (k : K) (r : Rd) (kn ws : List Int) (p : Nat) (s : Rd × List Int × List Int) : Prop where
  same : s.1 = { r with out := s.1.out }
  rest : s.2.2.length ≤ p ∧ ∀ x ∈ s.2.2, x ∈ ws
  cnt : unst k s.1.out + s.2.1.length = unst k r.out + kn.length
  len : kn.length ≤ s.2.1.length
  pre : ∃ l, s.2.1 = kn ++ l
theorem getD_mem' {l : List Int} {i : Nat} (h : i < l.length) : l.getD i default ∈ l := by
  simp only [List.getD_eq_getElem?_getD, List.getElem?_eq_getElem h, Option.getD_some]
  exact List.getElem_mem h
theorem inner_inv {k : K} {r : Rd} {kn ws : List Int} (hst : 0 ≤ r.steps) (hws : ∀ x ∈ ws, 0 ≤ x ∧ x < k.clauses.length) : ∀ p, p ≤ ws.length → Inner k r kn ws p (innerTo k r kn ws p)
  | 0, _ => ⟨rfl, ⟨Nat.le_refl _, fun x hx => by simp [innerTo] at hx⟩, rfl, Nat.le_refl _, [], (List.append_nil _).symm⟩
  | p + 1, hp => by
    have ih := inner_inv (kn := kn) hst hws p (by omega)
    have hm := getD_mem' (l := ws) (i := p) (by omega)
    have hz := hws _ hm
    generalize hzz : ws.getD p default = z at hm hz
    show Inner k r kn ws (p + 1) (istep k (innerTo k r kn ws p) (ws.getD p default))
    rw [hzz]
    generalize innerTo k r kn ws p = s at ih
    unfold istep
    split
    · exact ⟨ih.same, ⟨by simp; have := ih.rest.1; omega, fun x hx => by
        simp at hx
        rcases hx with hx | rfl
        · exact ih.rest.2 x hx
        · exact hm⟩, ih.cnt, ih.len, ih.pre⟩
    · split
      · exact ⟨ih.same, ⟨by have := ih.rest.1; omega, ih.rest.2⟩, ih.cnt, ih.len, ih.pre⟩
      · rename_i h2
        have hs : s.1.steps = r.steps := by rw [ih.same]
        have := countP_upd (p := fun i => decide ((s.1.out i).from_ < 0)) (p' := fun i => decide (((s.1.upOut z.toNat (startOne k s.1 z.toNat)).out i).from_ < 0)) (n := k.clauses.length) (i := z.toNat) (by omega) (by simp; omega) (by simp [Rd.upOut, startOne, hs]; omega) (fun j hj => by simp [Rd.upOut, hj])
        refine ⟨?_, ⟨by have := ih.rest.1; simp; omega, ih.rest.2⟩, ?_, by have := ih.len; simp; omega, by obtain ⟨l, hl⟩ := ih.pre; exact ⟨l ++ [z], by rw [hl, List.append_assoc]⟩⟩
        · rw [ih.same]
          rfl
        · have hc := ih.cnt
          unfold unst at hc ⊢
          simp only [List.length_append, List.length_cons, List.length_nil]
          omega
theorem waitF_put {g : Int → List Int} {z : Int} {l : List Int} {h : Nat → List AV} (hh : ∀ i, i < l.length → h i = [.c (.int .i64 (l.getD i default))]) : ∀ u, (KK.int .i64).has u = true → AvIs (bif keyEq u (.int .i64 z) then .rs 1 l.length h else waitF g u) (waitF (fun y => if y = z then l else g y) u) := by
  intro u hu
  cases u <;> simp [KK.has] at hu
  rename_i kk y
  subst hu
  by_cases hy : y = z
  · subst hy
    simp only [keyEq, beq_self_eq_true, decide_true, Bool.and_self, cond_true, waitF, if_true]
    exact ⟨rfl, rfl, fun i hi => (hh i hi).symm⟩
  · have : keyEq (.int .i64 y) (.int .i64 z) = false := by simp [keyEq, hy]
    simp only [this, cond_false, waitF, if_neg hy]
    exact AvIs.refl _
def noInts : Ob := .vec 3 1 1 0 (fun _ => [])
theorem start_ok (k : K) (hk : KFacts k) (r : Rd) (kn : List Int) (hw : WaitOk k r) (hkn : unst k r.out + kn.length ≤ 1000) (hst : 0 ≤ r.steps ∧ r.steps ≤ 1000000) :
    DoesM Try.prog 95 [.ptr 0 0, .vec 6 0] (rdOs k r ++ [intsO kn]) (.tup []) (rdOs k (startR k r kn) ++ [noInts]) := by
  refine DoesM.mk (fun _ => false) 100 TT_ok Try.func95 rfl (by kernel_rfl) Try.ntmps95 rfl rfl rfl fun E hT hE hN hR => ?_
  have hm : E.P.follows .mixedOrders = true := by rw [hE]; kernel_rfl
  (repeat (first | refine XK.norm rfl rfl ?_ | refine XK.rgnA hT rfl rfl rfl ?_ | refine XK.rgnB hT hm rfl rfl rfl ?_))
  refine XK.loop (ι := Nat × Nat × Rd × List Int) (fun q => ST.of [(0, .ptr 0 0), (1, .vec 500 0), (4, .c (.int .i64 q.2.1))] ((500, intsO q.2.2.2) :: (6, noInts) :: rdN k q.2.2.1) 1000 104 (fun _ => false))
    (fun q => runS k q.1 q.2.1 q.2.2.1 q.2.2.2 = startR k r kn ∧ q.2.1 ≤ q.2.2.2.length ∧ unst k q.2.2.1.out + q.2.2.2.length ≤ q.1 + q.2.1 ∧ WaitOk k q.2.2.1 ∧ q.2.2.1.steps = r.steps ∧ unst k q.2.2.1.out + q.2.2.2.length ≤ 1000) (fun q => q.1) (unst k r.out + kn.length, 0, r, kn)
    ⟨rfl, Nat.zero_le _, Nat.le_refl _, hw, rfl, hkn⟩
    (Weak.trans (Weak.steal 500 (k := 6) (s := 0) (f' := fun _ => []) hN rfl rfl rfl) (Weak.of hN rfl rfl rfl (by (repeat' (first | exact rfl | exact AvIs.refl _ | exact trivial | exact fun _ _ => rfl | exact fun _ _ => ⟨rfl, AvIs.refl _⟩ | refine ⟨?_, ?_⟩))) (by (repeat' (first | exact rfl | exact AvIs.refl _ | exact trivial | exact fun _ _ => rfl | exact fun _ _ => ⟨rfl, AvIs.refl _⟩ | refine ⟨?_, ?_⟩))))) fun q hq => ?_
  obtain ⟨f, n, r1, kn1⟩ := q
  obtain ⟨g1, g2, g3, g4, g5, g6⟩ := hq
  dsimp only at g1 g2 g3 g4 g5 g6
  dsimp only
  (repeat (first | refine XK.norm rfl rfl ?_ | refine XK.rgnA hT rfl rfl rfl ?_ | refine XK.rgnB hT hm rfl rfl rfl ?_)); refine XK.cond rfl (fun hlt0 => ?_) (fun hlt0 => ?_)
  · have hlt : n < kn1.length := by simpa using hlt0
    obtain ⟨f, rfl⟩ : ∃ f', f = f' + 1 := ⟨f - 1, by omega⟩
    have g1' : runS k f (n + 1) (roundR k r1 kn1 n).1 (roundR k r1 kn1 n).2 = startR k r kn := by rw [← g1, runS, if_pos hlt]
    (repeat (first | refine XK.norm rfl rfl ?_ | refine XK.rgnA hT rfl rfl rfl ?_ | refine XK.rgnB hT hm rfl rfl rfl ?_))
    have hz : kn1.getD (n : Int).toNat default = kn1.getD n default := rfl
    rw [hz]
    have hws := g4 (kn1.getD n default)
    generalize hzz : kn1.getD n default = z at hws
    have hin := inner_inv (k := k) (r := r1) (kn := kn1) (ws := r1.wait z) (by omega) hws.2
    refine XK.loop (ι := Nat) (fun p => ST.of [(0, .ptr 0 0), (1, .vec 500 0), (4, .c (.int .i64 n)), (5, .vec 501 0), (23, intsV (r1.wait z)), (24, .c (.int .i64 (r1.wait z).length)), (25, .c (.int .i64 p))]
        ((500, intsO (innerTo k r1 kn1 (r1.wait z) p).2.1) :: (501, intsO (innerTo k r1 kn1 (r1.wait z) p).2.2) :: (6, noInts) :: rdN k (innerTo k r1 kn1 (r1.wait z) p).1) 2000 104 (fun _ => false))
      (fun p => p ≤ (r1.wait z).length) (fun p => (r1.wait z).length - p) 0 (Nat.zero_le _)
      (Weak.trans (Weak.ghost (j := 5) (k := 501) (e := 3) (sz := 1) (f := fun _ => []) rfl rfl) (Weak.of hN rfl rfl rfl (by (repeat' (first | exact rfl | exact AvIs.refl _ | exact trivial | exact fun _ _ => rfl | exact fun _ _ => ⟨rfl, AvIs.refl _⟩ | refine ⟨?_, ?_⟩))) (by (repeat' (first | exact rfl | exact AvIs.refl _ | exact trivial | exact fun _ _ => rfl | exact fun _ _ => ⟨rfl, AvIs.refl _⟩ | exact fun _ hi => absurd hi (Nat.not_lt_zero _) | (intro i hi; cases Nat.lt_one_iff.1 hi; rfl) | (intro j hj; by_cases hji : j = (0); (· subst hji; simp [setRowF, setL, Rd.upOut, Rd.upCnt, innerTo]; done); (· simp [setRowF, beq_false hji, Rd.upOut, Rd.upCnt, innerTo, hji, lt_succ_ne hji]; done)) | refine ⟨?_, ?_⟩))))) fun p hp => ?_
    have hip := hin p hp
    (repeat (first | refine XK.norm rfl rfl ?_ | refine XK.rgnA hT rfl rfl rfl ?_ | refine XK.rgnB hT hm rfl rfl rfl ?_)); refine XK.cond rfl (fun hlp0 => ?_) (fun hlp0 => ?_)
    · have hlp : p < (r1.wait z).length := by simpa using hlp0
      have hstep : innerTo k r1 kn1 (r1.wait z) (p + 1) = istep k (innerTo k r1 kn1 (r1.wait z) p) ((r1.wait z).getD p default) := rfl
      have hx := hws.2 _ (getD_mem' hlp)
      generalize innerTo k r1 kn1 (r1.wait z) p = s at hip hstep
      obtain ⟨i, hi⟩ : ∃ i : Nat, (r1.wait z).getD p default = (i : Int) := ⟨_, (Int.toNat_of_nonneg hx.1).symm⟩
      rw [hi] at hx hstep
      have hik : i < k.clauses.length := by omega
      have hss : s.1.steps = r.steps := by rw [hip.same]; exact g5
      have hl1 := hip.rest.1
      have hl2 := hip.cnt
      (repeat (first | refine XK.norm rfl rfl ?_ | refine XK.rgnA hT rfl rfl rfl ?_ | refine XK.rgnB hT hm rfl rfl rfl ?_))
      refine XK.weak (Weak.of (L := (7, .c (.int .i64 i)) :: [(0, .ptr 0 0), (1, .vec 500 0), (4, .c (.int .i64 n)), (5, .vec 501 0), (23, intsV (r1.wait z)), (24, .c (.int .i64 (r1.wait z).length)), (25, .c (.int .i64 p))]) (O := ((500, intsO s.2.1) :: (501, intsO s.2.2) :: (6, noInts) :: rdN k (s.1))) (nx := 4000) (nt := 104) (md := fun _ => false) hN rfl rfl rfl ⟨cI hi, rfl, rfl, rfl, rfl, AvIs.refl _, rfl, rfl⟩ (by (repeat' (first | exact rfl | exact AvIs.refl _ | exact trivial | exact fun _ _ => rfl | exact fun _ _ => ⟨rfl, AvIs.refl _⟩ | refine ⟨?_, ?_⟩)))) ?_
      (repeat (first | refine XK.norm rfl rfl ?_ | refine XK.rgnA hT rfl rfl rfl ?_ | refine XK.rgnB hT hm rfl rfl rfl ?_)); refine XK.region ?_; refine XL.goA hT rfl rfl rfl rfl ?_
      refine XL.callMA [0, 1, 2, 3, 4, 5] hE rfl rfl rfl rfl trivial (ready_ok k hk s.1 i hik) rfl rfl rfl rfl rfl ?_
      refine XL.goA hT rfl rfl rfl rfl ?_; refine XL.fin ?_; (repeat (first | refine XK.norm rfl rfl ?_ | refine XK.rgnA hT rfl rfl rfl ?_ | refine XK.rgnB hT hm rfl rfl rfl ?_))
      (repeat (first | refine XK.norm rfl rfl ?_ | refine XK.rgnA hT rfl rfl rfl ?_ | refine XK.rgnB hT hm rfl rfl rfl ?_)); refine XK.cond rfl (fun h1 => ?_) (fun h1 => ?_)
      · have h1 : readyB k s.1.out i = false := by simpa only [Bool.not_eq_true'] using h1
        have hs' : innerTo k r1 kn1 (r1.wait z) (p + 1) = (s.1, s.2.1, s.2.2 ++ [(i : Int)]) := by
          rw [hstep, istep, Int.toNat_natCast, if_pos h1]
        (repeat (first | refine XK.norm rfl rfl ?_ | refine XK.rgnA hT rfl rfl rfl ?_ | refine XK.rgnB hT hm rfl rfl rfl ?_))
        refine XK.inv ⟨p + 1, hlp, Weak.trans (Weak.stamp (k := 501) (t := 0) hN rfl rfl) (Weak.of hN rfl rfl rfl (by (repeat' (first | exact rfl | exact AvIs.refl _ | exact trivial | exact fun _ _ => rfl | exact fun _ _ => ⟨rfl, AvIs.refl _⟩ | refine ⟨?_, ?_⟩))) ?_), by omega⟩
        rw [hs']
        exact ⟨by (repeat' (first | exact rfl | exact AvIs.refl _ | exact trivial | exact fun _ _ => rfl | exact fun _ _ => ⟨rfl, AvIs.refl _⟩ | refine ⟨?_, ?_⟩)), ⟨⟨rfl, rfl, rfl⟩, by simp, ints_app s.2.2 i _ rfl⟩, by (repeat' (first | exact rfl | exact AvIs.refl _ | exact trivial | exact fun _ _ => rfl | exact fun _ _ => ⟨rfl, AvIs.refl _⟩ | refine ⟨?_, ?_⟩))⟩
      · have h1 : ¬ readyB k s.1.out i = false := by simpa only [Bool.not_eq_false', Bool.not_eq_false] using h1
        have fo : s.1.out (i : Int).toNat = s.1.out i := rfl
        (repeat (first | refine XK.norm rfl rfl ?_ | refine XK.rgnA hT rfl rfl rfl ?_ | refine XK.rgnB hT hm rfl rfl rfl ?_)); refine XK.cond rfl (fun h2 => ?_) (fun h2 => ?_)
        · have h2 : 0 ≤ (s.1.out i).from_ := of_decide_eq_true h2
          have hs' : innerTo k r1 kn1 (r1.wait z) (p + 1) = s := by
            rw [hstep, istep, Int.toNat_natCast, if_neg h1, if_pos h2]
          (repeat (first | refine XK.norm rfl rfl ?_ | refine XK.rgnA hT rfl rfl rfl ?_ | refine XK.rgnB hT hm rfl rfl rfl ?_))
          refine XK.inv ⟨p + 1, hlp, Weak.of hN rfl rfl rfl (by (repeat' (first | exact rfl | exact AvIs.refl _ | exact trivial | exact fun _ _ => rfl | exact fun _ _ => ⟨rfl, AvIs.refl _⟩ | refine ⟨?_, ?_⟩))) (by rw [hs']; (repeat' (first | exact rfl | exact AvIs.refl _ | exact trivial | exact fun _ _ => rfl | exact fun _ _ => ⟨rfl, AvIs.refl _⟩ | refine ⟨?_, ?_⟩))), by omega⟩
        · have h2 : ¬ 0 ≤ (s.1.out i).from_ := of_decide_eq_false h2
          have hs' : innerTo k r1 kn1 (r1.wait z) (p + 1) = (s.1.upOut i (startOne k s.1 i), s.2.1 ++ [(i : Int)], s.2.2) := by
            rw [hstep, istep, Int.toNat_natCast, if_neg h1, if_neg h2]
          have hkf := kind_facts (hk.clB hik).2.2.1
          have hx := hk.clW' hik
          have fc : k.clauses.getD (i : Int).toNat default = clAt k i := rfl
          (repeat (first | refine XK.norm rfl rfl ?_ | refine XK.rgnA hT rfl rfl rfl ?_ | refine XK.rgnB hT hm rfl rfl rfl ?_))
          rw [fc]
          (repeat (first | refine XK.norm rfl rfl ?_ | refine XK.rgnA hT rfl rfl rfl ?_ | refine XK.rgnB hT hm rfl rfl rfl ?_)); refine XK.join (ST.of ((7, .c (.int .i64 i)) :: [(0, .ptr 0 0), (1, .vec 500 0), (4, .c (.int .i64 n)), (5, .vec 501 0), (23, intsV (r1.wait z)), (24, .c (.int .i64 (r1.wait z).length)), (25, .c (.int .i64 p))]) ((500, intsO s.2.1) :: (501, intsO s.2.2) :: (6, noInts) :: rdN k (s.1.upOut i (startOne k s.1 i))) 6000 104 (fun _ => false)) rfl (fun h3 => ?_) (fun h3 => ?_) ?_
          · have h3 : (clAt k i).kind ≠ 4 := by simpa using h3
            have hro : 0 ≤ (clAt k i).role ∧ (clAt k i).role < k.holders.length := by
              rcases hkf with h | h
              · exact absurd h.1 h3
              · exact h.1
            (repeat (first | refine XK.norm rfl rfl ?_ | refine XK.rgnA hT rfl rfl rfl ?_ | refine XK.rgnB hT hm rfl rfl rfl ?_))
            exact XK.inv (Weak.of hN rfl rfl rfl (by (repeat' (first | exact rfl | exact AvIs.refl _ | exact trivial | exact fun _ _ => rfl | exact fun _ _ => ⟨rfl, AvIs.refl _⟩ | refine ⟨?_, ?_⟩))) (by (repeat' (first | exact rfl | exact AvIs.refl _ | exact trivial | exact fun _ _ => rfl | exact fun _ _ => ⟨rfl, AvIs.refl _⟩ | exact fun _ hi => absurd hi (Nat.not_lt_zero _) | (intro i hi; cases Nat.lt_one_iff.1 hi; rfl) | (intro j hj; by_cases hji : j = (i); (· subst hji; simp [setRowF, setL, Rd.upOut, Rd.upCnt, startOne, if_pos h3]; done); (· simp [setRowF, beq_false hji, Rd.upOut, Rd.upCnt, startOne, if_pos h3, hji, lt_succ_ne hji]; done)) | refine ⟨?_, ?_⟩))))
          · have h3 : ¬ (clAt k i).kind ≠ 4 := by simpa using h3
            (repeat (first | refine XK.norm rfl rfl ?_ | refine XK.rgnA hT rfl rfl rfl ?_ | refine XK.rgnB hT hm rfl rfl rfl ?_))
            exact XK.inv (Weak.of hN rfl rfl rfl (by (repeat' (first | exact rfl | exact AvIs.refl _ | exact trivial | exact fun _ _ => rfl | exact fun _ _ => ⟨rfl, AvIs.refl _⟩ | refine ⟨?_, ?_⟩))) (by (repeat' (first | exact rfl | exact AvIs.refl _ | exact trivial | exact fun _ _ => rfl | exact fun _ _ => ⟨rfl, AvIs.refl _⟩ | exact fun _ hi => absurd hi (Nat.not_lt_zero _) | (intro i hi; cases Nat.lt_one_iff.1 hi; rfl) | (intro j hj; by_cases hji : j = (i); (· subst hji; simp [setRowF, setL, Rd.upOut, Rd.upCnt, startOne, if_neg h3]; done); (· simp [setRowF, beq_false hji, Rd.upOut, Rd.upCnt, startOne, if_neg h3, hji, lt_succ_ne hji]; done)) | refine ⟨?_, ?_⟩))))
          (repeat (first | refine XK.norm rfl rfl ?_ | refine XK.rgnA hT rfl rfl rfl ?_ | refine XK.rgnB hT hm rfl rfl rfl ?_))
          refine XK.inv ⟨p + 1, hlp, Weak.trans (Weak.stamp (k := 500) (t := 0) hN rfl rfl) (Weak.of hN rfl rfl rfl (by (repeat' (first | exact rfl | exact AvIs.refl _ | exact trivial | exact fun _ _ => rfl | exact fun _ _ => ⟨rfl, AvIs.refl _⟩ | refine ⟨?_, ?_⟩))) ?_), by omega⟩
          rw [hs']
          exact ⟨⟨⟨rfl, rfl, rfl⟩, by simp, ints_app s.2.1 i _ rfl⟩, by (repeat' (first | exact rfl | exact AvIs.refl _ | exact trivial | exact fun _ _ => rfl | exact fun _ _ => ⟨rfl, AvIs.refl _⟩ | refine ⟨?_, ?_⟩))⟩
    · have hlp : ¬ p < (r1.wait z).length := by simpa using hlp0
      have hpe : p = (r1.wait z).length := by omega
      subst hpe
      have hr : roundR k r1 kn1 n = (putWait (innerTo k r1 kn1 (r1.wait z) (r1.wait z).length).1 z (innerTo k r1 kn1 (r1.wait z) (r1.wait z).length).2.2, (innerTo k r1 kn1 (r1.wait z) (r1.wait z).length).2.1) := by
        unfold roundR
        rw [hzz]
      generalize innerTo k r1 kn1 (r1.wait z) (r1.wait z).length = s at hip hr
      rw [hr] at g1'
      obtain ⟨l, hl⟩ := hip.pre
      have hz2 : s.2.1.getD n default = z := by rw [hl, ← hzz]; simp [List.getD, List.getElem?_append_left hlt]
      have hz3 : s.2.1.getD (n : Int).toNat default = z := hz2
      have hn2 : n < s.2.1.length := by have := hip.len; omega
      have hc := hip.cnt
      have hl1 := hip.rest.1
      (repeat (first | refine XK.norm rfl rfl ?_ | refine XK.rgnA hT rfl rfl rfl ?_ | refine XK.rgnB hT hm rfl rfl rfl ?_))
      refine XK.weak (Weak.trans (Weak.frozen (k := 501) hN rfl rfl) (Weak.of (L := [(0, .ptr 0 0), (1, .vec 500 0), (4, .c (.int .i64 n)), (5, intsV s.2.2)]) (O := (500, intsO s.2.1) :: (6, noInts) :: rdN k s.1) (nx := 5000) (nt := 104) (md := fun _ => false) hN rfl rfl rfl ⟨rfl, rfl, rfl, AvIs.refl _⟩ (by (repeat' (first | exact rfl | exact AvIs.refl _ | exact trivial | exact fun _ _ => rfl | exact fun _ _ => ⟨rfl, AvIs.refl _⟩ | refine ⟨?_, ?_⟩))))) ?_
      (repeat (first | refine XK.norm rfl rfl ?_ | refine XK.rgnA hT rfl rfl rfl ?_ | refine XK.rgnB hT hm rfl rfl rfl ?_))
      rw [hz3]
      refine XK.inv ⟨(f, n + 1, putWait s.1 z s.2.2, s.2.1), ⟨g1', by simp only; omega, by show unst k s.1.out + s.2.1.length ≤ f + (n + 1); omega, fun y => ?_, by show s.1.steps = r.steps; rw [hip.same]; exact g5, by show unst k s.1.out + s.2.1.length ≤ 1000; omega⟩, Weak.of hN rfl rfl rfl (by (repeat' (first | exact rfl | exact AvIs.refl _ | exact trivial | exact fun _ _ => rfl | exact fun _ _ => ⟨rfl, AvIs.refl _⟩ | refine ⟨?_, ?_⟩))) ?_, by simp only; omega⟩
      · simp only [putWait]
        by_cases hy : y = z
        · rw [if_pos hy]
          exact ⟨by omega, fun x hx => hws.2 x (hip.rest.2 x hx)⟩
        · rw [if_neg hy, hip.same]
          exact g4 y
      · exact ⟨by (repeat' (first | exact rfl | exact AvIs.refl _ | exact trivial | exact fun _ _ => rfl | exact fun _ _ => ⟨rfl, AvIs.refl _⟩ | refine ⟨?_, ?_⟩)), by (repeat' (first | exact rfl | exact AvIs.refl _ | exact trivial | exact fun _ _ => rfl | exact fun _ _ => ⟨rfl, AvIs.refl _⟩ | refine ⟨?_, ?_⟩)), by (repeat' (first | exact rfl | exact AvIs.refl _ | exact trivial | exact fun _ _ => rfl | exact fun _ _ => ⟨rfl, AvIs.refl _⟩ | refine ⟨?_, ?_⟩)), by (repeat' (first | exact rfl | exact AvIs.refl _ | exact trivial | exact fun _ _ => rfl | exact fun _ _ => ⟨rfl, AvIs.refl _⟩ | refine ⟨?_, ?_⟩)), by (repeat' (first | exact rfl | exact AvIs.refl _ | exact trivial | exact fun _ _ => rfl | exact fun _ _ => ⟨rfl, AvIs.refl _⟩ | refine ⟨?_, ?_⟩)), ⟨rfl, rfl, fun u hu => ⟨rfl, waitF_put (fun i hi => rfl) u hu⟩⟩, by (repeat' (first | exact rfl | exact AvIs.refl _ | exact trivial | exact fun _ _ => rfl | exact fun _ _ => ⟨rfl, AvIs.refl _⟩ | refine ⟨?_, ?_⟩))⟩
  · have hlt : ¬ n < kn1.length := by simpa using hlt0
    have hr : r1 = startR k r kn := by
      rw [← g1]
      cases f with
      | zero => rfl
      | succ f => rw [runS, if_neg hlt]
    subst hr
    (repeat (first | refine XK.norm rfl rfl ?_ | refine XK.rgnA hT rfl rfl rfl ?_ | refine XK.rgnB hT hm rfl rfl rfl ?_))
    (first | refine XK.outR [0, 1, 2, 3, 4, 5, 6] hN rfl rfl rfl ?_ rfl rfl ?_ | refine XK.outRN [0, 1, 2, 3, 4, 5, 6] hN rfl rfl rfl ?_ rfl rfl ?_)
    · (repeat' (first | exact rfl | exact AvIs.refl _ | exact trivial | exact fun _ _ => rfl | exact fun _ _ => ⟨rfl, AvIs.refl _⟩ | refine ⟨?_, ?_⟩))
    · (repeat' (first | exact rfl | exact AvIs.refl _ | exact trivial | exact fun _ _ => rfl | exact fun _ _ => ⟨rfl, AvIs.refl _⟩ | refine ⟨?_, ?_⟩))
end Go.Proofs.Ytiiegpjpckkohaa
end
