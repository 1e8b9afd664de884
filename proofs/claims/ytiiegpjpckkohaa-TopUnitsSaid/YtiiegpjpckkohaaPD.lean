import Derived.Test.YtiiegpjpckkohaaPC
section
/- Contracts: package trace: the readings of beginnings; follow. -/
namespace Go.Proofs.Ytiiegpjpckkohaa
open Go.Eng
set_option maxRecDepth 10000
set_option linter.unusedSimpArgs false
set_option linter.unusedVariables false
/-- What starting clauses leaves as it is. -/
structure Kept (k : K) (r r' : Rd) : Prop where
  steps : r'.steps = r.steps
  day : r'.day = r.day
  hold : r'.hold = r.hold
  hap : r'.hap = r.hap
  cnt : r'.cnt = r.cnt
  got : ∀ j, (r'.out j).got = (r.out j).got
  wait : WaitOk k r → WaitOk k r'
theorem Kept.trans {k : K} {a b c : Rd} (h : Kept k a b) (h' : Kept k b c) : Kept k a c :=
  ⟨h'.steps.trans h.steps, h'.day.trans h.day, h'.hold.trans h.hold, h'.hap.trans h.hap, h'.cnt.trans h.cnt, fun j => (h'.got j).trans (h.got j), fun w => h'.wait (h.wait w)⟩
theorem istep_got (k : K) (s : Rd × List Int × List Int) (z : Int) (j : Nat) : ((istep k s z).1.out j).got = (s.1.out j).got := by
  unfold istep
  split
  · rfl
  · split
    · rfl
    · simp only [Rd.upOut]
      by_cases h : j = z.toNat
      · rw [if_pos h, h]; rfl
      · rw [if_neg h]
theorem inner_got (k : K) (r : Rd) (kn ws : List Int) (j : Nat) : ∀ p, ((innerTo k r kn ws p).1.out j).got = (r.out j).got
  | 0 => rfl
  | p + 1 => (istep_got k _ _ j).trans (inner_got k r kn ws j p)
theorem roundR_kept {k : K} {r : Rd} {kn : List Int} {n : Nat} (hst : 0 ≤ r.steps) (hw : WaitOk k r) : Kept k r (roundR k r kn n).1 := by
  have hws := hw (kn.getD n default)
  have hin := inner_inv (k := k) (r := r) (kn := kn) hst hws.2 _ (Nat.le_refl _)
  have hg := fun j => inner_got k r kn (r.wait (kn.getD n default)) j (r.wait (kn.getD n default)).length
  unfold roundR
  simp only
  generalize innerTo k r kn (r.wait (kn.getD n default)) (r.wait (kn.getD n default)).length = s at hin hg
  have hs := hin.same
  refine ⟨by simp only [putWait]; rw [hs], by simp only [putWait]; rw [hs], by simp only [putWait]; rw [hs], by simp only [putWait]; rw [hs], by simp only [putWait]; rw [hs], hg, fun _ y => ?_⟩
  simp only [putWait]
  by_cases hy : y = kn.getD n default
  · rw [if_pos hy]
    exact ⟨by have := hin.rest.1; omega, fun x hx => hws.2 x (hin.rest.2 x hx)⟩
  · rw [if_neg hy, hs]
    exact hw y
theorem runS_kept {k : K} : ∀ (f n : Nat) (r : Rd) (kn : List Int), 0 ≤ r.steps → WaitOk k r → Kept k r (runS k f n r kn)
  | 0, _, r, _, _, _ => ⟨rfl, rfl, rfl, rfl, rfl, fun _ => rfl, id⟩
  | f + 1, n, r, kn, hst, hw => by
    rw [runS]
    split
    · have h := roundR_kept (k := k) (r := r) (kn := kn) (n := n) hst hw
      exact h.trans (runS_kept f (n + 1) _ _ (by rw [h.steps]; exact hst) (h.wait hw))
    · exact ⟨rfl, rfl, rfl, rfl, rfl, fun _ => rfl, id⟩
theorem startR_kept {k : K} {r : Rd} {kn : List Int} (hst : 0 ≤ r.steps) (hw : WaitOk k r) : Kept k r (startR k r kn) := runS_kept _ _ _ _ hst hw
theorem RdOk.of_kept {k : K} {r r' : Rd} (h : RdOk k r) (hk : Kept k r r') : RdOk k r' :=
  ⟨by rw [hk.steps]; exact h.steps, by rw [hk.day, hk.steps]; exact h.day, fun j hj => by rw [hk.got, hk.steps]; exact h.got j hj, fun j hj => by rw [hk.cnt, hk.steps]; exact h.cnt j hj, hk.wait h.wait⟩
theorem begin0_ok {k : K} (hk : KFacts k) : RdOk k (begin0 k) := by
  refine ⟨by simp [begin0], by simp [begin0], fun j hj => ?_, fun j hj => by simp [begin0], fun z => ⟨?_, (waitTo_ok hk _ (Nat.le_refl _) z).2⟩⟩
  · simp only [begin0, firstOut]
    split <;> simp
  · have := (waitTo_ok hk _ (Nat.le_refl _) z).1
    have h2 := hk.nc
    simp only [begin0]; omega
theorem beginR_ok {k : K} (hk : KFacts k) : RdOk k (beginR k) ∧ (beginR k).steps = 0 := by
  have h := startR_kept (k := k) (r := begin0 k) (kn := knownTo k k.clauses.length) (by simp [begin0]) (begin0_ok hk).wait
  exact ⟨(begin0_ok hk).of_kept h, h.steps⟩
theorem countOne_got {x : Cl} {steps doer : Int} {p : Bool} {o : Oc} : o.got ≤ (countOne x steps doer p o).1.got ∧ (countOne x steps doer p o).1.got ≤ o.got + 1 := by
  unfold countOne
  split
  · exact ⟨Int.le_refl _, by (try simp only); omega⟩
  · split
    · split <;> exact ⟨by simp only; omega, by simp only; omega⟩
    · split
      · split
        · exact ⟨Int.le_refl _, by (try simp only); omega⟩
        · exact ⟨by simp only; omega, by simp only; omega⟩
      · exact ⟨by simp only; omega, by simp only; omega⟩
theorem actAt1_got (k : K) (r : Rd) (s j : Nat) : (r.out j).got ≤ (actAt1 k r s j).1.got ∧ (actAt1 k r s j).1.got ≤ (r.out j).got + 1 := by
  unfold actAt1 actOne
  split
  · simp only
    split
    · exact countOne_got
    · exact ⟨Int.le_refl _, by (try simp only); omega⟩
  · exact ⟨Int.le_refl _, by (try simp only); omega⟩
theorem actTo_got (k : K) (r : Rd) (s n j : Nat) : (r.out j).got ≤ ((actTo k r s n).out j).got ∧ ((actTo k r s n).out j).got ≤ (r.out j).got + 1 := by
  simp only [actTo]
  split
  · exact actAt1_got k r s j
  · exact ⟨Int.le_refl _, by (try simp only); omega⟩
theorem novTo_got (k : K) (a : Act) (r : Rd) (n j : Nat) : ((novTo k a r n).out j).got = (r.out j).got := by
  simp only [novTo]
  split
  · split <;> rfl
  · rfl
theorem actR_got (k : K) (r : Rd) (s j : Nat) : (r.out j).got ≤ ((actR k r s).out j).got ∧ ((actR k r s).out j).got ≤ (r.out j).got + 1 := by
  unfold actR
  simp only
  split
  · exact actTo_got k r s _ j
  · rw [novTo_got]; exact actTo_got k r s _ j
theorem actR_cnt (k : K) (r : Rd) (s j : Nat) : ((actR k r s).cnt j).1 = (r.cnt j).1 := by
  unfold actR
  simp only
  split <;> (simp only [actTo, novTo]; split <;> rfl)
theorem tickOne_got (x : Cl) (free : Bool) (steps : Int) (o : Oc) (c : Int × Bool) : (tickOne x free steps o c).1.got = o.got ∧ c.1 ≤ (tickOne x free steps o c).2.1 ∧ (tickOne x free steps o c).2.1 ≤ c.1 + 1 := by
  unfold tickOne
  split
  · exact ⟨rfl, by simp only; omega, by simp only; omega⟩
  · split
    · exact ⟨rfl, by simp only; omega, by simp only; omega⟩
    · split <;> exact ⟨rfl, by simp only; omega, by simp only; omega⟩
theorem stepR_ok {k : K} (hk : KFacts k) {r : Rd} (h : RdOk k r) (hs : r.steps < 900000) (s : Int) : RdOk k (stepR k r s) ∧ (stepR k r s).steps = r.steps + 1 := by
  have h0 := h.steps
  have hd := h.day
  unfold stepR
  split
  · have hok : RdOk k (tickTo k { r with steps := r.steps + 1 } (freeB k r.day) k.clauses.length) := by
      refine ⟨by simp only [tickTo]; omega, by simp only [tickTo]; omega, fun j hj => ?_, fun j hj => ?_, h.wait⟩
      · have h1 := h.got j hj
        simp only [tickTo, if_pos hj, tickAt]
        rw [(tickOne_got _ _ _ _ _).1]
        omega
      · have h1 := h.cnt j hj
        simp only [tickTo, if_pos hj, tickAt]
        have := (tickOne_got (clAt k j) (freeB k r.day) (r.steps + 1) (r.out j) (r.cnt j)).2
        omega
    have hk' := startR_kept (k := k) (r := tickTo k { r with steps := r.steps + 1 } (freeB k r.day) k.clauses.length) (kn := endedT k { r with steps := r.steps + 1 } (freeB k r.day) k.clauses.length) hok.steps.1 hok.wait
    exact ⟨hok.of_kept hk', hk'.steps⟩
  · have hsame := actR_same k { r with steps := r.steps + 1 } s.toNat
    have hok : RdOk k (actR k { r with steps := r.steps + 1 } s.toNat) := by
      refine ⟨by rw [hsame.2.1]; simp only; omega, by rw [hsame.2.1, hsame.2.2]; simp only; omega, fun j hj => ?_, fun j hj => ?_, by unfold WaitOk; rw [hsame.1]; exact h.wait⟩
      · have h1 := h.got j hj
        have h2 := actR_got k { r with steps := r.steps + 1 } s.toNat j
        rw [hsame.2.1]
        simp only at h2 ⊢
        omega
      · have h1 := h.cnt j hj
        rw [actR_cnt, hsame.2.1]
        simp only
        omega
    have hk' := startR_kept (k := k) (r := actR k { r with steps := r.steps + 1 } s.toNat) (kn := endedA k { r with steps := r.steps + 1 } s.toNat k.clauses.length) hok.steps.1 hok.wait
    exact ⟨hok.of_kept hk', by rw [hk'.steps, hsame.2.1]⟩
/-- The reading of the first n steps. -/
def followR (k : K) (l : List Int) : Nat → Rd
  | 0 => beginR k
  | n + 1 => stepR k (followR k l n) (l.getD n default)
theorem followR_ok {k : K} (hk : KFacts k) (l : List Int) : ∀ n, n < 900000 → RdOk k (followR k l n) ∧ (followR k l n).steps = n
  | 0, _ => beginR_ok hk
  | n + 1, hn => by
    obtain ⟨h1, h2⟩ := followR_ok hk l n (by omega)
    obtain ⟨h3, h4⟩ := stepR_ok hk h1 (by rw [h2]; omega) (l.getD n default)
    exact ⟨h3, by show (stepR k _ _).steps = _; rw [h4, h2]; omega⟩
theorem followR_take (k : K) (l : List Int) (m : Nat) : ∀ n, n ≤ m → followR k (l.take m) n = followR k l n
  | 0, _ => rfl
  | n + 1, h => by
    simp only [followR]
    rw [followR_take k l m n (by omega)]
    have : (l.take m).getD n default = l.getD n default := by
      simp only [List.getD_eq_getElem?_getD, List.getElem?_take]
      rw [if_pos (by omega)]
    rw [this]
def rdN10 (k : K) (r : Rd) : List (Nat × Ob) := [(10, .cells 121 [.c (.int .i64 k.parties), intsV k.holders, unitsV k.units, actsV k.acts, clsV k.clauses, .c (.int .i64 k.days), intsV k.off,
  .c (.int .i64 r.steps), .c (.int .i64 r.day), .vec 11 0, .vec 12 0, freeV k, .mp 13, .vec 14 0, .vec 15 0]), (11, holdO k r), (12, hapO k r), (13, waitO r), (14, cntO k r), (15, outO k r)]
def stepsOk (k : K) (l : List Int) : Prop := ∀ i, i < l.length → l.getD i default = -1 ∨ (0 ≤ l.getD i default ∧ l.getD i default < k.acts.length)
theorem follow_ok (k : K) (hk : KFacts k) (l : List Int) (hl : stepsOk k l) (hlen : l.length ≤ 4000) : DoesM Try.prog 63 [kV k, intsV l] [] (.ptr 0 0) (rdOs k (followR k l l.length)) := by
  refine DoesM.mk (fun _ => false) 100 TT_ok Try.func63 rfl (by kernel_rfl) Try.ntmps63 rfl rfl rfl fun E hT hE hN hR => ?_
  have hm : E.P.follows .mixedOrders = true := by rw [hE]; kernel_rfl
  (repeat (first | refine XK.norm rfl rfl ?_ | refine XK.rgnA hT rfl rfl rfl ?_ | refine XK.rgnB hT hm rfl rfl rfl ?_)); refine XK.region ?_; refine XL.goA hT rfl rfl rfl rfl ?_
  refine XL.callMA [10, 11, 12, 13, 14, 15] hE rfl rfl rfl rfl trivial (begin_ok k hk) rfl rfl rfl rfl rfl ?_
  refine XL.goA hT rfl rfl rfl rfl ?_; refine XL.fin ?_; (repeat (first | refine XK.norm rfl rfl ?_ | refine XK.rgnA hT rfl rfl rfl ?_ | refine XK.rgnB hT hm rfl rfl rfl ?_))
  (repeat (first | refine XK.norm rfl rfl ?_ | refine XK.rgnA hT rfl rfl rfl ?_ | refine XK.rgnB hT hm rfl rfl rfl ?_))
  refine XK.loop (ι := Nat) (fun i => ST.of [(5, .ptr 10 0), (10, intsV l), (11, .c (.int .i64 l.length)), (12, .c (.int .i64 i))] (rdN10 k (followR k l i)) 1000 21 (fun _ => false))
    (fun i => i ≤ l.length) (fun i => l.length - i) 0 (Nat.zero_le _)
    (Weak.of hN rfl rfl rfl (by (repeat' (first | exact rfl | exact AvIs.refl _ | exact trivial | exact fun _ _ => rfl | exact fun _ _ => ⟨rfl, AvIs.refl _⟩ | refine ⟨?_, ?_⟩))) (by (repeat' (first | exact rfl | exact AvIs.refl _ | exact trivial | exact fun _ _ => rfl | exact fun _ _ => ⟨rfl, AvIs.refl _⟩ | refine ⟨?_, ?_⟩)))) fun i hi => ?_
  (repeat (first | refine XK.norm rfl rfl ?_ | refine XK.rgnA hT rfl rfl rfl ?_ | refine XK.rgnB hT hm rfl rfl rfl ?_)); refine XK.cond rfl (fun hlt => ?_) (fun hlt => ?_) <;> (try simp at hlt)
  · have hs := hl i hlt
    have hok := (followR_ok hk l i (by omega)).1
    (repeat (first | refine XK.norm rfl rfl ?_ | refine XK.rgnA hT rfl rfl rfl ?_ | refine XK.rgnB hT hm rfl rfl rfl ?_)); refine XK.region ?_; refine XL.goA hT rfl rfl rfl rfl ?_
    refine XL.callMA [10, 11, 12, 13, 14, 15] hE rfl rfl rfl rfl trivial (step_ok k hk (followR k l i) hok (l.getD i default) hs) rfl rfl rfl rfl rfl ?_
    refine XL.goA hT rfl rfl rfl rfl ?_; refine XL.fin ?_; (repeat (first | refine XK.norm rfl rfl ?_ | refine XK.rgnA hT rfl rfl rfl ?_ | refine XK.rgnB hT hm rfl rfl rfl ?_))
    (repeat (first | refine XK.norm rfl rfl ?_ | refine XK.rgnA hT rfl rfl rfl ?_ | refine XK.rgnB hT hm rfl rfl rfl ?_))
    exact XK.inv ⟨i + 1, hlt, Weak.of hN rfl rfl rfl (by (repeat' (first | exact rfl | exact AvIs.refl _ | exact trivial | exact fun _ _ => rfl | exact fun _ _ => ⟨rfl, AvIs.refl _⟩ | refine ⟨?_, ?_⟩))) (by (repeat' (first | exact rfl | exact AvIs.refl _ | exact trivial | exact fun _ _ => rfl | exact fun _ _ => ⟨rfl, AvIs.refl _⟩ | refine ⟨?_, ?_⟩))), by omega⟩
  · have hie : i = l.length := by omega
    subst hie
    (repeat (first | refine XK.norm rfl rfl ?_ | refine XK.rgnA hT rfl rfl rfl ?_ | refine XK.rgnB hT hm rfl rfl rfl ?_))
    (first | refine XK.outR [10, 11, 12, 13, 14, 15] hN rfl rfl rfl ?_ rfl rfl ?_ | refine XK.outRN [10, 11, 12, 13, 14, 15] hN rfl rfl rfl ?_ rfl rfl ?_)
    · (repeat' (first | exact rfl | exact AvIs.refl _ | exact trivial | exact fun _ _ => rfl | exact fun _ _ => ⟨rfl, AvIs.refl _⟩ | refine ⟨?_, ?_⟩))
    · (repeat' (first | exact rfl | exact AvIs.refl _ | exact trivial | exact fun _ _ => rfl | exact fun _ _ => ⟨rfl, AvIs.refl _⟩ | refine ⟨?_, ?_⟩))
end Go.Proofs.Ytiiegpjpckkohaa
end
section
/- Contracts: package trace: Outcomes, Outcome, Holder. -/
namespace Go.Proofs.Ytiiegpjpckkohaa
open Go.Eng
set_option maxRecDepth 10000
set_option linter.unusedSimpArgs false
set_option linter.unusedVariables false
theorem stepErr_mono {k : K} {l : List Int} : ∀ m i, i ≤ m → stepErr k l m = 0 → stepErr k l i = 0 := by
  intro m i h h0
  by_cases h1 : stepErr k l i = 0
  · exact h1
  · rw [stepErr_low h1 m h] at h0; exact absurd h0 h1
theorem checkR_ok {k : K} {l : List Int} (hw : kW k) (h : checkR k l = 0) : kOk k ∧ stepsOk k l ∧ l.length ≤ 4000 ∧ stepErr k l l.length = 0 := by
  unfold checkR at h
  split at h
  · cases h
  · rename_i h1
    split at h
    · cases h
    · refine ⟨⟨hw, by simpa using h1⟩, fun i hi => ?_, by omega, h⟩
      have h2 := stepErr_mono l.length (i + 1) hi h
      have h3 := stepErr_mono l.length i (by omega) h
      simp only [stepErr, h3, ne_eq, not_true_eq_false, if_false] at h2
      split at h2
      · cases h2
      · rename_i h4
        simp only [Bool.or_eq_true, decide_eq_true_eq, not_or] at h4
        omega
noncomputable def outsN (k : K) (l : List Int) : Nat := if checkR k l = 0 then k.clauses.length else 0
theorem outcomes_ok (k : K) (hk : kW k) (l : List Int) : Does Try.prog 29 [kV k, intsV l] (.tup [ocsV (outsN k l) (followR k l l.length).out, .c (.int .i64 (checkR k l))]) := by
  refine Does.mk (fun _ => false) TT_ok Try.func29 rfl (by kernel_rfl) Try.ntmps29 rfl rfl fun E hT hE hN hR => ?_
  have hm : E.P.follows .mixedOrders = true := by rw [hE]; kernel_rfl
  (repeat (first | refine XK.norm rfl rfl ?_ | refine XK.rgnA hT rfl rfl rfl ?_ | refine XK.rgnB hT hm rfl rfl rfl ?_)); refine XK.region ?_; refine XL.goA hT rfl rfl rfl rfl ?_
  refine XL.callLA hE rfl rfl rfl rfl trivial rfl (check_ok k hk l) rfl ?_
  refine XL.goA hT rfl rfl rfl rfl ?_; refine XL.fin ?_; (repeat (first | refine XK.norm rfl rfl ?_ | refine XK.rgnA hT rfl rfl rfl ?_ | refine XK.rgnB hT hm rfl rfl rfl ?_))
  (repeat (first | refine XK.norm rfl rfl ?_ | refine XK.rgnA hT rfl rfl rfl ?_ | refine XK.rgnB hT hm rfl rfl rfl ?_)); refine XK.cond rfl (fun h1 => ?_) (fun h1 => ?_)
  · have h1 : checkR k l ≠ 0 := by simpa using h1
    (repeat (first | refine XK.norm rfl rfl ?_ | refine XK.rgnA hT rfl rfl rfl ?_ | refine XK.rgnB hT hm rfl rfl rfl ?_))
    (first | refine XK.outL rfl rfl rfl ?_ | refine XK.outLN rfl rfl rfl ?_)
    exact ⟨⟨rfl, by rw [outsN, if_neg h1]⟩, rfl⟩
  · have h1 : checkR k l = 0 := by simpa using h1
    obtain ⟨h2, h3, h4, -⟩ := checkR_ok hk h1
    (repeat (first | refine XK.norm rfl rfl ?_ | refine XK.rgnA hT rfl rfl rfl ?_ | refine XK.rgnB hT hm rfl rfl rfl ?_)); refine XK.region ?_; refine XL.goA hT rfl rfl rfl rfl ?_
    refine XL.callMA [10, 11, 12, 13, 14, 15] hE rfl rfl rfl rfl trivial (follow_ok k h2.facts l h3 h4) rfl rfl rfl rfl rfl ?_
    refine XL.goA hT rfl rfl rfl rfl ?_; refine XL.fin ?_; (repeat (first | refine XK.norm rfl rfl ?_ | refine XK.rgnA hT rfl rfl rfl ?_ | refine XK.rgnB hT hm rfl rfl rfl ?_))
    (repeat (first | refine XK.norm rfl rfl ?_ | refine XK.rgnA hT rfl rfl rfl ?_ | refine XK.rgnB hT hm rfl rfl rfl ?_))
    refine XK.weak (Weak.trans (Weak.frozen (k := 15) hN rfl rfl) (Weak.of (L := [(4, ocsV k.clauses.length (followR k l l.length).out), (5, .c (.int .i64 0))]) (O := []) (nx := 1000) (nt := 19) (md := fun _ => false) hN rfl rfl rfl ⟨AvIs.refl _, rfl⟩ trivial)) ?_
    (first | refine XK.outL rfl rfl rfl ?_ | refine XK.outLN rfl rfl rfl ?_)
    rw [outsN, if_pos h1, h1]
    exact AvIs.refl _
def zOc : Oc := ⟨0, 0, 0, 0, 0⟩
noncomputable def outcomeR (k : K) (l : List Int) (clause after : Int) : Oc × Int :=
  if checkR k l ≠ 0 then (zOc, checkR k l)
  else if clause < 0 ∨ (k.clauses.length : Int) ≤ clause ∨ after < 0 ∨ (l.length : Int) < after then (zOc, 1)
  else ((followR k l after.toNat).out clause.toNat, 0)
theorem stepsOk.take {k : K} {l : List Int} (h : stepsOk k l) (n : Nat) : stepsOk k (l.take n) := by
  intro i hi
  have hi : i < n ∧ i < l.length := by rw [List.length_take] at hi; omega
  have : (l.take n).getD i default = l.getD i default := by
    simp only [List.getD_eq_getElem?_getD, List.getElem?_take]
    rw [if_pos hi.1]
  rw [this]
  exact h i hi.2
theorem intsV_take (l : List Int) (n : Nat) (h : n ≤ l.length) : AvIs (.rs 1 n (fun i => iC (l.getD i default))) (intsV (l.take n)) := by
  refine ⟨rfl, by simp; omega, fun i hi => ?_⟩
  show iC _ = iC _
  congr 1
  simp only [List.getD_eq_getElem?_getD, List.getElem?_take]
  rw [if_pos hi]
theorem outcome_ok (k : K) (hk : kW k) (l : List Int) (clause after : Int) : Does Try.prog 80 [kV k, intsV l, .c (.int .i64 clause), .c (.int .i64 after)] (.tup [ocV (outcomeR k l clause after).1, .c (.int .i64 (outcomeR k l clause after).2)]) := by
  refine Does.mk (fun _ => false) TT_ok Try.func80 rfl (by kernel_rfl) Try.ntmps80 rfl rfl fun E hT hE hN hR => ?_
  have hm : E.P.follows .mixedOrders = true := by rw [hE]; kernel_rfl
  (repeat (first | refine XK.norm rfl rfl ?_ | refine XK.rgnA hT rfl rfl rfl ?_ | refine XK.rgnB hT hm rfl rfl rfl ?_)); refine XK.region ?_; refine XL.goA hT rfl rfl rfl rfl ?_
  refine XL.callLA hE rfl rfl rfl rfl trivial rfl (check_ok k hk l) rfl ?_
  refine XL.goA hT rfl rfl rfl rfl ?_; refine XL.fin ?_; (repeat (first | refine XK.norm rfl rfl ?_ | refine XK.rgnA hT rfl rfl rfl ?_ | refine XK.rgnB hT hm rfl rfl rfl ?_))
  (repeat (first | refine XK.norm rfl rfl ?_ | refine XK.rgnA hT rfl rfl rfl ?_ | refine XK.rgnB hT hm rfl rfl rfl ?_)); refine XK.cond rfl (fun h1 => ?_) (fun h1 => ?_)
  · have h1 : checkR k l ≠ 0 := by simpa using h1
    (repeat (first | refine XK.norm rfl rfl ?_ | refine XK.rgnA hT rfl rfl rfl ?_ | refine XK.rgnB hT hm rfl rfl rfl ?_))
    (first | refine XK.out rfl rfl rfl ?_ | refine XK.outN rfl rfl rfl ?_)
    rw [outcomeR, if_pos h1]
    rfl
  · have h1 : checkR k l = 0 := by simpa using h1
    obtain ⟨h2, h3, h4, -⟩ := checkR_ok hk h1
    (repeat (first | refine XK.norm rfl rfl ?_ | refine XK.rgnA hT rfl rfl rfl ?_ | refine XK.rgnB hT hm rfl rfl rfl ?_)); refine XK.cond rfl (fun h5 => ?_) (fun h5 => ?_)
    · have h5 : clause < 0 ∨ (k.clauses.length : Int) ≤ clause ∨ after < 0 ∨ (l.length : Int) < after := by
        simp only [Bool.or_eq_true, decide_eq_true_eq] at h5
        omega
      (repeat (first | refine XK.norm rfl rfl ?_ | refine XK.rgnA hT rfl rfl rfl ?_ | refine XK.rgnB hT hm rfl rfl rfl ?_))
      (first | refine XK.out rfl rfl rfl ?_ | refine XK.outN rfl rfl rfl ?_)
      rw [outcomeR, if_neg (by simpa using h1), if_pos h5]
      rfl
    · have h5 : ¬ (clause < 0 ∨ (k.clauses.length : Int) ≤ clause ∨ after < 0 ∨ (l.length : Int) < after) := by
        simp only [Bool.or_eq_false_iff, decide_eq_false_iff_not] at h5
        omega
      obtain ⟨c, rfl⟩ := Int.eq_ofNat_of_zero_le (show 0 ≤ clause by omega)
      obtain ⟨n, rfl⟩ := Int.eq_ofNat_of_zero_le (show 0 ≤ after by omega)
      have hn : n ≤ l.length := by omega
      have hf : (l.take n).length = n := by simp; omega
      have hfo := follow_ok k h2.facts (l.take n) (h3.take n) (by omega)
      rw [hf, followR_take k l n n (Nat.le_refl _)] at hfo
      (repeat (first | refine XK.norm rfl rfl ?_ | refine XK.rgnA hT rfl rfl rfl ?_ | refine XK.rgnB hT hm rfl rfl rfl ?_)); refine XK.drawn hm ?_; refine XD.goA hT rfl rfl rfl rfl ?_
      refine XD.callM [10, 11, 12, 13, 14, 15] hE rfl rfl rfl rfl trivial hfo rfl ?_ rfl ?_ rfl rfl rfl ?_
      · exact ⟨rfl, intsV_take l n hn⟩
      · exact trivial
      refine XD.goA hT rfl rfl rfl rfl ?_; refine XD.fin (by kernel_rfl) ?_; (repeat (first | refine XK.norm rfl rfl ?_ | refine XK.rgnA hT rfl rfl rfl ?_ | refine XK.rgnB hT hm rfl rfl rfl ?_))
      (repeat (first | refine XK.norm rfl rfl ?_ | refine XK.rgnA hT rfl rfl rfl ?_ | refine XK.rgnB hT hm rfl rfl rfl ?_))
      (first | refine XK.out rfl rfl rfl ?_ | refine XK.outN rfl rfl rfl ?_)
      rw [outcomeR, if_neg (by simpa using h1), if_neg h5]
      rfl
/-- The holder of a role, and the act types that have occurred, after n steps. -/
def holdTo (k : K) (l : List Int) (role : Int) : Nat → Int × (Nat → Bool)
  | 0 => (k.holders.getD role.toNat default, fun _ => false)
  | n + 1 =>
    if l.getD n default = -1 ∨ (holdTo k l role n).2 (l.getD n default).toNat = true then holdTo k l role n
    else (if (acAt k (l.getD n default).toNat).kind ≠ 1 ∧ (acAt k (l.getD n default).toNat).give = role then (acAt k (l.getD n default).toNat).to else (holdTo k l role n).1,
      fun j => if j = (l.getD n default).toNat then true else (holdTo k l role n).2 j)
noncomputable def holderR (k : K) (l : List Int) (role after : Int) : Int × Int :=
  if checkR k l ≠ 0 then (0, checkR k l)
  else if role < 0 ∨ (k.holders.length : Int) ≤ role ∨ after < 0 ∨ (l.length : Int) < after then (0, 1)
  else ((holdTo k l role after.toNat).1, 0)
def happO (k : K) (h : Nat → Bool) : Ob := .vec 4 1 0 k.acts.length (fun i => [.c (.bool (h i))])
theorem holder_ok (k : K) (hk : kW k) (l : List Int) (role after : Int) : Does Try.prog 36 [kV k, intsV l, .c (.int .i64 role), .c (.int .i64 after)] (.tup [.c (.int .i64 (holderR k l role after).1), .c (.int .i64 (holderR k l role after).2)]) := by
  refine Does.mk (fun _ => false) TT_ok Try.func36 rfl (by kernel_rfl) Try.ntmps36 rfl rfl fun E hT hE hN hR => ?_
  have hm : E.P.follows .mixedOrders = true := by rw [hE]; kernel_rfl
  (repeat (first | refine XK.norm rfl rfl ?_ | refine XK.rgnA hT rfl rfl rfl ?_ | refine XK.rgnB hT hm rfl rfl rfl ?_)); refine XK.region ?_; refine XL.goA hT rfl rfl rfl rfl ?_
  refine XL.callLA hE rfl rfl rfl rfl trivial rfl (check_ok k hk l) rfl ?_
  refine XL.goA hT rfl rfl rfl rfl ?_; refine XL.fin ?_; (repeat (first | refine XK.norm rfl rfl ?_ | refine XK.rgnA hT rfl rfl rfl ?_ | refine XK.rgnB hT hm rfl rfl rfl ?_))
  (repeat (first | refine XK.norm rfl rfl ?_ | refine XK.rgnA hT rfl rfl rfl ?_ | refine XK.rgnB hT hm rfl rfl rfl ?_)); refine XK.cond rfl (fun h1 => ?_) (fun h1 => ?_)
  · have h1 : checkR k l ≠ 0 := by simpa using h1
    (repeat (first | refine XK.norm rfl rfl ?_ | refine XK.rgnA hT rfl rfl rfl ?_ | refine XK.rgnB hT hm rfl rfl rfl ?_))
    (first | refine XK.out rfl rfl rfl ?_ | refine XK.outN rfl rfl rfl ?_)
    rw [holderR, if_pos h1]
  · have h1 : checkR k l = 0 := by simpa using h1
    obtain ⟨h2, h3, h4, -⟩ := checkR_ok hk h1
    have hf := h2.facts
    (repeat (first | refine XK.norm rfl rfl ?_ | refine XK.rgnA hT rfl rfl rfl ?_ | refine XK.rgnB hT hm rfl rfl rfl ?_)); refine XK.cond rfl (fun h5 => ?_) (fun h5 => ?_)
    · have h5 : role < 0 ∨ (k.holders.length : Int) ≤ role ∨ after < 0 ∨ (l.length : Int) < after := by
        simp only [Bool.or_eq_true, decide_eq_true_eq] at h5
        omega
      (repeat (first | refine XK.norm rfl rfl ?_ | refine XK.rgnA hT rfl rfl rfl ?_ | refine XK.rgnB hT hm rfl rfl rfl ?_))
      (first | refine XK.out rfl rfl rfl ?_ | refine XK.outN rfl rfl rfl ?_)
      rw [holderR, if_neg (by simpa using h1), if_pos h5]
    · have h5 : ¬ (role < 0 ∨ (k.holders.length : Int) ≤ role ∨ after < 0 ∨ (l.length : Int) < after) := by
        simp only [Bool.or_eq_false_iff, decide_eq_false_iff_not] at h5
        omega
      obtain ⟨n, rfl⟩ := Int.eq_ofNat_of_zero_le (show 0 ≤ after by omega)
      have hR : holderR k l role n = ((holdTo k l role n).1, 0) := by rw [holderR, if_neg (by simpa using h1), if_neg h5]; rfl
      rw [hR]
      have hna := hf.na
      (repeat (first | refine XK.norm rfl rfl ?_ | refine XK.rgnA hT rfl rfl rfl ?_ | refine XK.rgnB hT hm rfl rfl rfl ?_))
      refine XK.loop (ι := Nat) (fun i => ST.of [(2, .c (.int .i64 role)), (4, .ptr 4 0), (11, .c (.int .i64 (holdTo k l role i).1)), (12, .vec 484 0), (52, .rs 1 n (fun i => iC (l.getD i default))), (53, .c (.int .i64 n)), (54, .c (.int .i64 i))] [(4, .cells 27 (kC k)), (484, happO k (holdTo k l role i).2)] 1000 87 (fun _ => false))
        (fun i => i ≤ n) (fun i => n - i) 0 (Nat.zero_le _)
        (Weak.of hN rfl rfl rfl (by (repeat' (first | exact rfl | exact AvIs.refl _ | exact trivial | exact fun _ _ => rfl | exact fun _ _ => ⟨rfl, AvIs.refl _⟩ | refine ⟨?_, ?_⟩))) (by (repeat' (first | exact rfl | exact AvIs.refl _ | exact trivial | exact fun _ _ => rfl | exact fun _ _ => ⟨rfl, AvIs.refl _⟩ | refine ⟨?_, ?_⟩)))) fun i hi => ?_
      (repeat (first | refine XK.norm rfl rfl ?_ | refine XK.rgnA hT rfl rfl rfl ?_ | refine XK.rgnB hT hm rfl rfl rfl ?_)); refine XK.cond rfl (fun hlt => ?_) (fun hlt => ?_) <;> (try simp at hlt)
      · have hs := h3 i (by omega)
        have fx : l.getD (i : Int).toNat default = l.getD i default := rfl
        have hst : holdTo k l role (i + 1) = if l.getD i default = -1 ∨ (holdTo k l role i).2 (l.getD i default).toNat = true then holdTo k l role i
          else (if (acAt k (l.getD i default).toNat).kind ≠ 1 ∧ (acAt k (l.getD i default).toNat).give = role then (acAt k (l.getD i default).toNat).to else (holdTo k l role i).1, fun j => if j = (l.getD i default).toNat then true else (holdTo k l role i).2 j) := rfl
        generalize holdTo k l role i = q at hst ⊢
        (repeat (first | refine XK.norm rfl rfl ?_ | refine XK.rgnA hT rfl rfl rfl ?_ | refine XK.rgnB hT hm rfl rfl rfl ?_))
        rw [fx]
        generalize l.getD i default = s at hs hst ⊢
        (repeat (first | refine XK.norm rfl rfl ?_ | refine XK.rgnA hT rfl rfl rfl ?_ | refine XK.rgnB hT hm rfl rfl rfl ?_)); refine XK.cond rfl (fun h6 => ?_) (fun h6 => ?_)
        · have h6 : s = -1 ∨ q.2 s.toNat = true := by simpa using h6
          rw [if_pos h6] at hst
          (repeat (first | refine XK.norm rfl rfl ?_ | refine XK.rgnA hT rfl rfl rfl ?_ | refine XK.rgnB hT hm rfl rfl rfl ?_))
          exact XK.inv ⟨i + 1, hlt, Weak.of hN rfl rfl rfl (by rw [hst]; (repeat' (first | exact rfl | exact AvIs.refl _ | exact trivial | exact fun _ _ => rfl | exact fun _ _ => ⟨rfl, AvIs.refl _⟩ | refine ⟨?_, ?_⟩))) (by rw [hst]; (repeat' (first | exact rfl | exact AvIs.refl _ | exact trivial | exact fun _ _ => rfl | exact fun _ _ => ⟨rfl, AvIs.refl _⟩ | refine ⟨?_, ?_⟩))), by omega⟩
        · have h6 : ¬ (s = -1 ∨ q.2 s.toNat = true) := by simpa using h6
          rw [if_neg h6] at hst
          have hs2 : 0 ≤ s ∧ s < k.acts.length := hs.resolve_left fun e => h6 (.inl e)
          have fa : k.acts.getD s.toNat default = acAt k s.toNat := rfl
          have hrow : ∀ j, j < k.acts.length → [AV.c (.bool (if j = s.toNat then true else q.2 j))] = setRowF (fun i => [AV.c (.bool (q.2 i))]) s.toNat 0 [AV.c (.bool true)] j := by
            intro j hj
            by_cases hji : j = s.toNat
            · subst hji; simp [setRowF, setL]
            · simp [setRowF, beq_false hji, hji]
          (repeat (first | refine XK.norm rfl rfl ?_ | refine XK.rgnA hT rfl rfl rfl ?_ | refine XK.rgnB hT hm rfl rfl rfl ?_))
          rw [fa]
          (repeat (first | refine XK.norm rfl rfl ?_ | refine XK.rgnA hT rfl rfl rfl ?_ | refine XK.rgnB hT hm rfl rfl rfl ?_)); refine XK.cond rfl (fun h7 => ?_) (fun h7 => ?_)
          · have h7 : (acAt k s.toNat).kind ≠ 1 ∧ (acAt k s.toNat).give = role := by simpa using h7
            rw [if_pos h7] at hst
            (repeat (first | refine XK.norm rfl rfl ?_ | refine XK.rgnA hT rfl rfl rfl ?_ | refine XK.rgnB hT hm rfl rfl rfl ?_))
            exact XK.inv ⟨i + 1, hlt, Weak.of hN rfl rfl rfl (by rw [hst]; (repeat' (first | exact rfl | exact AvIs.refl _ | exact trivial | exact fun _ _ => rfl | exact fun _ _ => ⟨rfl, AvIs.refl _⟩ | refine ⟨?_, ?_⟩))) (by rw [hst]; exact ⟨by (repeat' (first | exact rfl | exact AvIs.refl _ | exact trivial | exact fun _ _ => rfl | exact fun _ _ => ⟨rfl, AvIs.refl _⟩ | refine ⟨?_, ?_⟩)), ⟨rfl, rfl, rfl⟩, rfl, hrow⟩), by omega⟩
          · have h7 : ¬ ((acAt k s.toNat).kind ≠ 1 ∧ (acAt k s.toNat).give = role) := by
              intro h
              simp [h.1, h.2] at h7
            rw [if_neg h7] at hst
            (repeat (first | refine XK.norm rfl rfl ?_ | refine XK.rgnA hT rfl rfl rfl ?_ | refine XK.rgnB hT hm rfl rfl rfl ?_))
            exact XK.inv ⟨i + 1, hlt, Weak.of hN rfl rfl rfl (by rw [hst]; (repeat' (first | exact rfl | exact AvIs.refl _ | exact trivial | exact fun _ _ => rfl | exact fun _ _ => ⟨rfl, AvIs.refl _⟩ | refine ⟨?_, ?_⟩))) (by rw [hst]; exact ⟨by (repeat' (first | exact rfl | exact AvIs.refl _ | exact trivial | exact fun _ _ => rfl | exact fun _ _ => ⟨rfl, AvIs.refl _⟩ | refine ⟨?_, ?_⟩)), ⟨rfl, rfl, rfl⟩, rfl, hrow⟩), by omega⟩
      · have hie : i = n := by omega
        subst hie
        (repeat (first | refine XK.norm rfl rfl ?_ | refine XK.rgnA hT rfl rfl rfl ?_ | refine XK.rgnB hT hm rfl rfl rfl ?_))
        (first | refine XK.out rfl rfl rfl ?_ | refine XK.outN rfl rfl rfl ?_)
        rfl
end Go.Proofs.Ytiiegpjpckkohaa
end
