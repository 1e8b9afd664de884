import Derived.Test.YtiiegpjpckkohaaPI
import Derived.Test.YtiiegpjpckkohaaP6
import Derived.Test.YtiiegpjpckkohaaPF
section
/- Contracts: package remedy: Damages. -/
namespace Go.Proofs.Ytiiegpjpckkohaa
open Go.Eng
set_option maxRecDepth 10000
set_option linter.unusedSimpArgs false
set_option linter.unusedVariables false
noncomputable def convK (k : K) (a : A) (to : Int) : A × Int := convR (fun j => k.units.getD j default) k.units.length a to
theorem convK_W (k : K) (a : A) (to : Int) : qW (convK k a to).1.val := by
  have z : qW zA.val := ⟨by simp [inK, zA], by simp [inK, zA]⟩
  unfold convK convR
  split
  · split
    · exact z
    · split
      · exact z
      · exact fracR_W _ _ _
  · exact z
theorem rats_app2 (L : List Q) (x y : Q) (h : Nat → List AV) (h0 : h 0 = [.c (.int .i64 x.1), .c (.int .i64 x.2)]) (h1 : h 1 = [.c (.int .i64 y.1), .c (.int .i64 y.2)]) :
    ∀ j, j < L.length + 2 → [AV.c (.int .i64 ((L ++ [x, y]).getD j default).1), .c (.int .i64 ((L ++ [x, y]).getD j default).2)] = catF L.length (fun i => [AV.c (.int .i64 (L.getD i default).1), .c (.int .i64 (L.getD i default).2)]) h j := by
  intro j hj
  unfold catF
  cases hb : Nat.blt j L.length
  rotate_left
  · have hlt : j < L.length := by simpa using hb
    simp [List.getD, List.getElem?_append_left hlt]
  · have hge : ¬ j < L.length := fun h => by have : Nat.blt j L.length = true := by simpa using h
                                             rw [this] at hb; cases hb
    rw [cond_false]
    have e : j = L.length ∨ j = L.length + 1 := by omega
    rcases e with rfl | rfl
    · rw [Nat.sub_self, h0]; simp [List.getD]
    · rw [show L.length + 1 - L.length = 1 by omega, h1]; simp [List.getD]
/-- What a claim adds to the parts. -/
noncomputable def damF (k : K) (t : Tm) (s : Dm) (c : Clm) : Dm :=
  if (convK k c.1 t.unit).2 ≠ 0 then (s.1, zA, (convK k c.1 t.unit).2)
  else if (interestR t (convK k c.1 t.unit).1.val c.2).2 ≠ 0 then (s.1, zA, (interestR t (convK k c.1 t.unit).1.val c.2).2)
  else (s.1 ++ [(convK k c.1 t.unit).1.val, (interestR t (convK k c.1 t.unit).1.val c.2).1], s.2.1, s.2.2)
noncomputable def damT (k : K) (t : Tm) (cl : Nat → Option Clm) : Nat → Dm
  | 0 => ([], zA, 0)
  | i + 1 => if (damT k t cl i).2.2 ≠ 0 then damT k t cl i else match cl i with
    | none => damT k t cl i
    | some c => damF k t (damT k t cl i) c
noncomputable def damE (t : Tm) (s : Dm) : A × Int :=
  if s.2.2 ≠ 0 then (s.2.1, s.2.2)
  else if (collT ((0, 1), 0) (fun i => s.1.getD i default) s.1.length).2 ≠ 0 then (zA, (collT ((0, 1), 0) (fun i => s.1.getD i default) s.1.length).2)
  else if (cappedR t (collT ((0, 1), 0) (fun i => s.1.getD i default) s.1.length).1).2 ≠ 0 then (zA, (cappedR t (collT ((0, 1), 0) (fun i => s.1.getD i default) s.1.length).1).2)
  else (⟨t.unit, (cappedR t (collT ((0, 1), 0) (fun i => s.1.getD i default) s.1.length).1).1⟩, 0)
noncomputable def damagesR (k : K) (l : List Int) (t : Tm) (by_ to until_ : Int) : A × Int :=
  if checkR k l ≠ 0 then (zA, checkR k l)
  else if askedB k t by_ to until_ = false then (zA, 1)
  else damE t (damT k t (claimAt k l (followR k l l.length).out by_ to until_) k.clauses.length)
theorem damT_none {k : K} {t : Tm} {cl : Nat → Option Clm} {i : Nat} (h : cl i = none) : damT k t cl (i + 1) = damT k t cl i := by
  simp only [damT, h]
  split <;> rfl
theorem damT_some {k : K} {t : Tm} {cl : Nat → Option Clm} {i : Nat} {c : Clm} (h : cl i = some c) (h0 : (damT k t cl i).2.2 = 0) : damT k t cl (i + 1) = damF k t (damT k t cl i) c := by
  simp only [damT, h, h0, ne_eq, not_true_eq_false, if_false]
theorem damT_stop {k : K} {t : Tm} {cl : Nat → Option Clm} {i : Nat} (h : (damT k t cl i).2.2 ≠ 0) : ∀ m, i ≤ m → damT k t cl m = damT k t cl i := by
  intro m hm
  induction m with
  | zero => have : i = 0 := by omega
            rw [this]
  | succ m ih =>
    by_cases h1 : i = m + 1
    · rw [h1]
    · have h2 := ih (by omega)
      simp only [damT]
      rw [if_pos (by rw [h2]; exact h), h2]
theorem damF_len (k : K) (t : Tm) (s : Dm) (c : Clm) : (damF k t s c).1.length ≤ s.1.length + 2 := by
  unfold damF
  split
  · simp
  · split <;> simp
theorem damT_len (k : K) (t : Tm) (cl : Nat → Option Clm) : ∀ i, (damT k t cl i).1.length ≤ 2 * i
  | 0 => by simp [damT]
  | i + 1 => by
    have ih := damT_len k t cl i
    simp only [damT]
    split
    · omega
    · split
      · omega
      · have := damF_len k t (damT k t cl i) ‹_›
        omega
theorem getD_memA {α : Type} [Inhabited α] {l : List α} {i : Nat} (h : i < l.length) : l.getD i default ∈ l := by
  simp only [List.getD_eq_getElem?_getD, List.getElem?_eq_getElem h, Option.getD_some]
  exact List.getElem_mem h
theorem interestR_W (t : Tm) (a : Q) (d : Int) : qW (interestR t a d).1 := by
  have z : qW (0, 0) := ⟨by simp [inK], by simp [inK]⟩
  unfold interestR
  split
  · exact z
  · split
    · exact z
    · split
      · exact z
      · exact mulR_W _ _
theorem damT_W (k : K) (t : Tm) (cl : Nat → Option Clm) : ∀ i, ∀ q ∈ (damT k t cl i).1, qW q
  | 0 => fun q h => by simp [damT] at h
  | i + 1 => by
    have ih := damT_W k t cl i
    simp only [damT]
    split
    · exact ih
    · split
      · exact ih
      · unfold damF
        split
        · exact ih
        · split
          · exact ih
          · intro q hq
            simp only [List.mem_append, List.mem_cons, List.not_mem_nil, or_false] at hq
            rcases hq with hq | rfl | rfl
            · exact ih q hq
            · exact convK_W _ _ _
            · exact interestR_W _ _ _
/-- A failed clause has ended. -/
theorem failed_to {k : K} (hk : KFacts k) {l : List Int} (hl : stepsOk k l) {j : Nat} (hj : j < k.clauses.length) {n : Nat} (hn : n ≤ l.length) (hn2 : n < 900000) (h : ((followR k l n).out j).status = 4) : 1 ≤ ((followR k l n).out j).to ∧ ((followR k l n).out j).to ≤ n := by
  rcases clause_inv hk hl hj n hn hn2 with ⟨_, ho⟩ | ⟨_, ho, _⟩ | ⟨f, _, _, _, _, hst, _⟩ | ⟨f, t, _, _, ht, _, htn, _⟩
  · rw [ho] at h; simp at h
  · rw [ho] at h; simp at h
  · omega
  · omega
theorem claimAt_W {k : K} (hk : KFacts k) {l : List Int} (hl : l.length ≤ 4000) {out : Nat → Oc} {by_ to until_ : Int} (hu : 0 ≤ until_ ∧ until_ ≤ 10000) {i : Nat} (hi : i < k.clauses.length) (hf : (out i).status = 4 → 1 ≤ (out i).to ∧ (out i).to ≤ l.length) {c : Clm} (h : claimAt k l out by_ to until_ i = some c) :
    c.1.unit = (clAt k i).unit ∧ c.1.val = (clAt k i).value ∧ (clAt k i).unit ≠ -1 ∧ aW c.1 ∧ 0 ≤ c.2 ∧ c.2 = until_ - daysTo l ((out i).to - 1).toNat - 1 ∧ c.2 ≤ 10000 := by
  unfold claimAt at h
  split at h
  · cases h
  · rename_i h1
    split at h
    · cases h
    · injection h with h
      subst h
      have hw := hk.clW' hi
      have hd := daysTo_le l ((out i).to - 1).toNat
      have h4 : (out i).status = 4 := Decidable.not_not.1 fun h => h1 (.inl h)
      have h5 : (clAt k i).unit ≠ -1 := fun h => h1 (.inr (.inl h))
      have h6 : ¬ until_ ≤ daysTo l ((out i).to - 1).toNat := fun h => h1 (.inr (.inr (.inr h)))
      exact ⟨rfl, rfl, h5, ⟨hw.2.2.2.2.2.2.2.2.2.2.1, hw.2.2.2.2.2.2.2.2.2.1⟩, by simp only; omega, rfl, by simp only; omega⟩
theorem damages_ok (k : K) (hk : kW k) (l : List Int) (t : Tm) (ht : tmW t) (by_ to until_ : Int) : Does Try.prog 25 [kV k, intsV l, tmV t, .c (.int .i64 by_), .c (.int .i64 to), .c (.int .i64 until_)] (ar (damagesR k l t by_ to until_)) := by
  refine Does.mk (fun _ => false) TT_ok Try.func25 rfl (by kernel_rfl) Try.ntmps25 rfl rfl fun E hT hE hN hR => ?_
  have hm : E.P.follows .mixedOrders = true := by rw [hE]; kernel_rfl
  (repeat (first | refine XK.norm rfl rfl ?_ | refine XK.rgnA hT rfl rfl rfl ?_ | refine XK.rgnB hT hm rfl rfl rfl ?_)); refine XK.region ?_; refine XL.goA hT rfl rfl rfl rfl ?_
  refine XL.callKA hE rfl rfl rfl rfl trivial rfl rfl (outcomes_ok k hk l) ?_
  refine XL.goA hT rfl rfl rfl rfl ?_; refine XL.fin ?_; (repeat (first | refine XK.norm rfl rfl ?_ | refine XK.rgnA hT rfl rfl rfl ?_ | refine XK.rgnB hT hm rfl rfl rfl ?_))
  (repeat (first | refine XK.norm rfl rfl ?_ | refine XK.rgnA hT rfl rfl rfl ?_ | refine XK.rgnB hT hm rfl rfl rfl ?_)); refine XK.cond rfl (fun h1 => ?_) (fun h1 => ?_)
  · have h1 : checkR k l ≠ 0 := by simpa using h1
    (repeat (first | refine XK.norm rfl rfl ?_ | refine XK.rgnA hT rfl rfl rfl ?_ | refine XK.rgnB hT hm rfl rfl rfl ?_))
    (first | refine XK.out rfl rfl rfl ?_ | refine XK.outN rfl rfl rfl ?_)
    rw [damagesR, if_pos h1]
    rfl
  · have h1 : checkR k l = 0 := by simpa using h1
    obtain ⟨h2, h3, h4, -⟩ := checkR_ok hk h1
    rw [damagesR, if_neg (by simpa using h1)]
    (repeat (first | refine XK.norm rfl rfl ?_ | refine XK.rgnA hT rfl rfl rfl ?_ | refine XK.rgnB hT hm rfl rfl rfl ?_)); refine XK.region ?_; refine XL.goA hT rfl rfl rfl rfl ?_
    refine XL.callLA hE rfl rfl rfl rfl trivial rfl (asked_ok k t by_ to until_ ht) rfl ?_
    refine XL.goA hT rfl rfl rfl rfl ?_; refine XL.fin ?_; (repeat (first | refine XK.norm rfl rfl ?_ | refine XK.rgnA hT rfl rfl rfl ?_ | refine XK.rgnB hT hm rfl rfl rfl ?_))
    (repeat (first | refine XK.norm rfl rfl ?_ | refine XK.rgnA hT rfl rfl rfl ?_ | refine XK.rgnB hT hm rfl rfl rfl ?_)); refine XK.cond rfl (fun h5 => ?_) (fun h5 => ?_)
    · have h5 : askedB k t by_ to until_ = false := by simpa using h5
      (repeat (first | refine XK.norm rfl rfl ?_ | refine XK.rgnA hT rfl rfl rfl ?_ | refine XK.rgnB hT hm rfl rfl rfl ?_))
      (first | refine XK.out rfl rfl rfl ?_ | refine XK.outN rfl rfl rfl ?_)
      rw [if_pos h5]
      rfl
    · have h5 : askedB k t by_ to until_ = true := by simpa using h5
      rw [if_neg (by rw [h5]; simp)]
      (repeat (first | refine XK.norm rfl rfl ?_ | refine XK.rgnA hT rfl rfl rfl ?_ | refine XK.rgnB hT hm rfl rfl rfl ?_)); refine XK.region ?_; refine XL.goA hT rfl rfl rfl rfl ?_
      refine XL.callKA hE rfl rfl rfl rfl trivial rfl rfl (claims_ok k l (outsN k l) (followR k l l.length).out by_ to until_ h4) ?_
      refine XL.goA hT rfl rfl rfl rfl ?_; refine XL.fin ?_; (repeat (first | refine XK.norm rfl rfl ?_ | refine XK.rgnA hT rfl rfl rfl ?_ | refine XK.rgnB hT hm rfl rfl rfl ?_))
      have hF := h2.facts
      have hon : outsN k l = k.clauses.length := by rw [outsN, if_pos h1]
      rw [hon]
      generalize hcl : claimAt k l (followR k l l.length).out by_ to until_ = cl
      generalize hst : damT k t cl k.clauses.length = sE
      have hsE : sE = damT k t cl k.clauses.length := hst.symm
      have hpar : 0 ≤ until_ ∧ until_ ≤ 10000 := by
        unfold askedB at h5
        split at h5
        · cases h5
        · split at h5
          · cases h5
          · simp only [Bool.and_eq_true, decide_eq_true_eq] at h5
            have := hF.days
            omega
      refine XK.weak (Weak.trans (Weak.frozenC (k := 6) hN rfl rfl rfl) (Weak.trans (Weak.frozenC (k := 8) hN rfl rfl rfl) (Weak.trans (Weak.ghostC (c := 480) (k := 481) (e := 29) (sz := 2) (f := fun _ => []) rfl rfl rfl)
        (Weak.of (L := [(6, .rptr (kC k)), (8, .rptr (tmC t)), (12, .ptr 12 0), (13, .ptr 13 0), (16, .ptr 480 0), (47, (.fn (.func 76) [] [.rptr [ocsV k.clauses.length (followR k l l.length).out], .rptr (kC k), .rptr [.c (.int .i64 by_)], .rptr [intsV (daysL l)], .rptr [.c (.int .i64 until_)], .rptr [intsV l], .rptr [.c (.int .i64 to)]]))])
          (O := [(480, .cells 41 [.vec 481 0]), (481, ratsO []), (12, .cells 45 [.c (.int .i64 0), .c (.int .i64 0), .c (.int .i64 0)]), (13, .cells 38 [.c (.int .i64 0)])]) (nx := 2000) (nt := 116) (md := fun _ => false) hN rfl rfl rfl (by (repeat' (first | exact rfl | exact AvIs.refl _ | exact trivial | exact fun _ _ => rfl | exact fun _ _ => ⟨rfl, AvIs.refl _⟩ | refine ⟨?_, ?_⟩))) (by (repeat' (first | exact rfl | exact AvIs.refl _ | exact trivial | exact fun _ _ => rfl | exact fun _ _ => ⟨rfl, AvIs.refl _⟩ | exact cI (by omega) | exact (fun i hi => absurd hi (Nat.not_lt_zero _)) | refine ⟨?_, ?_⟩))))))) ?_
      have hf : ∀ i, i < k.clauses.length → ((followR k l l.length).out i).status = 4 → 1 ≤ ((followR k l l.length).out i).to ∧ ((followR k l l.length).out i).to ≤ l.length := fun i hi h => failed_to hF h3 hi (Nat.le_refl _) (by omega) h
      have hcw : ∀ i c, i < k.clauses.length → cl i = some c → aW c.1 ∧ inK .i64 c.2 := fun i c hi h => by
        rw [← hcl] at h
        have := claimAt_W hF h4 hpar hi (hf i hi) h
        exact ⟨this.2.2.2.1, by simp only [inK]; omega⟩
      refine XK.rangeFunc 900 [480, 481, 12, 13] (frL 116 [(6, .rptr (kC k)), (8, .rptr (tmC t)), (12, .ptr 12 0), (13, .ptr 13 0), (16, .ptr 480 0)])
        (ST.of [(6, .rptr (kC k)), (8, .rptr (tmC t)), (12, .ptr 12 0), (13, .ptr 13 0), (16, .ptr 480 0)] [(480, .cells 41 [.vec 481 sE.1.length]), (481, ratsO sE.1), (12, .cells 45 [.c (.int .i64 sE.2.1.unit), .c (.int .i64 sE.2.1.val.1), .c (.int .i64 sE.2.1.val.2)]), (13, .cells 38 [.c (.int .i64 sE.2.2)])] 3000 116 (fun _ => false))
        (res := .tup []) (args' := [.rptr [ocsV k.clauses.length (followR k l l.length).out], .rptr (kC k), .rptr [.c (.int .i64 by_)], .rptr [intsV (daysL l)], .rptr [.c (.int .i64 until_)], .rptr [intsV l], .rptr [.c (.int .i64 to)]])
        (s := if sE.2.2 = 0 then .ready else .done) (pend := if sE.2.2 = 0 then none else some .ret) (O' := damO sE) (O := damO ([], zA, 0)) hR rfl trivial rfl (frL_length _ _) (frL_is (by (repeat' (first | exact rfl | exact AvIs.refl _ | exact trivial | exact fun _ _ => rfl | exact fun _ _ => ⟨rfl, AvIs.refl _⟩ | refine ⟨?_, ?_⟩)))) (fun L D fn => ?_) rfl (by (repeat' (first | exact rfl | exact AvIs.refl _ | exact trivial | exact fun _ _ => rfl | exact fun _ _ => ⟨rfl, AvIs.refl _⟩ | refine ⟨?_, ?_⟩))) rfl rfl (by (repeat' (first | exact rfl | exact AvIs.refl _ | exact trivial | exact fun _ _ => rfl | exact fun _ _ => ⟨rfl, AvIs.refl _⟩ | refine ⟨?_, ?_⟩))) rfl rfl (by split <;> simp) (fun L D fn cs => (Weak.of hN rfl rfl rfl (by (repeat' (first | exact rfl | exact AvIs.refl _ | exact trivial | exact fun _ _ => rfl | exact fun _ _ => ⟨rfl, AvIs.refl _⟩ | refine ⟨?_, ?_⟩))) (by (repeat' (first | exact rfl | exact AvIs.refl _ | exact trivial | exact fun _ _ => rfl | exact fun _ _ => ⟨rfl, AvIs.refl _⟩ | refine ⟨?_, ?_⟩))))) ?_
      · rw [hsE, hE]
        refine claims1_ok k hk t l h1 k.clauses.length (Nat.le_refl _) (followR k l l.length).out by_ to until_ hpar hf L L (recOf fn _ _ _ D) _ (damT k t cl) rfl (fun i hi h => damT_none (by rw [← hcl]; exact h)) (fun i h m hm => damT_stop h m hm) (fun i hi c hc h0 => ?_) ?_
        rotate_left
        · split <;> rfl
        rw [hcl] at hc
        obtain ⟨hca, hcd⟩ := hcw i c hi hc
        have hlen := damT_len k t cl i
        have hnc := hF.nc
        rw [damT_some hc h0]
        generalize damT k t cl i = s at *
        obtain ⟨PL, ra, re⟩ := s
        simp only at h0 hlen
        subst h0
        clear hsE
        refine DoesR.mkT TT_ok (fun _ => false) 100 (ST.of [(6, .rptr (kC k)), (8, .rptr (tmC t)), (12, .ptr 3 0), (13, .ptr 4 0), (16, .ptr 1 0), (17, .ptr 117 0)]
          [(0, .lrec (recOf fn _ _ _ D .ready none) L (damCs k t)), (1, .cells 41 [.vec 2 PL.length]), (2, ratsO PL), (3, .cells 45 [.c (.int .i64 ra.unit), .c (.int .i64 ra.val.1), .c (.int .i64 ra.val.2)]), (4, .cells 38 [.c (.int .i64 0)]), (117, .cells 103 [.c (.int .i64 c.1.unit), .c (.int .i64 c.1.val.1), .c (.int .i64 c.1.val.2), .c (.int .i64 c.2)])] 1000 116 (fun _ => false)) rfl ?_ (Nat.le_refl 4) (fun E hT hE hN hR => ?_) rfl (fun E hT hE hN hR => ?_)
        · intro x hx
          simp only [List.mem_toArray, List.mem_singleton] at hx
          subst hx
          show 48 < (frL 116 _).length
          rw [frL_length]
          omega
        · have hm : E.P.follows .mixedOrders = true := by rw [hE]; kernel_rfl
          (repeat (first | refine XK.norm rfl rfl ?_ | refine XK.rgnA hT rfl rfl rfl ?_ | refine XK.rgnB hT hm rfl rfl rfl ?_))
          exact XK.nil ⟨rfl, (Weak.of hN rfl rfl rfl (by (repeat' (first | exact rfl | exact AvIs.refl _ | exact trivial | exact fun _ _ => rfl | exact fun _ _ => ⟨rfl, AvIs.refl _⟩ | refine ⟨?_, ?_⟩))) (by (repeat' (first | exact rfl | exact AvIs.refl _ | exact trivial | exact fun _ _ => rfl | exact fun _ _ => ⟨rfl, AvIs.refl _⟩ | refine ⟨?_, ?_⟩))))⟩
        · have hm : E.P.follows .mixedOrders = true := by rw [hE]; kernel_rfl
          have hfe : damF k t (PL, ra, 0) c = if (convK k c.1 t.unit).2 ≠ 0 then (PL, zA, (convK k c.1 t.unit).2)
            else if (interestR t (convK k c.1 t.unit).1.val c.2).2 ≠ 0 then (PL, zA, (interestR t (convK k c.1 t.unit).1.val c.2).2)
            else (PL ++ [(convK k c.1 t.unit).1.val, (interestR t (convK k c.1 t.unit).1.val c.2).1], ra, 0) := rfl
          rw [hfe]
          have hco : Does Try.prog 26 [unitsV k.units, av c.1, .c (.int .i64 t.unit)] (ar (convK k c.1 t.unit)) := convert_ok k.units.length (fun j => k.units.getD j default) c.1 t.unit (all_getD hk.2.2.1) hca
          have hcW : qW (convK k c.1 t.unit).1.val := convK_W _ _ _
          generalize convK k c.1 t.unit = cv at *
          (repeat (first | refine XK.norm rfl rfl ?_ | refine XK.rgnA hT rfl rfl rfl ?_ | refine XK.rgnB hT hm rfl rfl rfl ?_)); refine XK.region ?_; refine XL.goA hT rfl rfl rfl rfl ?_
          refine XL.callLA hE rfl rfl rfl rfl trivial rfl (hco) rfl ?_
          refine XL.goA hT rfl rfl rfl rfl ?_; refine XL.fin ?_; (repeat (first | refine XK.norm rfl rfl ?_ | refine XK.rgnA hT rfl rfl rfl ?_ | refine XK.rgnB hT hm rfl rfl rfl ?_))
          (repeat (first | refine XK.norm rfl rfl ?_ | refine XK.rgnA hT rfl rfl rfl ?_ | refine XK.rgnB hT hm rfl rfl rfl ?_)); refine XK.cond rfl (fun h6 => ?_) (fun h6 => ?_) <;> (try simp at h6)
          · rw [if_pos h6]
            (repeat (first | refine XK.norm rfl rfl ?_ | refine XK.rgnA hT rfl rfl rfl ?_ | refine XK.rgnB hT hm rfl rfl rfl ?_))
            (first | refine XK.outY [0, 1, 2, 3, 4] hN rfl rfl rfl ?_ ?_ ?_ | refine XK.outYN [0, 1, 2, 3, 4] hN rfl rfl rfl ?_ ?_ ?_)
            · (repeat' (first | exact rfl | exact AvIs.refl _ | exact trivial | exact fun _ _ => rfl | exact fun _ _ => ⟨rfl, AvIs.refl _⟩ | refine ⟨?_, ?_⟩))
            · simp [h6]
            · show _ = if cv.2 = 0 then _ else _
              rw [if_neg h6]
          · rw [if_neg (by simpa using h6)]
            (repeat (first | refine XK.norm rfl rfl ?_ | refine XK.rgnA hT rfl rfl rfl ?_ | refine XK.rgnB hT hm rfl rfl rfl ?_)); refine XK.region ?_; refine XL.goA hT rfl rfl rfl rfl ?_
            refine XL.callLA hE rfl rfl rfl rfl trivial rfl (interest_ok t cv.1.val c.2 ht hcW hcd) rfl ?_
            refine XL.goA hT rfl rfl rfl rfl ?_; refine XL.fin ?_; (repeat (first | refine XK.norm rfl rfl ?_ | refine XK.rgnA hT rfl rfl rfl ?_ | refine XK.rgnB hT hm rfl rfl rfl ?_))
            generalize interestR t cv.1.val c.2 = iv at *
            (repeat (first | refine XK.norm rfl rfl ?_ | refine XK.rgnA hT rfl rfl rfl ?_ | refine XK.rgnB hT hm rfl rfl rfl ?_)); refine XK.cond rfl (fun h7 => ?_) (fun h7 => ?_) <;> (try simp at h7)
            · rw [if_pos h7]
              (repeat (first | refine XK.norm rfl rfl ?_ | refine XK.rgnA hT rfl rfl rfl ?_ | refine XK.rgnB hT hm rfl rfl rfl ?_))
              (first | refine XK.outY [0, 1, 2, 3, 4] hN rfl rfl rfl ?_ ?_ ?_ | refine XK.outYN [0, 1, 2, 3, 4] hN rfl rfl rfl ?_ ?_ ?_)
              · (repeat' (first | exact rfl | exact AvIs.refl _ | exact trivial | exact fun _ _ => rfl | exact fun _ _ => ⟨rfl, AvIs.refl _⟩ | refine ⟨?_, ?_⟩))
              · simp [h7]
              · show _ = if iv.2 = 0 then _ else _
                rw [if_neg h7]
            · rw [if_neg (by simpa using h7)]
              refine XK.weak (Weak.trans (Weak.steal 500 (k := 2) (s := PL.length) (f' := fun _ => []) hN rfl rfl rfl) (Weak.of (L := [(12, .ptr 3 0), (13, .ptr 4 0), (16, .ptr 1 0), (18, .ptr 1018 0), (20, .ptr 1252 0)])
                (O := [(0, .lrec (recOf fn _ _ _ D .busy none) L (damCs k t)), (1, .cells 41 [.vec 500 0]), (2, .vec 29 2 (PL.length + 1) 0 (fun _ => [])), (3, .cells 45 [.c (.int .i64 ra.unit), .c (.int .i64 ra.val.1), .c (.int .i64 ra.val.2)]), (4, .cells 38 [.c (.int .i64 0)]),
                  (500, .vec 29 2 0 PL.length (fun i => [.c (.int .i64 (PL.getD i default).1), .c (.int .i64 (PL.getD i default).2)])), (1018, .cells 45 [.c (.int .i64 cv.1.unit), .c (.int .i64 cv.1.val.1), .c (.int .i64 cv.1.val.2)]), (1252, .cells 29 [.c (.int .i64 iv.1.1), .c (.int .i64 iv.1.2)])]) (nx := 3000) (nt := 116) (md := fun _ => false) hN rfl rfl rfl (by (repeat' (first | exact rfl | exact AvIs.refl _ | exact trivial | exact fun _ _ => rfl | exact fun _ _ => ⟨rfl, AvIs.refl _⟩ | refine ⟨?_, ?_⟩))) ⟨⟨rfl, rfl, rfl⟩, ⟨rfl, congrArg (fun x => [x]) (stealG_self 2 PL.length 500)⟩, by (repeat' (first | exact rfl | exact AvIs.refl _ | exact trivial | exact fun _ _ => rfl | exact fun _ _ => ⟨rfl, AvIs.refl _⟩ | refine ⟨?_, ?_⟩)), by (repeat' (first | exact rfl | exact AvIs.refl _ | exact trivial | exact fun _ _ => rfl | exact fun _ _ => ⟨rfl, AvIs.refl _⟩ | refine ⟨?_, ?_⟩)), by (repeat' (first | exact rfl | exact AvIs.refl _ | exact trivial | exact fun _ _ => rfl | exact fun _ _ => ⟨rfl, AvIs.refl _⟩ | refine ⟨?_, ?_⟩)), by (repeat' (first | exact rfl | exact AvIs.refl _ | exact trivial | exact fun _ _ => rfl | exact fun _ _ => ⟨rfl, AvIs.refl _⟩ | refine ⟨?_, ?_⟩)), by (repeat' (first | exact rfl | exact AvIs.refl _ | exact trivial | exact fun _ _ => rfl | exact fun _ _ => ⟨rfl, AvIs.refl _⟩ | refine ⟨?_, ?_⟩)), by (repeat' (first | exact rfl | exact AvIs.refl _ | exact trivial | exact fun _ _ => rfl | exact fun _ _ => ⟨rfl, AvIs.refl _⟩ | refine ⟨?_, ?_⟩))⟩)) ?_
              (repeat (first | refine XK.norm rfl rfl ?_ | refine XK.rgnA hT rfl rfl rfl ?_ | refine XK.rgnB hT hm rfl rfl rfl ?_))
              refine XK.nilY (Weak.give (k := 2) (q := 500) (PL.length + 2) hN rfl rfl rfl rfl (Nat.lt_succ_self (PL.length + 1))) ?_
              (first | refine XK.outY [0, 1, 2, 3, 4] hN rfl rfl rfl ?_ ?_ ?_ | refine XK.outYN [0, 1, 2, 3, 4] hN rfl rfl rfl ?_ ?_ ?_)
              · exact ⟨⟨rfl, rfl, rfl⟩, ⟨rfl, by simp⟩, ⟨⟨rfl, rfl, by simp⟩, by simp, rats_app2 PL _ _ _ rfl rfl⟩, by (repeat' (first | exact rfl | exact AvIs.refl _ | exact trivial | exact fun _ _ => rfl | exact fun _ _ => ⟨rfl, AvIs.refl _⟩ | refine ⟨?_, ?_⟩)), by (repeat' (first | exact rfl | exact AvIs.refl _ | exact trivial | exact fun _ _ => rfl | exact fun _ _ => ⟨rfl, AvIs.refl _⟩ | refine ⟨?_, ?_⟩))⟩
              · rfl
              · rfl
      · by_cases herr : sE.2.2 = 0
        · rw [if_pos herr, damE, if_neg (by simpa using herr)]
          have hPW : ∀ i, i < sE.1.length → qW (sE.1.getD i default) := fun i hi => by
            rw [hsE] at hi ⊢
            exact damT_W k t cl k.clauses.length _ (getD_memA hi)
          generalize sE.1 = PL at *
          refine XK.weak (Weak.trans (Weak.stamp (k := 481) (t := 0) hN rfl rfl) (Weak.trans (Weak.of (L := [(8, .rptr (tmC t)), (12, .ptr 12 0), (13, .ptr 13 0), (16, .ptr 480 0)])
            (O := [(480, .cells 41 [.vec 481 0]), (481, .vec 29 2 0 PL.length (fun i => [.c (.int .i64 (PL.getD i default).1), .c (.int .i64 (PL.getD i default).2)])), (12, .cells 45 [.c (.int .i64 sE.2.1.unit), .c (.int .i64 sE.2.1.val.1), .c (.int .i64 sE.2.1.val.2)]), (13, .cells 38 [.c (.int .i64 sE.2.2)])]) (nx := 4000) (nt := 116) (md := fun _ => false) hN rfl rfl rfl (by (repeat' (first | exact rfl | exact AvIs.refl _ | exact trivial | exact fun _ _ => rfl | exact fun _ _ => ⟨rfl, AvIs.refl _⟩ | refine ⟨?_, ?_⟩))) ⟨⟨rfl, congrArg (fun x => [x]) (stampG_self 481 PL.length 0)⟩, by (repeat' (first | exact rfl | exact AvIs.refl _ | exact trivial | exact fun _ _ => rfl | exact fun _ _ => ⟨rfl, AvIs.refl _⟩ | refine ⟨?_, ?_⟩)), by (repeat' (first | exact rfl | exact AvIs.refl _ | exact trivial | exact fun _ _ => rfl | exact fun _ _ => ⟨rfl, AvIs.refl _⟩ | refine ⟨?_, ?_⟩)), by (repeat' (first | exact rfl | exact AvIs.refl _ | exact trivial | exact fun _ _ => rfl | exact fun _ _ => ⟨rfl, AvIs.refl _⟩ | refine ⟨?_, ?_⟩))⟩)
            (Weak.trans (Weak.frozen (k := 481) hN rfl rfl) (Weak.of (L := [(8, .rptr (tmC t)), (12, .ptr 12 0), (13, .ptr 13 0), (16, .ptr 480 0)])
            (O := [(480, .cells 41 [ratV PL.length (fun i => PL.getD i default)]), (12, .cells 45 [.c (.int .i64 sE.2.1.unit), .c (.int .i64 sE.2.1.val.1), .c (.int .i64 sE.2.1.val.2)]), (13, .cells 38 [.c (.int .i64 sE.2.2)])]) (nx := 4000) (nt := 116) (md := fun _ => false) hN rfl rfl rfl (by (repeat' (first | exact rfl | exact AvIs.refl _ | exact trivial | exact fun _ _ => rfl | exact fun _ _ => ⟨rfl, AvIs.refl _⟩ | refine ⟨?_, ?_⟩))) (by (repeat' (first | exact rfl | exact AvIs.refl _ | exact trivial | exact fun _ _ => rfl | exact fun _ _ => ⟨rfl, AvIs.refl _⟩ | refine ⟨?_, ?_⟩))))))) ?_
          have hcoW := collT_W (s := ((0, 1), 0)) (f := fun i => PL.getD i default) ⟨by simp [inK], by simp [inK]⟩ PL.length
          have hcol := collect_ok ((0, 1), 0) PL.length (fun i => PL.getD i default) ⟨by simp [inK], by simp [inK]⟩ hPW
          generalize collT ((0, 1), 0) (fun i => PL.getD i default) PL.length = co at *
          (repeat (first | refine XK.norm rfl rfl ?_ | refine XK.rgnA hT rfl rfl rfl ?_ | refine XK.rgnB hT hm rfl rfl rfl ?_)); refine XK.region ?_; refine XL.goA hT rfl rfl rfl rfl ?_
          refine XL.callMA [4084] hE rfl rfl rfl rfl trivial (hcol) rfl rfl rfl rfl rfl ?_
          refine XL.goA hT rfl rfl rfl rfl ?_; refine XL.fin ?_; (repeat (first | refine XK.norm rfl rfl ?_ | refine XK.rgnA hT rfl rfl rfl ?_ | refine XK.rgnB hT hm rfl rfl rfl ?_))
          (repeat (first | refine XK.norm rfl rfl ?_ | refine XK.rgnA hT rfl rfl rfl ?_ | refine XK.rgnB hT hm rfl rfl rfl ?_)); refine XK.cond rfl (fun h6 => ?_) (fun h6 => ?_) <;> (try simp at h6)
          · (repeat (first | refine XK.norm rfl rfl ?_ | refine XK.rgnA hT rfl rfl rfl ?_ | refine XK.rgnB hT hm rfl rfl rfl ?_))
            (first | refine XK.out rfl rfl rfl ?_ | refine XK.outN rfl rfl rfl ?_)
            rw [if_pos h6]
            rfl
          · rw [if_neg (by simpa using h6)]
            (repeat (first | refine XK.norm rfl rfl ?_ | refine XK.rgnA hT rfl rfl rfl ?_ | refine XK.rgnB hT hm rfl rfl rfl ?_)); refine XK.drawn hm ?_; refine XD.goA hT rfl rfl rfl rfl ?_
            refine XD.callLA hE rfl rfl rfl rfl trivial rfl (capped_ok t co.1 ht hcoW) rfl ?_
            refine XD.goA hT rfl rfl rfl rfl ?_; refine XD.fin (by kernel_rfl) ?_; (repeat (first | refine XK.norm rfl rfl ?_ | refine XK.rgnA hT rfl rfl rfl ?_ | refine XK.rgnB hT hm rfl rfl rfl ?_))
            generalize cappedR t co.1 = cp at *
            (repeat (first | refine XK.norm rfl rfl ?_ | refine XK.rgnA hT rfl rfl rfl ?_ | refine XK.rgnB hT hm rfl rfl rfl ?_)); refine XK.cond rfl (fun h7 => ?_) (fun h7 => ?_) <;> (try simp at h7)
            · (repeat (first | refine XK.norm rfl rfl ?_ | refine XK.rgnA hT rfl rfl rfl ?_ | refine XK.rgnB hT hm rfl rfl rfl ?_))
              (first | refine XK.out rfl rfl rfl ?_ | refine XK.outN rfl rfl rfl ?_)
              rw [if_pos h7]
              rfl
            · (repeat (first | refine XK.norm rfl rfl ?_ | refine XK.rgnA hT rfl rfl rfl ?_ | refine XK.rgnB hT hm rfl rfl rfl ?_))
              (first | refine XK.out rfl rfl rfl ?_ | refine XK.outN rfl rfl rfl ?_)
              rw [if_neg (by simpa using h7)]
              rfl
        · rw [if_neg herr, damE, if_pos herr]
          show XK E [.code .ret, _, _] _ _
          (repeat (first | refine XK.norm rfl rfl ?_ | refine XK.rgnA hT rfl rfl rfl ?_ | refine XK.rgnB hT hm rfl rfl rfl ?_))
          (first | refine XK.out rfl rfl rfl ?_ | refine XK.outN rfl rfl rfl ?_)
          rfl
end Go.Proofs.Ytiiegpjpckkohaa
end
section
/- Contracts: package remedy: Balance. The law's head. -/
namespace Go.Proofs.Ytiiegpjpckkohaa
open Go.Eng
set_option maxRecDepth 10000
set_option linter.unusedSimpArgs false
set_option linter.unusedVariables false
theorem cappedR_W {t : Tm} {a : Q} (ht : tmW t) (ha : qW a) : qW (cappedR t a).1 := by
  unfold cappedR
  split
  · exact ⟨by simp [inK], by simp [inK]⟩
  · split
    · exact ht.2.2
    · exact ha
theorem damE_W {t : Tm} (ht : tmW t) {s : Dm} (hs : qW s.2.1.val) : qW (damE t s).1.val := by
  have z : qW zA.val := ⟨by simp [inK, zA], by simp [inK, zA]⟩
  unfold damE
  split
  · exact hs
  · split
    · exact z
    · split
      · exact z
      · exact cappedR_W ht (collT_W ⟨by simp [inK], by simp [inK]⟩ _)
theorem damT_res (k : K) (t : Tm) (cl : Nat → Option Clm) : ∀ i, (damT k t cl i).2.1 = zA
  | 0 => rfl
  | i + 1 => by
    have ih := damT_res k t cl i
    simp only [damT]
    split
    · exact ih
    · split
      · exact ih
      · unfold damF
        split
        · rfl
        · split
          · rfl
          · exact ih
theorem damagesR_W {k : K} {l : List Int} {t : Tm} (ht : tmW t) (a b u : Int) : qW (damagesR k l t a b u).1.val := by
  have z : qW zA.val := ⟨by simp [inK, zA], by simp [inK, zA]⟩
  unfold damagesR
  split
  · exact z
  · split
    · exact z
    · exact damE_W ht (by rw [damT_res]; exact z)
noncomputable def balanceR (k : K) (l : List Int) (t : Tm) (a b u : Int) : A × Int :=
  if (damagesR k l t a b u).2 ≠ 0 then (zA, (damagesR k l t a b u).2)
  else if (damagesR k l t b a u).2 ≠ 0 then (zA, (damagesR k l t b a u).2)
  else if (subR (damagesR k l t a b u).1.val (damagesR k l t b a u).1.val).2 ≠ 0 then (zA, (subR (damagesR k l t a b u).1.val (damagesR k l t b a u).1.val).2)
  else (⟨t.unit, (subR (damagesR k l t a b u).1.val (damagesR k l t b a u).1.val).1⟩, 0)
theorem balance_ok (k : K) (hk : kW k) (l : List Int) (t : Tm) (ht : tmW t) (a b u : Int) : Does Try.prog 22 [kV k, intsV l, tmV t, .c (.int .i64 a), .c (.int .i64 b), .c (.int .i64 u)] (ar (balanceR k l t a b u)) := by
  refine Does.mk (fun _ => false) TT_ok Try.func22 rfl (by kernel_rfl) Try.ntmps22 rfl rfl fun E hT hE hN hR => ?_
  have hm : E.P.follows .mixedOrders = true := by rw [hE]; kernel_rfl
  unfold balanceR
  have h1 := damages_ok k hk l t ht a b u
  have h2 := damages_ok k hk l t ht b a u
  have w1 := damagesR_W (k := k) (l := l) ht a b u
  have w2 := damagesR_W (k := k) (l := l) ht b a u
  generalize damagesR k l t a b u = x at *
  generalize damagesR k l t b a u = y at *
  (repeat (first | refine XK.norm rfl rfl ?_ | refine XK.rgnA hT rfl rfl rfl ?_ | refine XK.rgnB hT hm rfl rfl rfl ?_)); refine XK.region ?_; refine XL.goA hT rfl rfl rfl rfl ?_
  refine XL.callLA hE rfl rfl rfl rfl trivial rfl (h1) rfl ?_
  refine XL.goA hT rfl rfl rfl rfl ?_; refine XL.fin ?_; (repeat (first | refine XK.norm rfl rfl ?_ | refine XK.rgnA hT rfl rfl rfl ?_ | refine XK.rgnB hT hm rfl rfl rfl ?_))
  (repeat (first | refine XK.norm rfl rfl ?_ | refine XK.rgnA hT rfl rfl rfl ?_ | refine XK.rgnB hT hm rfl rfl rfl ?_)); refine XK.cond rfl (fun h6 => ?_) (fun h6 => ?_) <;> (try simp at h6)
  · (repeat (first | refine XK.norm rfl rfl ?_ | refine XK.rgnA hT rfl rfl rfl ?_ | refine XK.rgnB hT hm rfl rfl rfl ?_))
    (first | refine XK.out rfl rfl rfl ?_ | refine XK.outN rfl rfl rfl ?_)
    rw [if_pos h6]
    rfl
  · rw [if_neg (by simpa using h6)]
    (repeat (first | refine XK.norm rfl rfl ?_ | refine XK.rgnA hT rfl rfl rfl ?_ | refine XK.rgnB hT hm rfl rfl rfl ?_)); refine XK.region ?_; refine XL.goA hT rfl rfl rfl rfl ?_
    refine XL.callLA hE rfl rfl rfl rfl trivial rfl (h2) rfl ?_
    refine XL.goA hT rfl rfl rfl rfl ?_; refine XL.fin ?_; (repeat (first | refine XK.norm rfl rfl ?_ | refine XK.rgnA hT rfl rfl rfl ?_ | refine XK.rgnB hT hm rfl rfl rfl ?_))
    (repeat (first | refine XK.norm rfl rfl ?_ | refine XK.rgnA hT rfl rfl rfl ?_ | refine XK.rgnB hT hm rfl rfl rfl ?_)); refine XK.cond rfl (fun h7 => ?_) (fun h7 => ?_) <;> (try simp at h7)
    · (repeat (first | refine XK.norm rfl rfl ?_ | refine XK.rgnA hT rfl rfl rfl ?_ | refine XK.rgnB hT hm rfl rfl rfl ?_))
      (first | refine XK.out rfl rfl rfl ?_ | refine XK.outN rfl rfl rfl ?_)
      rw [if_pos h7]
      rfl
    · rw [if_neg (by simpa using h7)]
      (repeat (first | refine XK.norm rfl rfl ?_ | refine XK.rgnA hT rfl rfl rfl ?_ | refine XK.rgnB hT hm rfl rfl rfl ?_)); refine XK.region ?_; refine XL.goA hT rfl rfl rfl rfl ?_
      refine XL.callLA hE rfl rfl rfl rfl trivial rfl (sub_ok x.1.val y.1.val w1 w2) rfl ?_
      refine XL.goA hT rfl rfl rfl rfl ?_; refine XL.fin ?_; (repeat (first | refine XK.norm rfl rfl ?_ | refine XK.rgnA hT rfl rfl rfl ?_ | refine XK.rgnB hT hm rfl rfl rfl ?_))
      (repeat (first | refine XK.norm rfl rfl ?_ | refine XK.rgnA hT rfl rfl rfl ?_ | refine XK.rgnB hT hm rfl rfl rfl ?_)); refine XK.cond rfl (fun h8 => ?_) (fun h8 => ?_) <;> (try simp at h8)
      · (repeat (first | refine XK.norm rfl rfl ?_ | refine XK.rgnA hT rfl rfl rfl ?_ | refine XK.rgnB hT hm rfl rfl rfl ?_))
        (first | refine XK.out rfl rfl rfl ?_ | refine XK.outN rfl rfl rfl ?_)
        rw [if_pos h8]
        rfl
      · (repeat (first | refine XK.norm rfl rfl ?_ | refine XK.rgnA hT rfl rfl rfl ?_ | refine XK.rgnB hT hm rfl rfl rfl ?_))
        (first | refine XK.out rfl rfl rfl ?_ | refine XK.outN rfl rfl rfl ?_)
        rw [if_neg (by simpa using h8)]
        rfl
theorem whole_ok (n : Int) : Does Try.prog 40 [.c (.int .i64 n)] (qv (n, 1)) := by
  refine Does.mk (fun _ => false) TT_ok Try.func40 rfl (by kernel_rfl) Try.ntmps40 rfl rfl fun E hT hE hN hR => ?_
  have hm : E.P.follows .mixedOrders = true := by rw [hE]; kernel_rfl
  (repeat (first | refine XK.norm rfl rfl ?_ | refine XK.rgnA hT rfl rfl rfl ?_ | refine XK.rgnB hT hm rfl rfl rfl ?_))
  (first | refine XK.out rfl rfl rfl ?_ | refine XK.outN rfl rfl rfl ?_)
  rfl
def exK41 : K :=
  { parties := 2, holders := [0, 1], units := [⟨⟨#[69, 85, 82]⟩, 2, 0, (1, 1)⟩], acts := [⟨1, 0, 0, -1, -1, (0, 1)⟩], clauses := [⟨1, 0, 0, 1, [], 3, 0, false, false, -1, -1, (100, 1), 0, 1, false⟩], days := 20, off := [] }
theorem exK41_W : kW exK41 := by
  simp [kW, exK41, inK, uW, actW, clW, qW]
theorem example41_ok : Does Try.prog 68 [] (kV exK41) := by
  refine Does.weaken (res := ?x) ?_ ?_
  rotate_left
  refine Does.mk (fun _ => false) TT_ok Try.func68 rfl (by kernel_rfl) Try.ntmps68 rfl rfl fun E hT hE hN hR => ?_
  have hm : E.P.follows .mixedOrders = true := by rw [hE]; kernel_rfl
  (repeat (first | refine XK.norm rfl rfl ?_ | refine XK.rgnA hT rfl rfl rfl ?_ | refine XK.rgnB hT hm rfl rfl rfl ?_)); refine XK.region ?_; refine XL.goA hT rfl rfl rfl rfl ?_
  refine XL.callLA hE rfl rfl rfl rfl trivial rfl (whole_ok 1) rfl ?_
  refine XL.goA hT rfl rfl rfl rfl ?_
  refine XL.callLA hE rfl rfl rfl rfl trivial rfl (whole_ok 0) rfl ?_
  refine XL.goA hT rfl rfl rfl rfl ?_
  refine XL.callLA hE rfl rfl rfl rfl trivial rfl (whole_ok 100) rfl ?_
  refine XL.goA hT rfl rfl rfl rfl ?_; refine XL.fin ?_; (repeat (first | refine XK.norm rfl rfl ?_ | refine XK.rgnA hT rfl rfl rfl ?_ | refine XK.rgnB hT hm rfl rfl rfl ?_))
  (repeat (first | refine XK.norm rfl rfl ?_ | refine XK.rgnA hT rfl rfl rfl ?_ | refine XK.rgnB hT hm rfl rfl rfl ?_))
  (first | refine XK.out rfl rfl rfl ?_ | refine XK.outN rfl rfl rfl ?_)
  rfl
  · refine AvS.agg ⟨AvS.refl _, AvS.rs (fun i hi => ?_), AvS.rs (fun i hi => ?_), AvS.rs (fun i hi => ?_), AvS.rs (fun i hi => ?_), AvS.refl _, AvS.nil, trivial⟩
    · rcases i with _ | _ | i
      · exact AvSL.refl _
      · exact AvSL.refl _
      · omega
    · rcases i with _ | i
      · exact AvSL.refl _
      · omega
    · rcases i with _ | i
      · exact AvSL.refl _
      · omega
    · rcases i with _ | i
      · exact ⟨AvS.refl _, AvS.refl _, AvS.refl _, AvS.refl _, AvS.nil, AvSL.refl _⟩
      · omega
theorem A.ext2 {a b : A} (h1 : a.unit = b.unit) (h2 : a.val = b.val) : a = b := by cases a; cases b; simp_all
def exT41 : Tm := ⟨0, (1, 1000), (-1, 1)⟩
def exU41 : Tm := ⟨0, (1, 1000), (201, 2)⟩
theorem ex_d1 : damagesR exK41 [-1, -1, -1] exT41 0 1 2 = (⟨0, (0, 1)⟩, 0) := Prod.ext (A.ext2 (by decide +kernel) (by decide +kernel)) (by decide +kernel)
theorem ex_d2 : damagesR exK41 [-1, -1, -1] exT41 0 1 3 = (⟨0, (100, 1)⟩, 0) := Prod.ext (A.ext2 (by decide +kernel) (by decide +kernel)) (by decide +kernel)
theorem ex_d3 : damagesR exK41 [-1, -1, -1] exT41 0 1 13 = (⟨0, (101, 1)⟩, 0) := Prod.ext (A.ext2 (by decide +kernel) (by decide +kernel)) (by decide +kernel)
theorem ex_d4 : damagesR exK41 [-1, -1, -1] exU41 0 1 13 = (⟨0, (201, 2)⟩, 0) := Prod.ext (A.ext2 (by decide +kernel) (by decide +kernel)) (by decide +kernel)
theorem ex_d5 : balanceR exK41 [-1, -1, -1] exT41 1 0 13 = (⟨0, (-101, 1)⟩, 0) := Prod.ext (A.ext2 (by decide +kernel) (by decide +kernel)) (by decide +kernel)
theorem ex_d6 : damagesR exK41 [-1, -1, -1] exT41 0 0 13 = (zA, 1) := Prod.ext (A.ext2 (by decide +kernel) (by decide +kernel)) (by decide +kernel)
theorem ex_d7 : interestR exT41 (100, 1) 10 = ((1, 1), 0) := by decide +kernel
theorem ex_d8 : cappedR exU41 (3, 1) = ((3, 1), 0) := by decide +kernel
theorem exT41_W : tmW exT41 := by simp [tmW, exT41, inK, qW]
theorem exU41_W : tmW exU41 := by simp [tmW, exU41, inK, qW]
theorem head41_ok : Does Try.prog 38 [] (.c (.bool true)) := by
  refine Does.mk (fun _ => false) TT_ok Try.func38 rfl (by kernel_rfl) Try.ntmps38 rfl rfl fun E hT hE hN hR => ?_
  have hm : E.P.follows .mixedOrders = true := by rw [hE]; kernel_rfl
  (repeat (first | refine XK.norm rfl rfl ?_ | refine XK.rgnA hT rfl rfl rfl ?_ | refine XK.rgnB hT hm rfl rfl rfl ?_)); refine XK.region ?_; refine XL.goA hT rfl rfl rfl rfl ?_
  refine XL.callKA hE rfl rfl rfl rfl trivial rfl rfl (example41_ok) ?_
  refine XL.goA hT rfl rfl rfl rfl ?_; refine XL.fin ?_; (repeat (first | refine XK.norm rfl rfl ?_ | refine XK.rgnA hT rfl rfl rfl ?_ | refine XK.rgnB hT hm rfl rfl rfl ?_))
  (repeat (first | refine XK.norm rfl rfl ?_ | refine XK.rgnA hT rfl rfl rfl ?_ | refine XK.rgnB hT hm rfl rfl rfl ?_)); refine XK.region ?_; refine XL.goA hT rfl rfl rfl rfl ?_
  refine XL.callLA hE rfl rfl rfl rfl trivial rfl (whole_ok (-1)) rfl ?_
  refine XL.goA hT rfl rfl rfl rfl ?_; refine XL.fin ?_; (repeat (first | refine XK.norm rfl rfl ?_ | refine XK.rgnA hT rfl rfl rfl ?_ | refine XK.rgnB hT hm rfl rfl rfl ?_))
  (repeat (first | refine XK.norm rfl rfl ?_ | refine XK.rgnA hT rfl rfl rfl ?_ | refine XK.rgnB hT hm rfl rfl rfl ?_)); refine XK.region ?_; refine XL.goA hT rfl rfl rfl rfl ?_
  refine XL.callLA hE rfl rfl rfl rfl trivial rfl (damages_ok exK41 exK41_W [-1, -1, -1] exT41 exT41_W 0 1 2) rfl ?_
  rw [ex_d1]
  refine XL.goA hT rfl rfl rfl rfl ?_; refine XL.fin ?_; (repeat (first | refine XK.norm rfl rfl ?_ | refine XK.rgnA hT rfl rfl rfl ?_ | refine XK.rgnB hT hm rfl rfl rfl ?_))
  (repeat (first | refine XK.norm rfl rfl ?_ | refine XK.rgnA hT rfl rfl rfl ?_ | refine XK.rgnB hT hm rfl rfl rfl ?_)); refine XK.region ?_; refine XL.goA hT rfl rfl rfl rfl ?_
  refine XL.callLA hE rfl rfl rfl rfl trivial rfl (damages_ok exK41 exK41_W [-1, -1, -1] exT41 exT41_W 0 1 3) rfl ?_
  rw [ex_d2]
  refine XL.goA hT rfl rfl rfl rfl ?_; refine XL.fin ?_; (repeat (first | refine XK.norm rfl rfl ?_ | refine XK.rgnA hT rfl rfl rfl ?_ | refine XK.rgnB hT hm rfl rfl rfl ?_))
  (repeat (first | refine XK.norm rfl rfl ?_ | refine XK.rgnA hT rfl rfl rfl ?_ | refine XK.rgnB hT hm rfl rfl rfl ?_)); refine XK.region ?_; refine XL.goA hT rfl rfl rfl rfl ?_
  refine XL.callLA hE rfl rfl rfl rfl trivial rfl (damages_ok exK41 exK41_W [-1, -1, -1] exT41 exT41_W 0 1 13) rfl ?_
  rw [ex_d3]
  refine XL.goA hT rfl rfl rfl rfl ?_; refine XL.fin ?_; (repeat (first | refine XK.norm rfl rfl ?_ | refine XK.rgnA hT rfl rfl rfl ?_ | refine XK.rgnB hT hm rfl rfl rfl ?_))
  (repeat (first | refine XK.norm rfl rfl ?_ | refine XK.rgnA hT rfl rfl rfl ?_ | refine XK.rgnB hT hm rfl rfl rfl ?_)); refine XK.region ?_; refine XL.goA hT rfl rfl rfl rfl ?_
  refine XL.callLA hE rfl rfl rfl rfl trivial rfl (damages_ok exK41 exK41_W [-1, -1, -1] exU41 exU41_W 0 1 13) rfl ?_
  rw [ex_d4]
  refine XL.goA hT rfl rfl rfl rfl ?_; refine XL.fin ?_; (repeat (first | refine XK.norm rfl rfl ?_ | refine XK.rgnA hT rfl rfl rfl ?_ | refine XK.rgnB hT hm rfl rfl rfl ?_))
  (repeat (first | refine XK.norm rfl rfl ?_ | refine XK.rgnA hT rfl rfl rfl ?_ | refine XK.rgnB hT hm rfl rfl rfl ?_)); refine XK.region ?_; refine XL.goA hT rfl rfl rfl rfl ?_
  refine XL.callLA hE rfl rfl rfl rfl trivial rfl (balance_ok exK41 exK41_W [-1, -1, -1] exT41 exT41_W 1 0 13) rfl ?_
  rw [ex_d5]
  refine XL.goA hT rfl rfl rfl rfl ?_; refine XL.fin ?_; (repeat (first | refine XK.norm rfl rfl ?_ | refine XK.rgnA hT rfl rfl rfl ?_ | refine XK.rgnB hT hm rfl rfl rfl ?_))
  (repeat (first | refine XK.norm rfl rfl ?_ | refine XK.rgnA hT rfl rfl rfl ?_ | refine XK.rgnB hT hm rfl rfl rfl ?_)); refine XK.region ?_; refine XL.goA hT rfl rfl rfl rfl ?_
  refine XL.callLA hE rfl rfl rfl rfl trivial rfl (damages_ok exK41 exK41_W [-1, -1, -1] exT41 exT41_W 0 0 13) rfl ?_
  rw [ex_d6]
  refine XL.goA hT rfl rfl rfl rfl ?_; refine XL.fin ?_; (repeat (first | refine XK.norm rfl rfl ?_ | refine XK.rgnA hT rfl rfl rfl ?_ | refine XK.rgnB hT hm rfl rfl rfl ?_))
  (repeat (first | refine XK.norm rfl rfl ?_ | refine XK.rgnA hT rfl rfl rfl ?_ | refine XK.rgnB hT hm rfl rfl rfl ?_)); refine XK.drawn hm ?_; refine XD.goA hT rfl rfl rfl rfl ?_
  refine XD.callLA hE rfl rfl rfl rfl trivial rfl (whole_ok 100) rfl ?_
  refine XD.goA hT rfl rfl rfl rfl ?_
  refine XD.callLA hE rfl rfl rfl rfl trivial rfl (interest_ok exT41 (100, 1) 10 exT41_W ⟨by simp [inK], by simp [inK]⟩ (by simp [inK])) rfl ?_
  rw [ex_d7]
  refine XD.goA hT rfl rfl rfl rfl ?_; refine XD.fin (by kernel_rfl) ?_; (repeat (first | refine XK.norm rfl rfl ?_ | refine XK.rgnA hT rfl rfl rfl ?_ | refine XK.rgnB hT hm rfl rfl rfl ?_))
  (repeat (first | refine XK.norm rfl rfl ?_ | refine XK.rgnA hT rfl rfl rfl ?_ | refine XK.rgnB hT hm rfl rfl rfl ?_)); refine XK.drawn hm ?_; refine XD.goA hT rfl rfl rfl rfl ?_
  refine XD.callLA hE rfl rfl rfl rfl trivial rfl (whole_ok 3) rfl ?_
  refine XD.goA hT rfl rfl rfl rfl ?_
  refine XD.callLA hE rfl rfl rfl rfl trivial rfl (capped_ok exU41 (3, 1) exU41_W ⟨by simp [inK], by simp [inK]⟩) rfl ?_
  rw [ex_d8]
  refine XD.goA hT rfl rfl rfl rfl ?_; refine XD.fin (by kernel_rfl) ?_; (repeat (first | refine XK.norm rfl rfl ?_ | refine XK.rgnA hT rfl rfl rfl ?_ | refine XK.rgnB hT hm rfl rfl rfl ?_))
  (repeat (first | refine XK.norm rfl rfl ?_ | refine XK.rgnA hT rfl rfl rfl ?_ | refine XK.rgnB hT hm rfl rfl rfl ?_)); refine XK.drawn hm ?_; refine XD.goA hT rfl rfl rfl rfl ?_
  refine XD.callGA hE rfl rfl rfl rfl rfl rfl rfl rfl rfl (whole_ok 0) rfl ?_
  refine XD.goA hT rfl rfl rfl rfl ?_
  refine XD.callGA hE rfl rfl rfl rfl rfl rfl rfl rfl rfl (whole_ok 100) rfl ?_
  refine XD.goA hT rfl rfl rfl rfl ?_
  refine XD.callGA hE rfl rfl rfl rfl rfl rfl rfl rfl rfl (whole_ok 101) rfl ?_
  refine XD.goA hT rfl rfl rfl rfl ?_; refine XD.fin (by kernel_rfl) ?_; (repeat (first | refine XK.norm rfl rfl ?_ | refine XK.rgnA hT rfl rfl rfl ?_ | refine XK.rgnB hT hm rfl rfl rfl ?_))
  (repeat (first | refine XK.norm rfl rfl ?_ | refine XK.rgnA hT rfl rfl rfl ?_ | refine XK.rgnB hT hm rfl rfl rfl ?_)); refine XK.drawn hm ?_; refine XD.goA hT rfl rfl rfl rfl ?_
  refine XD.callGA hE rfl rfl rfl rfl rfl rfl rfl rfl rfl (whole_ok (-101)) rfl ?_
  refine XD.goA hT rfl rfl rfl rfl ?_
  refine XD.callGA hE rfl rfl rfl rfl rfl rfl rfl rfl rfl (whole_ok 1) rfl ?_
  refine XD.goA hT rfl rfl rfl rfl ?_
  refine XD.callGA hE rfl rfl rfl rfl rfl rfl rfl rfl rfl (whole_ok 3) rfl ?_
  refine XD.goA hT rfl rfl rfl rfl ?_; refine XD.fin (by kernel_rfl) ?_; (repeat (first | refine XK.norm rfl rfl ?_ | refine XK.rgnA hT rfl rfl rfl ?_ | refine XK.rgnB hT hm rfl rfl rfl ?_))
  (repeat (first | refine XK.norm rfl rfl ?_ | refine XK.rgnA hT rfl rfl rfl ?_ | refine XK.rgnB hT hm rfl rfl rfl ?_))
  (first | refine XK.out rfl rfl rfl ?_ | refine XK.outN rfl rfl rfl ?_)
  refine cB ?_
  kernel_rfl
end Go.Proofs.Ytiiegpjpckkohaa
end
