import Derived.Test.YtofdehlikigonaaG6
section
/- Contracts: package version: finish (of Days). -/
namespace Go.Proofs.Ytofdehlikigonaa
open Go.Eng
set_option maxRecDepth 10000
set_option linter.unusedSimpArgs false
set_option linter.unusedVariables false
/-- What the days are computed with. -/
structure DyS where
  before : K
  now : K
  days : List Int
  day : Int
noncomputable def finD (s : DyS) : DyS := ⟨s.now, s.now, if sameK s.before s.now = true then s.days else s.days ++ [s.day], s.day⟩
def finO (s : DyS) : List Ob := [.cells 41 (kC s.before), .cells 41 (kC s.now), .cells 24 [.vec 3 (2 * s.days.length)], numsO s.days, .cells 3 [.c (.int .i64 s.day)]]
theorem fin_ok (s : DyS) (hd : s.days.length ≤ 1000) (hl : s.before.clauses.length ≤ 1000000) (hs : ∀ i, i < s.before.clauses.length → (s.before.clauses.getD i default).start.length ≤ 1000000) :
    DoesM Try.prog 28 [.ptr 0 0, .ptr 1 0, .ptr 2 0, .ptr 4 0] (finO s) (.tup []) (finO (finD s)) := by
  obtain ⟨before, now, days, day⟩ := s
  simp only at hd hl hs
  refine DoesM.mk (fun _ => false) 100 TT_ok Try.func28 rfl (by kernel_rfl) Try.ntmps28 rfl rfl rfl fun E hT hE hN hR => ?_
  have hm : E.P.follows .mixedOrders = true := by rw [hE]; kernel_rfl
  (repeat (first | refine XK.norm rfl rfl ?_ | refine XK.rgnA hT rfl rfl rfl ?_ | refine XK.rgnB hT hm rfl rfl rfl ?_)); refine XK.region ?_; refine XL.goA hT rfl rfl rfl rfl ?_
  refine XL.callLA hE rfl rfl rfl rfl trivial rfl (sameV_ok before now hl hs) rfl ?_
  refine XL.goA hT rfl rfl rfl rfl ?_; refine XL.fin ?_; (repeat (first | refine XK.norm rfl rfl ?_ | refine XK.rgnA hT rfl rfl rfl ?_ | refine XK.rgnB hT hm rfl rfl rfl ?_))
  unfold finD
  generalize sameK before now = sm at *
  (repeat (first | refine XK.norm rfl rfl ?_ | refine XK.rgnA hT rfl rfl rfl ?_ | refine XK.rgnB hT hm rfl rfl rfl ?_)); refine XK.cond rfl (fun h1 => ?_) (fun h1 => ?_)
  · have h1 : sm = false := by simpa using h1
    subst h1
    simp only [Bool.false_eq_true, if_false]
    refine XK.weak (Weak.trans (Weak.steal 500 (k := 3) (s := 2 * days.length) (f' := fun _ => []) hN rfl rfl rfl) (Weak.of (L := [(0, .ptr 0 0), (1, .ptr 1 0), (2, .ptr 2 0), (3, .ptr 4 0)])
      (O := [(0, .cells 41 (kC before)), (1, .cells 41 (kC now)), (2, .cells 24 [.vec 500 0]), (3, .vec 3 1 (2 * days.length + 1) 0 (fun _ => [])), (4, .cells 3 [.c (.int .i64 day)]),
        (500, .vec 3 1 0 days.length (fun i => [.c (.int .i64 (days.getD i default))]))]) (nx := 3000) (nt := 13) (md := fun _ => false) hN rfl rfl rfl (by (repeat' (first | exact rfl | exact AvIs.refl _ | exact trivial | exact fun _ _ => rfl | exact fun _ _ => ⟨rfl, AvIs.refl _⟩ | refine ⟨?_, ?_⟩))) ⟨by (repeat' (first | exact rfl | exact AvIs.refl _ | exact trivial | exact fun _ _ => rfl | exact fun _ _ => ⟨rfl, AvIs.refl _⟩ | refine ⟨?_, ?_⟩)), by (repeat' (first | exact rfl | exact AvIs.refl _ | exact trivial | exact fun _ _ => rfl | exact fun _ _ => ⟨rfl, AvIs.refl _⟩ | refine ⟨?_, ?_⟩)), ⟨rfl, congrArg (fun x => [x]) (stealG_self 3 (2 * days.length) 500)⟩, by (repeat' (first | exact rfl | exact AvIs.refl _ | exact trivial | exact fun _ _ => rfl | exact fun _ _ => ⟨rfl, AvIs.refl _⟩ | refine ⟨?_, ?_⟩)), by (repeat' (first | exact rfl | exact AvIs.refl _ | exact trivial | exact fun _ _ => rfl | exact fun _ _ => ⟨rfl, AvIs.refl _⟩ | refine ⟨?_, ?_⟩)), by (repeat' (first | exact rfl | exact AvIs.refl _ | exact trivial | exact fun _ _ => rfl | exact fun _ _ => ⟨rfl, AvIs.refl _⟩ | refine ⟨?_, ?_⟩))⟩)) ?_
    refine XK.rgnA hT rfl rfl rfl ?_
    refine XK.weak (Weak.give (k := 3) (q := 500) (2 * (days.length + 1)) hN rfl rfl rfl rfl (by show 2 * days.length + 1 < _; omega)) ?_
    (repeat (first | refine XK.norm rfl rfl ?_ | refine XK.rgnA hT rfl rfl rfl ?_ | refine XK.rgnB hT hm rfl rfl rfl ?_))
    (first | refine XK.outR [0, 1, 2, 3, 4] hN rfl rfl rfl ?_ rfl rfl ?_ | refine XK.outRN [0, 1, 2, 3, 4] hN rfl rfl rfl ?_ rfl rfl ?_)
    · exact ⟨by (repeat' (first | exact rfl | exact AvIs.refl _ | exact trivial | exact fun _ _ => rfl | exact fun _ _ => ⟨rfl, AvIs.refl _⟩ | refine ⟨?_, ?_⟩)), by (repeat' (first | exact rfl | exact AvIs.refl _ | exact trivial | exact fun _ _ => rfl | exact fun _ _ => ⟨rfl, AvIs.refl _⟩ | refine ⟨?_, ?_⟩)), ⟨rfl, by simp⟩, ⟨⟨rfl, rfl, by simp⟩, by simp, ints_appV days day _ rfl⟩, by (repeat' (first | exact rfl | exact AvIs.refl _ | exact trivial | exact fun _ _ => rfl | exact fun _ _ => ⟨rfl, AvIs.refl _⟩ | refine ⟨?_, ?_⟩))⟩
    · (repeat' (first | exact rfl | exact AvIs.refl _ | exact trivial | exact fun _ _ => rfl | exact fun _ _ => ⟨rfl, AvIs.refl _⟩ | refine ⟨?_, ?_⟩))
  · have h1 : sm = true := by simpa using h1
    subst h1
    simp only [if_true]
    (repeat (first | refine XK.norm rfl rfl ?_ | refine XK.rgnA hT rfl rfl rfl ?_ | refine XK.rgnB hT hm rfl rfl rfl ?_))
    (first | refine XK.outR [0, 1, 2, 3, 4] hN rfl rfl rfl ?_ rfl rfl ?_ | refine XK.outRN [0, 1, 2, 3, 4] hN rfl rfl rfl ?_ rfl rfl ?_)
    · (repeat' (first | exact rfl | exact AvIs.refl _ | exact trivial | exact fun _ _ => rfl | exact fun _ _ => ⟨rfl, AvIs.refl _⟩ | refine ⟨?_, ?_⟩))
    · (repeat' (first | exact rfl | exact AvIs.refl _ | exact trivial | exact fun _ _ => rfl | exact fun _ _ => ⟨rfl, AvIs.refl _⟩ | refine ⟨?_, ?_⟩))
end Go.Proofs.Ytofdehlikigonaa
end
section
/- Contracts: package version: Days. -/
namespace Go.Proofs.Ytofdehlikigonaa
open Go.Eng
set_option maxRecDepth 10000
set_option linter.unusedSimpArgs false
set_option linter.unusedVariables false
def dyO (s : DyS) : List Ob := [.cells 41 (kC s.before), .cells 41 (kC s.now), .cells 24 [.vec 4 (2 * s.days.length)], numsO s.days, .cells 3 [.c (.int .i64 s.day)], .cells 1 [.fn (.func 28) [] [.ptr 1 0, .ptr 2 0, .ptr 3 0, .ptr 5 0]]]
def dyN (s : DyS) : List (Nat × Ob) := [(1, .cells 41 (kC s.before)), (2, .cells 41 (kC s.now)), (3, .cells 24 [.vec 4 (2 * s.days.length)]), (4, numsO s.days), (5, .cells 3 [.c (.int .i64 s.day)]), (6, .cells 1 [.fn (.func 28) [] [.ptr 1 0, .ptr 2 0, .ptr 3 0, .ptr 5 0]])]
def csD : List AV := frL 51 [(9, .ptr 3 0), (10, .ptr 5 0), (11, .ptr 1 0), (12, .ptr 2 0), (13, .ptr 6 0)]
theorem countD_ok (l : List Am) (known : Int) (hl : l.length ≤ 1000000) (L b : Nat) (rc : Array Value → Obj) (st : Nat → DyS)
    (hN0 : ∀ i, i < l.length → known < (amAt l i).known → st (i + 1) = st i)
    (hY : ∀ i, i < l.length → (amAt l i).known ≤ known → DoesR Try.prog L [amV (amAt l i)] (.lrec rc b csD :: dyO (st i)) (.c (.bool true)) (.lrec rc b csD :: dyO (st (i + 1)))) :
    DoesM Try.prog 45 [.fn (.yield L) [] [], .rptr [amsV l], .rptr [.c (.int .i64 known)]] (.lrec rc b csD :: dyO (st 0)) (.tup []) (.lrec rc b csD :: dyO (st l.length)) := by
  refine DoesM.mk (fun _ => false) 100 TT_ok Try.func45 rfl (by kernel_rfl) Try.ntmps45 rfl rfl rfl fun E hT hE hN hR => ?_
  have hm : E.P.follows .mixedOrders = true := by rw [hE]; kernel_rfl
  (repeat (first | refine XK.norm rfl rfl ?_ | refine XK.rgnA hT rfl rfl rfl ?_ | refine XK.rgnB hT hm rfl rfl rfl ?_)); refine XK.region ?_; refine XL.goA hT rfl rfl rfl rfl ?_
  refine XL.callKA hE rfl rfl rfl rfl trivial rfl rfl (order_ok l hl) ?_
  refine XL.goA hT rfl rfl rfl rfl ?_; refine XL.fin ?_; (repeat (first | refine XK.norm rfl rfl ?_ | refine XK.rgnA hT rfl rfl rfl ?_ | refine XK.rgnB hT hm rfl rfl rfl ?_))
  have hol := ordI_len l
  refine XK.loop (ι := Nat) (fun i => ST.of [(0, .fn (.yield L) [] []), (1, .rptr [amsV l]), (2, .rptr [.c (.int .i64 known)]), (7, intsV (ordI l)), (8, .c (.int .i64 l.length)), (9, .c (.int .i64 i))]
      ((0, .lrec rc b csD) :: dyN (st i)) 1000 30 (fun _ => false))
    (fun i => i ≤ l.length) (fun i => l.length - i) 0 (Nat.zero_le _)
    (Weak.of hN rfl rfl rfl (by (repeat' (first | exact rfl | exact AvIs.refl _ | exact trivial | exact fun _ _ => rfl | exact fun _ _ => ⟨rfl, AvIs.refl _⟩ | exact cI (by omega) | exact (cI (by omega)) | refine ⟨?_, ?_⟩))) (by (repeat' (first | exact rfl | exact AvIs.refl _ | exact trivial | exact fun _ _ => rfl | exact fun _ _ => ⟨rfl, AvIs.refl _⟩ | refine ⟨?_, ?_⟩)))) fun i hi => ?_
  (repeat (first | refine XK.norm rfl rfl ?_ | refine XK.rgnA hT rfl rfl rfl ?_ | refine XK.rgnB hT hm rfl rfl rfl ?_)); refine XK.cond rfl (fun hlt => ?_) (fun hlt => ?_) <;> (try simp at hlt)
  · have hY := hY i hlt
    have hN0 := hN0 i hlt
    have hor := ordI_at l hlt
    have hop : ordAt l i < l.length := by
      unfold ordAt
      have h1 : i < (ordL l).length := by rw [ordL_len]; exact hlt
      rw [List.getD_eq_getElem?_getD, List.getElem?_eq_getElem h1]
      exact ordL_lt (List.getElem_mem h1)
    have fx : (ordI l).getD (i : Int).toNat default = (ordAt l i : Nat) := hor
    have fa : l.getD ((ordAt l i : Nat) : Int).toNat default = amAt l i := rfl
    (repeat (first | refine XK.norm rfl rfl ?_ | refine XK.rgnA hT rfl rfl rfl ?_ | refine XK.rgnB hT hm rfl rfl rfl ?_))
    rw [fx]
    refine XK.drawn hm ?_
    refine XD.goA hT rfl rfl rfl rfl ?_
    rw [fa]
    have hN0 : (decide ((amAt l i).known ≤ known)) = false → st (i + 1) = st i := fun h => hN0 (by simpa using h)
    have hY : (decide ((amAt l i).known ≤ known)) = true → _ := fun h => hY (by simpa using h)
    generalize hg : decide ((amAt l i).known ≤ known) = gd at *
    refine XD.yieldMG [0, 1, 2, 3, 4, 5, 6] (.c (.bool false)) hE rfl rfl rfl rfl rfl rfl (fun hgd => ?_) rfl (fun hgd => ?_) (fun hgd => hY hgd) rfl ?_ rfl (fun hgd => ?_) rfl rfl rfl (fun hgd => ?_)
    · subst hgd
      refine XD.goA hT rfl rfl rfl rfl ?_; refine XD.fin (by kernel_rfl) ?_; (repeat (first | refine XK.norm rfl rfl ?_ | refine XK.rgnA hT rfl rfl rfl ?_ | refine XK.rgnB hT hm rfl rfl rfl ?_))
      (repeat (first | refine XK.norm rfl rfl ?_ | refine XK.rgnA hT rfl rfl rfl ?_ | refine XK.rgnB hT hm rfl rfl rfl ?_)); refine XK.cond rfl (fun hb => ?_) (fun hb => ?_)
      · cases hb
      · (repeat (first | refine XK.norm rfl rfl ?_ | refine XK.rgnA hT rfl rfl rfl ?_ | refine XK.rgnB hT hm rfl rfl rfl ?_))
        refine XK.inv ⟨i + 1, hlt, ?_, by omega⟩
        rw [hN0 rfl]
        exact (Weak.of hN rfl rfl rfl (by (repeat' (first | exact rfl | exact AvIs.refl _ | exact trivial | exact fun _ _ => rfl | exact fun _ _ => ⟨rfl, AvIs.refl _⟩ | refine ⟨?_, ?_⟩))) (by (repeat' (first | exact rfl | exact AvIs.refl _ | exact trivial | exact fun _ _ => rfl | exact fun _ _ => ⟨rfl, AvIs.refl _⟩ | refine ⟨?_, ?_⟩))))
    · simp only [AllP, impG, hgd]; simp
    · (repeat' (first | exact rfl | exact AvIs.refl _ | exact trivial | exact fun _ _ => rfl | exact fun _ _ => ⟨rfl, AvIs.refl _⟩ | refine ⟨?_, ?_⟩))
    · (repeat' (first | exact rfl | exact AvIs.refl _ | exact trivial | exact fun _ _ => rfl | exact fun _ _ => ⟨rfl, AvIs.refl _⟩ | refine ⟨?_, ?_⟩))
    · subst hgd
      refine XD.goA hT rfl rfl rfl rfl ?_; refine XD.fin (by kernel_rfl) ?_; (repeat (first | refine XK.norm rfl rfl ?_ | refine XK.rgnA hT rfl rfl rfl ?_ | refine XK.rgnB hT hm rfl rfl rfl ?_))
      (repeat (first | refine XK.norm rfl rfl ?_ | refine XK.rgnA hT rfl rfl rfl ?_ | refine XK.rgnB hT hm rfl rfl rfl ?_)); refine XK.cond rfl (fun hb => ?_) (fun hb => ?_)
      · cases hb
      · (repeat (first | refine XK.norm rfl rfl ?_ | refine XK.rgnA hT rfl rfl rfl ?_ | refine XK.rgnB hT hm rfl rfl rfl ?_))
        exact XK.inv ⟨i + 1, hlt, (Weak.of hN rfl rfl rfl (by (repeat' (first | exact rfl | exact AvIs.refl _ | exact trivial | exact fun _ _ => rfl | exact fun _ _ => ⟨rfl, AvIs.refl _⟩ | refine ⟨?_, ?_⟩))) (by (repeat' (first | exact rfl | exact AvIs.refl _ | exact trivial | exact fun _ _ => rfl | exact fun _ _ => ⟨rfl, AvIs.refl _⟩ | refine ⟨?_, ?_⟩)))), by omega⟩
  · have hie : i = l.length := by omega
    subst hie
    (repeat (first | refine XK.norm rfl rfl ?_ | refine XK.rgnA hT rfl rfl rfl ?_ | refine XK.rgnB hT hm rfl rfl rfl ?_))
    (first | refine XK.outR [0, 1, 2, 3, 4, 5, 6] hN rfl rfl rfl ?_ rfl rfl ?_ | refine XK.outRN [0, 1, 2, 3, 4, 5, 6] hN rfl rfl rfl ?_ rfl rfl ?_)
    · (repeat' (first | exact rfl | exact AvIs.refl _ | exact trivial | exact fun _ _ => rfl | exact fun _ _ => ⟨rfl, AvIs.refl _⟩ | refine ⟨?_, ?_⟩))
    · (repeat' (first | exact rfl | exact AvIs.refl _ | exact trivial | exact fun _ _ => rfl | exact fun _ _ => ⟨rfl, AvIs.refl _⟩ | refine ⟨?_, ?_⟩))
noncomputable def appD (s : DyS) (a : Am) : DyS := if (applyR s.now a.patch).2 = 0 then ⟨s.before, (applyR s.now a.patch).1, s.days, s.day⟩ else s
noncomputable def stepD (s : DyS) (a : Am) : DyS := appD (if a.day ≠ s.day then ⟨(finD s).before, (finD s).now, (finD s).days, a.day⟩ else s) a
noncomputable def stD (l : List Am) (k : K) (known : Int) : Nat → DyS
  | 0 => ⟨k, k, [], 0⟩
  | i + 1 => if known < (amAt l i).known then stD l k known i else stepD (stD l k known i) (amAt l i)
noncomputable def daysR (k : K) (l : List Am) (known : Int) : List Int × Int := if checkV k l ≠ 0 then ([], checkV k l) else ((finD (stD l k known l.length)).days, 0)
structure DyW (n : Nat) (s : DyS) : Prop where
  b : kW s.before ∧ (kValid s.before).1 = 0
  o : kW s.now ∧ (kValid s.now).1 = 0
  d : s.days.length ≤ n
theorem finD_W {n : Nat} {s : DyS} (h : DyW n s) : DyW (n + 1) (finD s) := by
  refine ⟨h.o, h.o, ?_⟩
  have := h.d
  unfold finD
  dsimp only
  split
  · omega
  · simp; omega
theorem stepD_W {n : Nat} {s : DyS} (h : DyW n s) {a : Am} (ha : amOk a) : DyW (n + 1) (stepD s a) := by
  unfold stepD
  have h1 : DyW (n + 1) (if a.day ≠ s.day then ⟨(finD s).before, (finD s).now, (finD s).days, a.day⟩ else s) := by
    split
    · have := finD_W h; exact ⟨this.b, this.o, this.d⟩
    · exact ⟨h.b, h.o, by have := h.d; omega⟩
  generalize (if a.day ≠ s.day then (⟨(finD s).before, (finD s).now, (finD s).days, a.day⟩ : DyS) else s) = s1 at h1
  unfold appD
  split
  · rename_i h0
    refine ⟨h1.b, ⟨applyR_W h1.o.1 ha.1.2.2.2, ?_⟩, h1.d⟩
    rcases applyR_cases s1.now a.patch with ⟨h2, _⟩ | ⟨_, _, _, h2, _⟩
    · exact absurd h0 h2
    · exact h2
  · exact h1
theorem stD_W {l : List Am} (hl : amsOk l) {k : K} (hk : kW k) (hv : (kValid k).1 = 0) {known : Int} : ∀ i, i ≤ l.length → DyW i (stD l k known i)
  | 0, _ => ⟨⟨hk, hv⟩, ⟨hk, hv⟩, Nat.le_refl _⟩
  | i + 1, hi => by
    have ih := stD_W hl hk hv (known := known) i (by omega)
    rw [stD]
    split
    · exact ⟨ih.b, ih.o, by have := ih.d; omega⟩
    · exact stepD_W ih (hl _ (amAt_mem (by omega)))
theorem bounds_of {k : K} (h : kW k ∧ (kValid k).1 = 0) : k.clauses.length ≤ 400 ∧ ∀ i, i < k.clauses.length → (k.clauses.getD i default).start.length ≤ 8 := by
  have hF := (show kOk k from h).facts
  exact ⟨hF.nc, fun i hi => (hF.clB hi).2.2.2.1⟩
theorem AvIs_eq {x y : AV} (h : x = y) : AvIs x y := h ▸ AvIs.refl x
theorem days_ok (k : K) (hk : kW k) (l : List Am) (hl : amsOk l) (known : Int) : Does Try.prog 13 [kV k, amsV l, .c (.int .i64 known)] (.tup [intsV (daysR k l known).1, .c (.int .i64 (daysR k l known).2)]) := by
  refine Does.mk (fun _ => false) TT_ok Try.func13 rfl (by kernel_rfl) Try.ntmps13 rfl rfl fun E hT hE hN hR => ?_
  have hm : E.P.follows .mixedOrders = true := by rw [hE]; kernel_rfl
  (repeat (first | refine XK.norm rfl rfl ?_ | refine XK.rgnA hT rfl rfl rfl ?_ | refine XK.rgnB hT hm rfl rfl rfl ?_)); refine XK.region ?_; refine XL.goA hT rfl rfl rfl rfl ?_
  refine XL.callLA hE rfl rfl rfl rfl trivial rfl (checkV_ok k hk l) rfl ?_
  refine XL.goA hT rfl rfl rfl rfl ?_; refine XL.fin ?_; (repeat (first | refine XK.norm rfl rfl ?_ | refine XK.rgnA hT rfl rfl rfl ?_ | refine XK.rgnB hT hm rfl rfl rfl ?_))
  (repeat (first | refine XK.norm rfl rfl ?_ | refine XK.rgnA hT rfl rfl rfl ?_ | refine XK.rgnB hT hm rfl rfl rfl ?_)); refine XK.cond rfl (fun h1 => ?_) (fun h1 => ?_) <;> (try simp at h1)
  · (repeat (first | refine XK.norm rfl rfl ?_ | refine XK.rgnA hT rfl rfl rfl ?_ | refine XK.rgnB hT hm rfl rfl rfl ?_))
    (first | refine XK.outL rfl rfl rfl ?_ | refine XK.outLN rfl rfl rfl ?_)
    rw [daysR, if_pos h1]
    exact ⟨⟨rfl, rfl⟩, rfl⟩
  have hv : (kValid k).1 = 0 := by
    by_cases h : (kValid k).1 = 0
    · exact h
    · rw [checkV, if_pos h] at h1; cases h1
  have hll : l.length ≤ 60 := by
    by_cases h : 60 < l.length
    · rw [checkV, if_neg (by simpa using hv), if_pos h] at h1; cases h1
    · omega
  rw [daysR, if_neg (by rw [h1]; simp)]
  (repeat (first | refine XK.norm rfl rfl ?_ | refine XK.rgnA hT rfl rfl rfl ?_ | refine XK.rgnB hT hm rfl rfl rfl ?_))
  (repeat (first | refine XK.norm rfl rfl ?_ | refine XK.rgnA hT rfl rfl rfl ?_ | refine XK.rgnB hT hm rfl rfl rfl ?_)); refine XK.region ?_; refine XL.goA hT rfl rfl rfl rfl ?_
  refine XL.callKA hE rfl rfl rfl rfl trivial rfl rfl (counting_ok l known) ?_
  refine XL.goA hT rfl rfl rfl rfl ?_; refine XL.fin ?_; (repeat (first | refine XK.norm rfl rfl ?_ | refine XK.rgnA hT rfl rfl rfl ?_ | refine XK.rgnB hT hm rfl rfl rfl ?_))
  generalize hsE : stD l k known l.length = sE
  have hsE : sE = stD l k known l.length := hsE.symm
  have hsW : DyW l.length sE := by rw [hsE]; exact stD_W hl hk hv _ (Nat.le_refl _)
  refine XK.weak (Weak.trans (Weak.ghostC (c := 162) (k := 163) (e := 3) (sz := 1) (f := fun _ => []) rfl rfl rfl)
    (Weak.of (L := [(9, .ptr 162 0), (10, .ptr 214 0), (11, .ptr 215 0), (12, .ptr 216 0), (13, .ptr 268 0), (28, (.fn (.func 45) [] [.rptr [amsV l], .rptr [.c (.int .i64 known)]]))])
      (O := [(215, .cells 41 (kC k)), (216, .cells 41 (kC k)), (162, .cells 24 [.vec 163 0]), (163, numsO []), (214, .cells 3 [.c (.int .i64 0)]), (268, .cells 1 [.fn (.func 28) [] [.ptr 215 0, .ptr 216 0, .ptr 162 0, .ptr 214 0]])]) (nx := 2000) (nt := 51) (md := fun _ => false) hN rfl rfl rfl (by (repeat' (first | exact rfl | exact AvIs.refl _ | exact trivial | exact fun _ _ => rfl | exact fun _ _ => ⟨rfl, AvIs.refl _⟩ | refine ⟨?_, ?_⟩))) (by (repeat' (first | exact rfl | exact AvIs.refl _ | exact trivial | exact fun _ _ => rfl | exact fun _ _ => ⟨rfl, AvIs.refl _⟩ | exact cI (by omega) | exact (fun i hi => absurd hi (Nat.not_lt_zero _)) | refine ⟨?_, ?_⟩))))) ?_
  refine XK.rangeFunc 900 [215, 216, 162, 163, 214, 268] (frL 51 [(9, .ptr 162 0), (10, .ptr 214 0), (11, .ptr 215 0), (12, .ptr 216 0), (13, .ptr 268 0)])
    (ST.of [(9, .ptr 162 0), (13, .ptr 268 0)] [(215, .cells 41 (kC sE.before)), (216, .cells 41 (kC sE.now)), (162, .cells 24 [.vec 163 (2 * sE.days.length)]), (163, numsO sE.days), (214, .cells 3 [.c (.int .i64 sE.day)]), (268, .cells 1 [.fn (.func 28) [] [.ptr 215 0, .ptr 216 0, .ptr 162 0, .ptr 214 0]])] 3000 51 (fun _ => false))
    (res := .tup []) (args' := [.rptr [amsV l], .rptr [.c (.int .i64 known)]]) (s := .ready) (pend := none) (O' := dyO sE) (O := dyO ⟨k, k, [], 0⟩) hR rfl trivial rfl (frL_length _ _) (frL_is (by (repeat' (first | exact rfl | exact AvIs.refl _ | exact trivial | exact fun _ _ => rfl | exact fun _ _ => ⟨rfl, AvIs.refl _⟩ | refine ⟨?_, ?_⟩)))) (fun L D fn => ?_) rfl (by (repeat' (first | exact rfl | exact AvIs.refl _ | exact trivial | exact fun _ _ => rfl | exact fun _ _ => ⟨rfl, AvIs.refl _⟩ | refine ⟨?_, ?_⟩))) rfl rfl (by (repeat' (first | exact rfl | exact AvIs.refl _ | exact trivial | exact fun _ _ => rfl | exact fun _ _ => ⟨rfl, AvIs.refl _⟩ | refine ⟨?_, ?_⟩))) rfl rfl (by simp) (fun L D fn cs => (Weak.of hN rfl rfl rfl (by (repeat' (first | exact rfl | exact AvIs.refl _ | exact trivial | exact fun _ _ => rfl | exact fun _ _ => ⟨rfl, AvIs.refl _⟩ | refine ⟨?_, ?_⟩))) (by (repeat' (first | exact rfl | exact AvIs.refl _ | exact trivial | exact fun _ _ => rfl | exact fun _ _ => ⟨rfl, AvIs.refl _⟩ | refine ⟨?_, ?_⟩))))) ?_
  · rw [hsE, hE]
    refine countD_ok l known (by omega) L L (recOf fn _ _ _ D .ready none) (stD l k known) (fun i hi h => ?_) (fun i hi hkn => ?_)
    · rw [stD, if_pos h]
    have hst : stD l k known (i + 1) = stepD (stD l k known i) (amAt l i) := by
      rw [stD, if_neg (by omega)]
    have hW := stD_W hl hk hv (known := known) i (by omega)
    have hao := hl _ (amAt_mem hi)
    rw [hst]
    generalize stD l k known i = s at *
    generalize amAt l i = a at *
    clear hsE hst
    have hfW := finD_W hW
    obtain ⟨before, now, days, day⟩ := s
    refine DoesR.mkT TT_ok (fun _ => false) 100 (ST.of [(9, .ptr 3 0), (10, .ptr 5 0), (11, .ptr 1 0), (12, .ptr 2 0), (13, .ptr 6 0), (14, .ptr 114 0)]
      ((0, .lrec (recOf fn _ _ _ D .ready none) L csD) :: dyN ⟨before, now, days, day⟩ ++ [(114, .cells 35 (amC a))]) 1000 51 (fun _ => false)) rfl ?_ (Nat.le_refl 6) (fun E hT hE hN hR => ?_) rfl (fun E hT hE hN hR => ?_)
    · intro x hx
      simp only [List.mem_toArray, List.mem_singleton] at hx
      subst hx
      show 29 < (frL 51 _).length
      rw [frL_length]
      omega
    · have hm : E.P.follows .mixedOrders = true := by rw [hE]; kernel_rfl
      (repeat (first | refine XK.norm rfl rfl ?_ | refine XK.rgnA hT rfl rfl rfl ?_ | refine XK.rgnB hT hm rfl rfl rfl ?_))
      exact XK.nil ⟨rfl, (Weak.of hN rfl rfl rfl (by (repeat' (first | exact rfl | exact AvIs.refl _ | exact trivial | exact fun _ _ => rfl | exact fun _ _ => ⟨rfl, AvIs.refl _⟩ | refine ⟨?_, ?_⟩))) (by (repeat' (first | exact rfl | exact AvIs.refl _ | exact trivial | exact fun _ _ => rfl | exact fun _ _ => ⟨rfl, AvIs.refl _⟩ | refine ⟨?_, ?_⟩))))⟩
    · have hm : E.P.follows .mixedOrders = true := by rw [hE]; kernel_rfl
      (repeat (first | refine XK.norm rfl rfl ?_ | refine XK.rgnA hT rfl rfl rfl ?_ | refine XK.rgnB hT hm rfl rfl rfl ?_)); refine XK.cond rfl (fun h6 => ?_) (fun h6 => ?_)
      · have h6 : a.day ≠ day := by simpa using h6
        have hb := bounds_of hW.b
        have hb1 : before.clauses.length ≤ 400 := hb.1
        have hb2 : days.length ≤ i := hW.d
        have hfin := fin_ok ⟨before, now, days, day⟩ (by show days.length ≤ _; omega) (by show before.clauses.length ≤ _; omega) (fun i hi => Nat.le_trans (hb.2 i hi) (by decide))
        have hsd : stepD ⟨before, now, days, day⟩ a = appD ⟨(finD ⟨before, now, days, day⟩).before, (finD ⟨before, now, days, day⟩).now, (finD ⟨before, now, days, day⟩).days, a.day⟩ a := by
          unfold stepD
          rw [if_pos h6]
        rw [hsd]
        generalize finD ⟨before, now, days, day⟩ = f at *
        clear hb hb1 hb2 hsd
        obtain ⟨before, now, days, day⟩ := f
        (repeat (first | refine XK.norm rfl rfl ?_ | refine XK.rgnA hT rfl rfl rfl ?_ | refine XK.rgnB hT hm rfl rfl rfl ?_)); refine XK.region ?_; refine XL.goA hT rfl rfl rfl rfl ?_
        refine XL.callMA [1, 2, 3, 4, 5] hE rfl rfl rfl rfl trivial (hfin) rfl rfl rfl rfl rfl ?_
        refine XL.goA hT rfl rfl rfl rfl ?_; refine XL.fin ?_; (repeat (first | refine XK.norm rfl rfl ?_ | refine XK.rgnA hT rfl rfl rfl ?_ | refine XK.rgnB hT hm rfl rfl rfl ?_))
        have ap := apply_ok now hfW.o.1 a.patch hao.1.2.2.2 hao.2.1 hao.2.2
        have hsa : appD ⟨before, now, days, a.day⟩ a = if (applyR now a.patch).2 = 0 then ⟨before, (applyR now a.patch).1, days, a.day⟩ else ⟨before, now, days, a.day⟩ := rfl
        rw [hsa]
        generalize applyR now a.patch = r at *
        (repeat (first | refine XK.norm rfl rfl ?_ | refine XK.rgnA hT rfl rfl rfl ?_ | refine XK.rgnB hT hm rfl rfl rfl ?_)); refine XK.region ?_; refine XL.goA hT rfl rfl rfl rfl ?_
        refine XL.callKA hE rfl rfl rfl rfl trivial rfl rfl (ap) ?_
        refine XL.goA hT rfl rfl rfl rfl ?_; refine XL.fin ?_; (repeat (first | refine XK.norm rfl rfl ?_ | refine XK.rgnA hT rfl rfl rfl ?_ | refine XK.rgnB hT hm rfl rfl rfl ?_))
        (repeat (first | refine XK.norm rfl rfl ?_ | refine XK.rgnA hT rfl rfl rfl ?_ | refine XK.rgnB hT hm rfl rfl rfl ?_)); refine XK.cond rfl (fun h7 => ?_) (fun h7 => ?_) <;> (try simp at h7)
        · rw [if_pos h7]
          (repeat (first | refine XK.norm rfl rfl ?_ | refine XK.rgnA hT rfl rfl rfl ?_ | refine XK.rgnB hT hm rfl rfl rfl ?_))
          (first | refine XK.outY [0, 1, 2, 3, 4, 5, 6] hN rfl rfl rfl ?_ ?_ ?_ | refine XK.outYN [0, 1, 2, 3, 4, 5, 6] hN rfl rfl rfl ?_ ?_ ?_)
          · (repeat' (first | exact rfl | exact AvIs.refl _ | exact trivial | exact fun _ _ => rfl | exact fun _ _ => ⟨rfl, AvIs.refl _⟩ | refine ⟨?_, ?_⟩))
          · rfl
          · rfl
        · rw [if_neg h7]
          (repeat (first | refine XK.norm rfl rfl ?_ | refine XK.rgnA hT rfl rfl rfl ?_ | refine XK.rgnB hT hm rfl rfl rfl ?_))
          (first | refine XK.outY [0, 1, 2, 3, 4, 5, 6] hN rfl rfl rfl ?_ ?_ ?_ | refine XK.outYN [0, 1, 2, 3, 4, 5, 6] hN rfl rfl rfl ?_ ?_ ?_)
          · (repeat' (first | exact rfl | exact AvIs.refl _ | exact trivial | exact fun _ _ => rfl | exact fun _ _ => ⟨rfl, AvIs.refl _⟩ | refine ⟨?_, ?_⟩))
          · rfl
          · rfl
      · have h6 : ¬ a.day ≠ day := by simpa using h6
        have hsd : stepD ⟨before, now, days, day⟩ a = appD ⟨before, now, days, day⟩ a := by
          unfold stepD
          rw [if_neg h6]
        rw [hsd]
        (repeat (first | refine XK.norm rfl rfl ?_ | refine XK.rgnA hT rfl rfl rfl ?_ | refine XK.rgnB hT hm rfl rfl rfl ?_))
        have ap := apply_ok now hW.o.1 a.patch hao.1.2.2.2 hao.2.1 hao.2.2
        have hsa : appD ⟨before, now, days, day⟩ a = if (applyR now a.patch).2 = 0 then ⟨before, (applyR now a.patch).1, days, day⟩ else ⟨before, now, days, day⟩ := rfl
        rw [hsa]
        generalize applyR now a.patch = r at *
        (repeat (first | refine XK.norm rfl rfl ?_ | refine XK.rgnA hT rfl rfl rfl ?_ | refine XK.rgnB hT hm rfl rfl rfl ?_)); refine XK.region ?_; refine XL.goA hT rfl rfl rfl rfl ?_
        refine XL.callKA hE rfl rfl rfl rfl trivial rfl rfl (ap) ?_
        refine XL.goA hT rfl rfl rfl rfl ?_; refine XL.fin ?_; (repeat (first | refine XK.norm rfl rfl ?_ | refine XK.rgnA hT rfl rfl rfl ?_ | refine XK.rgnB hT hm rfl rfl rfl ?_))
        (repeat (first | refine XK.norm rfl rfl ?_ | refine XK.rgnA hT rfl rfl rfl ?_ | refine XK.rgnB hT hm rfl rfl rfl ?_)); refine XK.cond rfl (fun h7 => ?_) (fun h7 => ?_) <;> (try simp at h7)
        · rw [if_pos h7]
          (repeat (first | refine XK.norm rfl rfl ?_ | refine XK.rgnA hT rfl rfl rfl ?_ | refine XK.rgnB hT hm rfl rfl rfl ?_))
          (first | refine XK.outY [0, 1, 2, 3, 4, 5, 6] hN rfl rfl rfl ?_ ?_ ?_ | refine XK.outYN [0, 1, 2, 3, 4, 5, 6] hN rfl rfl rfl ?_ ?_ ?_)
          · (repeat' (first | exact rfl | exact AvIs.refl _ | exact trivial | exact fun _ _ => rfl | exact fun _ _ => ⟨rfl, AvIs.refl _⟩ | refine ⟨?_, ?_⟩))
          · rfl
          · rfl
        · rw [if_neg h7]
          (repeat (first | refine XK.norm rfl rfl ?_ | refine XK.rgnA hT rfl rfl rfl ?_ | refine XK.rgnB hT hm rfl rfl rfl ?_))
          (first | refine XK.outY [0, 1, 2, 3, 4, 5, 6] hN rfl rfl rfl ?_ ?_ ?_ | refine XK.outYN [0, 1, 2, 3, 4, 5, 6] hN rfl rfl rfl ?_ ?_ ?_)
          · (repeat' (first | exact rfl | exact AvIs.refl _ | exact trivial | exact fun _ _ => rfl | exact fun _ _ => ⟨rfl, AvIs.refl _⟩ | refine ⟨?_, ?_⟩))
          · rfl
          · rfl
  · have hb := bounds_of hsW.b
    have hb1 := hb.1
    have hb2 := hsW.d
    have hfin := fin_ok sE (by omega) (by omega) (fun i hi => Nat.le_trans (hb.2 i hi) (by decide))
    generalize finD sE = f at *
    (repeat (first | refine XK.norm rfl rfl ?_ | refine XK.rgnA hT rfl rfl rfl ?_ | refine XK.rgnB hT hm rfl rfl rfl ?_)); refine XK.region ?_; refine XL.goA hT rfl rfl rfl rfl ?_
    refine XL.callMA [215, 216, 162, 163, 214] hE rfl rfl rfl rfl trivial (hfin) rfl rfl rfl rfl rfl ?_
    refine XL.goA hT rfl rfl rfl rfl ?_; refine XL.fin ?_; (repeat (first | refine XK.norm rfl rfl ?_ | refine XK.rgnA hT rfl rfl rfl ?_ | refine XK.rgnB hT hm rfl rfl rfl ?_))
    refine XK.weak (Weak.trans (Weak.stamp (k := 163) (t := 0) hN rfl rfl) (Weak.trans (Weak.of (L := [(6, .vec 163 0), (7, .c (.int .i64 0))])
      (O := [(163, .vec 3 1 0 f.days.length (fun i => [.c (.int .i64 (f.days.getD i default))]))]) (nx := 4000) (nt := 51) (md := fun _ => false) hN rfl rfl rfl ⟨AvIs_eq (stampG_self 163 (2 * f.days.length) 0), rfl⟩ (by (repeat' (first | exact rfl | exact AvIs.refl _ | exact trivial | exact fun _ _ => rfl | exact fun _ _ => ⟨rfl, AvIs.refl _⟩ | refine ⟨?_, ?_⟩)))) (Weak.frozen (k := 163) hN rfl rfl))) ?_
    (first | refine XK.out rfl rfl rfl ?_ | refine XK.outN rfl rfl rfl ?_)
    rfl
end Go.Proofs.Ytofdehlikigonaa
end
