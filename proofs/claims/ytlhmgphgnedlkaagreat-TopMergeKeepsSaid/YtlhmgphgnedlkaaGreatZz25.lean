import Derived.Test.YtlhmgphgnedlkaaGreatZz13
import Derived.Test.YtlhmgphgnedlkaaGreatZz24
section
/- Contracts: package trace: act. -/
namespace Go.Proofs.YtlhmgphgnedlkaaGreat
open Go.Eng
set_option maxRecDepth 10000
def runsB (o : Oc) : Bool := decide (0 ≤ o.from_) && decide (o.to < 0)
def actOne (x : Cl) (s : Int) (takes : Bool) (doer steps : Int) (o : Oc) (paused : Bool) : Oc × Bool × Bool :=
  if runsB o = true then
    let q := if (takes && x.act == s) = true then countOne x steps doer paused o else (o, false)
    (q.1, if x.resume = s then false else if x.pause = s then true else paused, q.2)
  else (o, paused, false)
def takesB (k : K) (r : Rd) (s : Nat) : Bool := (acAt k s).kind == 1 || !r.hap s
def doerOf (k : K) (r : Rd) (s : Nat) : Int := if (acAt k s).role = -1 then -1 else r.hold (acAt k s).role.toNat
def actAt1 (k : K) (r : Rd) (s j : Nat) : Oc × Bool × Bool := actOne (clAt k j) s (takesB k r s) (doerOf k r s) r.steps (r.out j) (r.cnt j).2
def endedA (k : K) (r : Rd) (s n : Nat) : List Int := ((List.range n).filter (fun j => (actAt1 k r s j).2.2)).map (fun j : Nat => (j : Int))
def actTo (k : K) (r : Rd) (s n : Nat) : Rd :=
  { r with hap := fun j => if j = s then true else r.hap j, cnt := fun j => if j < n then ((r.cnt j).1, (actAt1 k r s j).2.1) else r.cnt j, out := fun j => if j < n then (actAt1 k r s j).1 else r.out j }
def novTo (k : K) (a : Act) (r : Rd) (n : Nat) : Rd :=
  { r with out := fun j => if j < n then (if a.kind = 3 ∧ runsB (r.out j) = true ∧ (clAt k j).kind ≠ 4 ∧ (clAt k j).role = a.give then { r.out j with bearer := a.to } else r.out j) else r.out j }
def actR (k : K) (r : Rd) (s : Nat) : Rd :=
  let r1 := actTo k r s k.clauses.length
  if takesB k r s = false ∨ (acAt k s).kind = 1 then r1
  else novTo k (acAt k s) { r1 with hold := fun j => if j = (acAt k s).give.toNat then (acAt k s).to else r1.hold j } k.clauses.length
def intsO (L : List Int) : Ob := .vec 3 1 0 L.length (fun i => [.c (.int .i64 (L.getD i default))])
theorem ints_app (L : List Int) (x : Int) (h : Nat → List AV) (hx : h 0 = [.c (.int .i64 x)]) : ∀ j, j < L.length + 1 → [AV.c (.int .i64 ((L ++ [x]).getD j default))] = catF L.length (fun i => [AV.c (.int .i64 (L.getD i default))]) h j := by
  intro j hj
  unfold catF
  by_cases h1 : j < L.length
  · have : Nat.blt j L.length = true := by simpa using h1
    rw [this, cond_true]
    simp [List.getD, List.getElem?_append_left h1]
  · have : Nat.blt j L.length = false := by
      cases hb : Nat.blt j L.length with
      | false => rfl
      | true => simp at hb; exact absurd hb h1
    have e : j = L.length := by omega
    rw [this, cond_false, e, Nat.sub_self, hx]
    simp [List.getD]
theorem act_give {k : K} {a : Act} (h : actB k a = true) (hk : a.kind ≠ 1) : (0 ≤ a.give ∧ a.give < k.holders.length) ∧ (0 ≤ a.to ∧ a.to < k.parties) ∧ (a.kind = 2 ∨ a.kind = 3) := by
  unfold actB at h
  split at h
  · simp [hk] at h
  · split at h
    · rename_i h3
      simp [movB] at h
      omega
    · cases h
theorem act_ok (k : K) (hk : KFacts k) (r : Rd) (s : Nat) (hs : s < k.acts.length) (hg : ∀ j, j < k.clauses.length → 0 ≤ (r.out j).got ∧ (r.out j).got ≤ 1000000) :
    DoesM Tryz.prog 155 [.ptr 0 0, .c (.int .i64 s)] (rdOs k r) (.vec 6 0) (rdOs k (actR k r s) ++ [intsO (endedA k r s k.clauses.length)]) := by
  refine DoesM.mk (fun _ => false) 100 TT_ok Tryz.func155 rfl (by kernel_rfl) Tryz.ntmps155 rfl rfl rfl fun E hT hE hN hR => ?_
  have hm := mixO hE
  have ha := hk.acW hs
  have hb := hk.act s hs
  have fa : k.acts.getD (s : Int).toNat default = acAt k s := rfl
  have hrole : (acAt k s).role ≠ -1 → 0 ≤ (acAt k s).role ∧ (acAt k s).role < k.holders.length := by
    intro h
    have hb := hb
    unfold actB at hb
    split at hb
    · simp at hb; omega
    · rename_i h2; simpa [movB] using h2
  have hrow : ∀ j, j < k.acts.length → [AV.c (.bool (if j = s then true else r.hap j))] = setRowF (fun i => [AV.c (.bool (r.hap i))]) (s : Int).toNat 0 [AV.c (.bool true)] j := by
    intro j hj
    by_cases hji : j = s
    · subst hji; simp [setRowF, setL]
    · simp [setRowF, beq_false hji, hji]
  (repeat (first | refine XK.n ?_ | refine XK.a ?_ | refine XK.b ?_)); refine XK.join (ST.of [(0, .ptr 0 0), (1, .c (.int .i64 s)), (4, .c (.slice none 0 0)), (5, .ptr 270 0), (6, .c (.bool (takesB k r s))), (7, .c (.int .i64 (doerOf k r s)))] ((270, .cells 102 (actC (acAt k s))) :: rdN k (actTo k r s 0)) 2000 165 (fun _ => false)) rfl (fun h1 => ?_) (fun h1 => ?_) ?_
  · rw [fa] at h1
    have h1 : (acAt k s).role ≠ -1 := by simpa using h1
    have h2 := hrole h1
    rw [fa]
    (repeat (first | refine XK.n ?_ | refine XK.a ?_ | refine XK.b ?_))
    refine XK.inv (Weak.of hN rfl rfl rfl ⟨rfl, rfl, rfl, rfl, rfl, cI ?_⟩ (by (repeat' (first | exact rfl | exact AvIs.refl _ | exact trivial | exact fun _ _ => rfl | exact fun _ _ => ⟨rfl, AvIs.refl _⟩ | exact fun _ hi => absurd hi (Nat.not_lt_zero _) | (intro i hi; cases Nat.lt_one_iff.1 hi; rfl) | (intro j hj; by_cases hji : j = (s); (· subst hji; simp [setRowF, setL, Rd.upOut, Rd.upCnt, actTo]; done); (· simp [setRowF, beq_false hji, Rd.upOut, Rd.upCnt, actTo, hji, lt_succ_ne hji]; done)) | refine ⟨?_, ?_⟩))))
    rw [doerOf, if_neg h1]
  · rw [fa] at h1
    have h1 : (acAt k s).role = -1 := by simpa using h1
    (repeat (first | refine XK.n ?_ | refine XK.a ?_ | refine XK.b ?_))
    refine XK.inv (Weak.of hN rfl rfl rfl ⟨rfl, rfl, rfl, rfl, rfl, cI ?_⟩ (by (repeat' (first | exact rfl | exact AvIs.refl _ | exact trivial | exact fun _ _ => rfl | exact fun _ _ => ⟨rfl, AvIs.refl _⟩ | exact fun _ hi => absurd hi (Nat.not_lt_zero _) | (intro i hi; cases Nat.lt_one_iff.1 hi; rfl) | (intro j hj; by_cases hji : j = (s); (· subst hji; simp [setRowF, setL, Rd.upOut, Rd.upCnt, actTo]; done); (· simp [setRowF, beq_false hji, Rd.upOut, Rd.upCnt, actTo, hji, lt_succ_ne hji]; done)) | refine ⟨?_, ?_⟩))))
    rw [doerOf, if_pos h1]
  (repeat (first | refine XK.n ?_ | refine XK.a ?_ | refine XK.b ?_))
  refine XK.loop (ι := Nat) (fun i => ST.of [(0, .ptr 0 0), (1, .c (.int .i64 s)), (5, .ptr 270 0), (6, .c (.bool (takesB k r s))), (7, .c (.int .i64 (doerOf k r s))), (8, .vec 999 0), (55, clsV k.clauses), (56, .c (.int .i64 k.clauses.length)), (57, .c (.int .i64 i))] ((999, intsO (endedA k r s i)) :: (270, .cells 102 (actC (acAt k s))) :: rdN k (actTo k r s i)) 2000 165 (fun _ => false))
    (fun i => i ≤ k.clauses.length) (fun i => k.clauses.length - i) 0 (Nat.zero_le _)
    (Weak.trans (Weak.ghost (j := 8) (k := 999) (e := 3) (sz := 1) (f := fun _ => []) rfl rfl) (Weak.of hN rfl rfl rfl frI (by (repeat' (first | exact rfl | exact AvIs.refl _ | exact trivial | exact fun _ _ => rfl | exact fun _ _ => ⟨rfl, AvIs.refl _⟩ | exact fun _ hi => absurd hi (Nat.not_lt_zero _) | (intro i hi; cases Nat.lt_one_iff.1 hi; rfl) | (intro j hj; by_cases hji : j = (s); (· subst hji; simp [setRowF, setL, Rd.upOut, Rd.upCnt, endedA]; done); (· simp [setRowF, beq_false hji, Rd.upOut, Rd.upCnt, endedA, hji, lt_succ_ne hji]; done)) | refine ⟨?_, ?_⟩))))) fun i hi => ?_
  have hnc := hk.nc
  (repeat (first | refine XK.n ?_ | refine XK.a ?_ | refine XK.b ?_)); refine XK.cond rfl (fun hlt => ?_) (fun hlt => ?_)
  · have hlt : i < k.clauses.length := by simpa using hlt
    have f1 : (actTo k r s i).out i = r.out i := by simp [actTo]
    have f2 : (actTo k r s i).cnt i = r.cnt i := by simp [actTo]
    have fc : k.clauses.getD (i : Int).toNat default = clAt k i := rfl
    (repeat (first | refine XK.n ?_ | refine XK.a ?_ | refine XK.b ?_)); refine XK.region ?_; refine XL.g ?_
    rw [fc]
    refine XL.callMA [0, 1, 2, 3, 4, 5] hE rfl rfl rfl rfl trivial (runs_ok k (actTo k r s i) i hlt) rfl rfl rfl rfl rfl ?_
    refine XL.g ?_; refine XL.fin ?_; (repeat (first | refine XK.n ?_ | refine XK.a ?_ | refine XK.b ?_))
    (repeat (first | refine XK.n ?_ | refine XK.a ?_ | refine XK.b ?_)); refine XK.cond rfl (fun h2 => ?_) (fun h2 => ?_)
    · rw [f1] at h2
      have hone : actAt1 k r s i = (r.out i, (r.cnt i).2, false) := by
        have : runsB (r.out i) = false := by unfold runsB; simpa only [Bool.not_eq_true'] using h2
        simp [actAt1, actOne, this]
      have he : endedA k r s (i + 1) = endedA k r s i := by simp [endedA, List.range_succ, List.filter_append, hone]
      (repeat (first | refine XK.n ?_ | refine XK.a ?_ | refine XK.b ?_))
      refine XK.inv ⟨i + 1, hlt, Weak.of hN rfl rfl rfl frI (by rw [he]; (repeat' (first | exact rfl | exact AvIs.refl _ | exact trivial | exact fun _ _ => rfl | exact fun _ _ => ⟨rfl, AvIs.refl _⟩ | exact fun _ hi => absurd hi (Nat.not_lt_zero _) | (intro i hi; cases Nat.lt_one_iff.1 hi; rfl) | (intro j hj; by_cases hji : j = (i); (· subst hji; simp [setRowF, setL, Rd.upOut, Rd.upCnt, actTo, hone]; done); (· simp [setRowF, beq_false hji, Rd.upOut, Rd.upCnt, actTo, hone, hji, lt_succ_ne hji]; done)) | refine ⟨?_, ?_⟩))), by omega⟩
    · rw [f1] at h2
      have hone : actAt1 k r s i = ((if (takesB k r s && (clAt k i).act == s) = true then countOne (clAt k i) r.steps (doerOf k r s) (r.cnt i).2 (r.out i) else (r.out i, false)).1, if (clAt k i).resume = s then false else if (clAt k i).pause = s then true else (r.cnt i).2, (if (takesB k r s && (clAt k i).act == s) = true then countOne (clAt k i) r.steps (doerOf k r s) (r.cnt i).2 (r.out i) else (r.out i, false)).2) := by
        have : runsB (r.out i) = true := by unfold runsB; simpa only [Bool.not_eq_false'] using h2
        simp only [actAt1, actOne, this, if_true]
      generalize hq : (if (takesB k r s && (clAt k i).act == s) = true then countOne (clAt k i) r.steps (doerOf k r s) (r.cnt i).2 (r.out i) else (r.out i, false)) = q at hone
      (repeat (first | refine XK.n ?_ | refine XK.a ?_ | refine XK.b ?_)); refine XK.meet (ST.of [(0, .ptr 0 0), (1, .c (.int .i64 s)), (5, .ptr 270 0), (6, .c (.bool (takesB k r s))), (7, .c (.int .i64 (doerOf k r s))), (8, .vec 999 0), (9, .c (.int .i64 i)), (10, .ptr 2175 0), (55, clsV k.clauses), (56, .c (.int .i64 k.clauses.length)), (57, .c (.int .i64 i)), (78, .c (.bool q.2))]
        ((2175, .cells 48 (clC (clAt k i))) :: (999, intsO (endedA k r s i)) :: (270, .cells 102 (actC (acAt k s))) :: rdN k ((actTo k r s i).upOut i q.1)) 4000 165 (fun _ => false)) ?_ ?_
      · (repeat (first | refine XK.n ?_ | refine XK.a ?_ | refine XK.b ?_)); refine XK.region ?_; refine XL.g ?_
        refine XL.callMG [0, 1, 2, 3, 4, 5] (.c (.bool false)) hE rfl rfl rfl rfl rfl rfl (fun hgd => ?_) rfl (fun hgd => ?_) (fun hgd => counted_ok k hk (actTo k r s i) i (doerOf k r s) hlt (by rw [f1]; exact hg i hlt)) rfl ?_ rfl (fun hgd => ?_) rfl rfl rfl (fun hgd => ?_)
        · have hq' : q = (r.out i, false) := by rw [← hq, if_neg (by rw [hgd]; simp)]
          subst hq'
          refine XL.g ?_; refine XL.fin ?_; (repeat (first | refine XK.n ?_ | refine XK.a ?_ | refine XK.b ?_))
          refine XK.inv (Weak.of hN rfl rfl rfl ⟨rfl, rfl, rfl, rfl, rfl, rfl, rfl, rfl, AvIs.refl _, rfl, rfl, cB (by simp)⟩ (by (repeat' (first | exact rfl | exact AvIs.refl _ | exact trivial | exact fun _ _ => rfl | exact fun _ _ => ⟨rfl, AvIs.refl _⟩ | exact fun _ hi => absurd hi (Nat.not_lt_zero _) | (intro i hi; cases Nat.lt_one_iff.1 hi; rfl) | (intro j hj; by_cases hji : j = (i); (· subst hji; simp [setRowF, setL, Rd.upOut, Rd.upCnt, actTo]; done); (· simp [setRowF, beq_false hji, Rd.upOut, Rd.upCnt, actTo, hji, lt_succ_ne hji]; done)) | refine ⟨?_, ?_⟩))))
        · simp only [AllP, impG, hgd]; simp
        · (repeat' (first | exact rfl | exact AvIs.refl _ | exact trivial | exact fun _ _ => rfl | exact fun _ _ => ⟨rfl, AvIs.refl _⟩ | refine ⟨?_, ?_⟩))
        · (repeat' (first | exact rfl | exact AvIs.refl _ | exact trivial | exact fun _ _ => rfl | exact fun _ _ => ⟨rfl, AvIs.refl _⟩ | refine ⟨?_, ?_⟩))
        · have hq' : countOne (clAt k i) r.steps (doerOf k r s) (r.cnt i).2 (r.out i) = q := by rw [← hq, if_pos hgd]
          rw [f1, f2, show (actTo k r s i).steps = r.steps from rfl, hq']
          refine XL.g ?_; refine XL.fin ?_; (repeat (first | refine XK.n ?_ | refine XK.a ?_ | refine XK.b ?_))
          refine XK.inv (Weak.of hN rfl rfl rfl ⟨rfl, rfl, rfl, rfl, rfl, rfl, rfl, rfl, AvIs.refl _, rfl, rfl, cB (by simp [hgd])⟩ (by (repeat' (first | exact rfl | exact AvIs.refl _ | exact trivial | exact fun _ _ => rfl | exact fun _ _ => ⟨rfl, AvIs.refl _⟩ | exact fun _ hi => absurd hi (Nat.not_lt_zero _) | (intro i hi; cases Nat.lt_one_iff.1 hi; rfl) | (intro j hj; by_cases hji : j = (i); (· subst hji; simp [setRowF, setL, Rd.upOut, Rd.upCnt, actTo]; done); (· simp [setRowF, beq_false hji, Rd.upOut, Rd.upCnt, actTo, hji, lt_succ_ne hji]; done)) | refine ⟨?_, ?_⟩))))
      · have he : endedA k r s (i + 1) = endedA k r s i ++ (if q.2 = true then [(i : Int)] else []) := by
          cases hq2 : q.2 <;> simp [endedA, List.range_succ, List.filter_append, hone, hq2]
        have hel : (endedA k r s i).length ≤ i := by
          have := List.length_filter_le (fun j => (actAt1 k r s j).2.2) (List.range i)
          simpa [endedA] using this
        (repeat (first | refine XK.n ?_ | refine XK.a ?_ | refine XK.b ?_)); refine XK.join (ST.of [(0, .ptr 0 0), (1, .c (.int .i64 s)), (5, .ptr 270 0), (6, .c (.bool (takesB k r s))), (7, .c (.int .i64 (doerOf k r s))), (8, .vec 999 0), (9, .c (.int .i64 i)), (10, .ptr 2175 0), (55, clsV k.clauses), (56, .c (.int .i64 k.clauses.length)), (57, .c (.int .i64 i))] ((2175, .cells 48 (clC (clAt k i))) :: (999, intsO (endedA k r s (i + 1))) :: (270, .cells 102 (actC (acAt k s))) :: rdN k ((actTo k r s i).upOut i q.1)) 6000 165 (fun _ => false)) rfl (fun h3 => ?_) (fun h3 => ?_) ?_
        · rw [h3, if_pos rfl] at he
          (repeat (first | refine XK.n ?_ | refine XK.a ?_ | refine XK.b ?_))
          refine XK.inv (Weak.trans (Weak.stamp (k := 999) (t := 0) hN rfl rfl) (Weak.of hN rfl rfl rfl frI ?_))
          rw [he]
          exact ⟨frI, ⟨⟨rfl, rfl, rfl⟩, by simp, ints_app (endedA k r s i) i _ rfl⟩, frI⟩
        · rw [h3] at he
          simp at he
          rw [he]
          (repeat (first | refine XK.n ?_ | refine XK.a ?_ | refine XK.b ?_))
          exact XK.inv (Weak.of hN rfl rfl rfl frI frI)
        (repeat (first | refine XK.n ?_ | refine XK.a ?_ | refine XK.b ?_)); refine XK.join (ST.of [(0, .ptr 0 0), (1, .c (.int .i64 s)), (5, .ptr 270 0), (6, .c (.bool (takesB k r s))), (7, .c (.int .i64 (doerOf k r s))), (8, .vec 999 0), (9, .c (.int .i64 i)), (10, .ptr 2175 0), (55, clsV k.clauses), (56, .c (.int .i64 k.clauses.length)), (57, .c (.int .i64 i))] ((2175, .cells 48 (clC (clAt k i))) :: (999, intsO (endedA k r s (i + 1))) :: (270, .cells 102 (actC (acAt k s))) :: rdN k (((actTo k r s i).upOut i q.1).upCnt i ((r.cnt i).1, if (clAt k i).pause = s then true else (r.cnt i).2))) 6000 165 (fun _ => false)) rfl (fun h4 => ?_) (fun h4 => ?_) ?_
        · have h4' : (clAt k i).pause = s := by simpa using h4
          (repeat (first | refine XK.n ?_ | refine XK.a ?_ | refine XK.b ?_))
          exact XK.inv (Weak.of hN rfl rfl rfl frI (by (repeat' (first | exact rfl | exact AvIs.refl _ | exact trivial | exact fun _ _ => rfl | exact fun _ _ => ⟨rfl, AvIs.refl _⟩ | exact fun _ hi => absurd hi (Nat.not_lt_zero _) | (intro i hi; cases Nat.lt_one_iff.1 hi; rfl) | (intro j hj; by_cases hji : j = (i); (· subst hji; simp [setRowF, setL, Rd.upOut, Rd.upCnt, actTo, h4']; done); (· simp [setRowF, beq_false hji, Rd.upOut, Rd.upCnt, actTo, h4', hji, lt_succ_ne hji]; done)) | refine ⟨?_, ?_⟩))))
        · have h4' : (clAt k i).pause ≠ s := by simpa using h4
          (repeat (first | refine XK.n ?_ | refine XK.a ?_ | refine XK.b ?_))
          exact XK.inv (Weak.of hN rfl rfl rfl frI (by (repeat' (first | exact rfl | exact AvIs.refl _ | exact trivial | exact fun _ _ => rfl | exact fun _ _ => ⟨rfl, AvIs.refl _⟩ | exact fun _ hi => absurd hi (Nat.not_lt_zero _) | (intro i hi; cases Nat.lt_one_iff.1 hi; rfl) | (intro j hj; by_cases hji : j = (i); (· subst hji; simp [setRowF, setL, Rd.upOut, Rd.upCnt, actTo, h4']; done); (· simp [setRowF, beq_false hji, Rd.upOut, Rd.upCnt, actTo, h4', hji, lt_succ_ne hji]; done)) | refine ⟨?_, ?_⟩))))
        (repeat (first | refine XK.n ?_ | refine XK.a ?_ | refine XK.b ?_)); refine XK.cond rfl (fun h5 => ?_) (fun h5 => ?_)
        · have h5' : (clAt k i).resume = s := by simpa using h5
          rw [h5', if_pos rfl] at hone
          (repeat (first | refine XK.n ?_ | refine XK.a ?_ | refine XK.b ?_))
          exact XK.inv ⟨i + 1, hlt, Weak.of hN rfl rfl rfl frI (by (repeat' (first | exact rfl | exact AvIs.refl _ | exact trivial | exact fun _ _ => rfl | exact fun _ _ => ⟨rfl, AvIs.refl _⟩ | exact fun _ hi => absurd hi (Nat.not_lt_zero _) | (intro i hi; cases Nat.lt_one_iff.1 hi; rfl) | (intro j hj; by_cases hji : j = (i); (· subst hji; simp [setRowF, setL, Rd.upOut, Rd.upCnt, actTo, hone]; done); (· simp [setRowF, beq_false hji, Rd.upOut, Rd.upCnt, actTo, hone, hji, lt_succ_ne hji]; done)) | refine ⟨?_, ?_⟩))), by omega⟩
        · have h5' : (clAt k i).resume ≠ s := by simpa using h5
          rw [if_neg h5'] at hone
          (repeat (first | refine XK.n ?_ | refine XK.a ?_ | refine XK.b ?_))
          exact XK.inv ⟨i + 1, hlt, Weak.of hN rfl rfl rfl frI (by (repeat' (first | exact rfl | exact AvIs.refl _ | exact trivial | exact fun _ _ => rfl | exact fun _ _ => ⟨rfl, AvIs.refl _⟩ | exact fun _ hi => absurd hi (Nat.not_lt_zero _) | (intro i hi; cases Nat.lt_one_iff.1 hi; rfl) | (intro j hj; by_cases hji : j = (i); (· subst hji; simp [setRowF, setL, Rd.upOut, Rd.upCnt, actTo, hone]; done); (· simp [setRowF, beq_false hji, Rd.upOut, Rd.upCnt, actTo, hone, hji, lt_succ_ne hji]; done)) | refine ⟨?_, ?_⟩))), by omega⟩
  · have hlt : ¬ i < k.clauses.length := by simpa using hlt
    have hin : i = k.clauses.length := by omega
    subst hin
    (repeat (first | refine XK.n ?_ | refine XK.a ?_ | refine XK.b ?_)); refine XK.cond rfl (fun h6 => ?_) (fun h6 => ?_)
    · have hR : actR k r s = actTo k r s k.clauses.length := by
        unfold actR
        rw [if_pos (by simpa using h6)]
      rw [hR]
      (repeat (first | refine XK.n ?_ | refine XK.a ?_ | refine XK.b ?_))
      (first | refine XK.outR [0, 1, 2, 3, 4, 5, 999] hN rfl rfl rfl ?_ rfl rfl ?_ | refine XK.outRN [0, 1, 2, 3, 4, 5, 999] hN rfl rfl rfl ?_ rfl rfl ?_)
      · (repeat' (first | exact rfl | exact AvIs.refl _ | exact trivial | exact fun _ _ => rfl | exact fun _ _ => ⟨rfl, AvIs.refl _⟩ | refine ⟨?_, ?_⟩))
      · (repeat' (first | exact rfl | exact AvIs.refl _ | exact trivial | exact fun _ _ => rfl | exact fun _ _ => ⟨rfl, AvIs.refl _⟩ | refine ⟨?_, ?_⟩))
    · have h6' : takesB k r s = true ∧ (acAt k s).kind ≠ 1 := by simpa using h6
      have hR : actR k r s = novTo k (acAt k s) { actTo k r s k.clauses.length with hold := fun j => if j = (acAt k s).give.toNat then (acAt k s).to else r.hold j } k.clauses.length := by
        unfold actR
        rw [if_neg (by simp [h6'])]
        rfl
      rw [hR]
      have hgive := act_give hb h6'.2
      generalize hrH : ({ actTo k r s k.clauses.length with hold := fun j => if j = (acAt k s).give.toNat then (acAt k s).to else r.hold j } : Rd) = rH
      (repeat (first | refine XK.n ?_ | refine XK.a ?_ | refine XK.b ?_))
      refine XK.loop (ι := Nat) (fun i => ST.of [(0, .ptr 0 0), (5, .ptr 270 0), (8, .vec 999 0), (127, clsV k.clauses), (128, .c (.int .i64 k.clauses.length)), (129, .c (.int .i64 i))] ((999, intsO (endedA k r s k.clauses.length)) :: (270, .cells 102 (actC (acAt k s))) :: rdN k (novTo k (acAt k s) rH i)) 8000 165 (fun _ => false))
        (fun i => i ≤ k.clauses.length) (fun i => k.clauses.length - i) 0 (Nat.zero_le _)
        (Weak.of hN rfl rfl rfl frI (by subst hrH; (repeat' (first | exact rfl | exact AvIs.refl _ | exact trivial | exact fun _ _ => rfl | exact fun _ _ => ⟨rfl, AvIs.refl _⟩ | exact fun _ hi => absurd hi (Nat.not_lt_zero _) | (intro i hi; cases Nat.lt_one_iff.1 hi; rfl) | (intro j hj; by_cases hji : j = ((acAt k s).give.toNat); (· subst hji; simp [setRowF, setL, Rd.upOut, Rd.upCnt, novTo, actTo]; done); (· simp [setRowF, beq_false hji, Rd.upOut, Rd.upCnt, novTo, actTo, hji, lt_succ_ne hji]; done)) | refine ⟨?_, ?_⟩)))) fun i hi => ?_
      (repeat (first | refine XK.n ?_ | refine XK.a ?_ | refine XK.b ?_)); refine XK.cond rfl (fun hlt => ?_) (fun hlt => ?_)
      · have hlt : i < k.clauses.length := by simpa using hlt
        have fc : k.clauses.getD (i : Int).toNat default = clAt k i := rfl
        have f1 : (novTo k (acAt k s) rH i).out i = rH.out i := by simp [novTo]
        (repeat (first | refine XK.n ?_ | refine XK.a ?_ | refine XK.b ?_)); refine XK.meet (ST.of [(0, .ptr 0 0), (5, .ptr 270 0), (8, .vec 999 0), (11, .c (.int .i64 i)), (12, .ptr 8177 0), (127, clsV k.clauses), (128, .c (.int .i64 k.clauses.length)), (129, .c (.int .i64 i)), (153, .c (.bool (decide ((acAt k s).kind = 3 ∧ runsB (rH.out i) = true ∧ (clAt k i).kind ≠ 4 ∧ (clAt k i).role = (acAt k s).give))))]
          ((8177, .cells 48 (clC (clAt k i))) :: (999, intsO (endedA k r s k.clauses.length)) :: (270, .cells 102 (actC (acAt k s))) :: rdN k (novTo k (acAt k s) rH i)) 9000 165 (fun _ => false)) ?_ ?_
        · (repeat (first | refine XK.n ?_ | refine XK.a ?_ | refine XK.b ?_)); refine XK.region ?_; refine XL.g ?_
          rw [fc]
          refine XL.callMG [0, 1, 2, 3, 4, 5] (.c (.bool false)) hE rfl rfl rfl rfl rfl rfl (fun hgd => ?_) rfl (fun hgd => ?_) (fun hgd => runs_ok k (novTo k (acAt k s) rH i) i hlt) rfl ?_ rfl (fun hgd => ?_) rfl rfl rfl (fun hgd => ?_)
          · have hk3 : (acAt k s).kind ≠ 3 := by simpa using hgd
            refine XL.g ?_; refine XL.fin ?_; (repeat (first | refine XK.n ?_ | refine XK.a ?_ | refine XK.b ?_))
            refine XK.inv (Weak.of hN rfl rfl rfl ⟨rfl, rfl, rfl, rfl, rfl, AvIs.refl _, rfl, rfl, cB ?_⟩ frI)
            simp [hk3]
          · simp only [AllP, impG, hgd]; simp
          · (repeat' (first | exact rfl | exact AvIs.refl _ | exact trivial | exact fun _ _ => rfl | exact fun _ _ => ⟨rfl, AvIs.refl _⟩ | refine ⟨?_, ?_⟩))
          · (repeat' (first | exact rfl | exact AvIs.refl _ | exact trivial | exact fun _ _ => rfl | exact fun _ _ => ⟨rfl, AvIs.refl _⟩ | refine ⟨?_, ?_⟩))
          · have hk3 : (acAt k s).kind = 3 := by simpa using hgd
            rw [f1]
            refine XL.g ?_; refine XL.fin ?_; (repeat (first | refine XK.n ?_ | refine XK.a ?_ | refine XK.b ?_))
            refine XK.inv (Weak.of hN rfl rfl rfl ⟨rfl, rfl, rfl, rfl, rfl, AvIs.refl _, rfl, rfl, cB ?_⟩ frI)
            rw [hk3, Bool.eq_iff_iff]
            simp [runsB, and_assoc]
        · (repeat (first | refine XK.n ?_ | refine XK.a ?_ | refine XK.b ?_)); refine XK.cond rfl (fun h7 => ?_) (fun h7 => ?_)
          · have h7 := of_decide_eq_true h7
            (repeat (first | refine XK.n ?_ | refine XK.a ?_ | refine XK.b ?_))
            refine XK.inv ⟨i + 1, hlt, Weak.of hN rfl rfl rfl frI (by (repeat' (first | exact rfl | exact AvIs.refl _ | exact trivial | exact fun _ _ => rfl | exact fun _ _ => ⟨rfl, AvIs.refl _⟩ | exact fun _ hi => absurd hi (Nat.not_lt_zero _) | (intro i hi; cases Nat.lt_one_iff.1 hi; rfl) | (intro j hj; by_cases hji : j = (i); (· subst hji; simp [setRowF, setL, Rd.upOut, Rd.upCnt, novTo, h7]; done); (· simp [setRowF, beq_false hji, Rd.upOut, Rd.upCnt, novTo, h7, hji, lt_succ_ne hji]; done)) | refine ⟨?_, ?_⟩))), by omega⟩
          · have h7 := of_decide_eq_false h7
            (repeat (first | refine XK.n ?_ | refine XK.a ?_ | refine XK.b ?_))
            refine XK.inv ⟨i + 1, hlt, Weak.of hN rfl rfl rfl frI (by (repeat' (first | exact rfl | exact AvIs.refl _ | exact trivial | exact fun _ _ => rfl | exact fun _ _ => ⟨rfl, AvIs.refl _⟩ | exact fun _ hi => absurd hi (Nat.not_lt_zero _) | (intro i hi; cases Nat.lt_one_iff.1 hi; rfl) | (intro j hj; by_cases hji : j = (i); (· subst hji; simp [setRowF, setL, Rd.upOut, Rd.upCnt, novTo, if_neg h7]; done); (· simp [setRowF, beq_false hji, Rd.upOut, Rd.upCnt, novTo, if_neg h7, hji, lt_succ_ne hji]; done)) | refine ⟨?_, ?_⟩))), by omega⟩
      · have hlt : ¬ i < k.clauses.length := by simpa using hlt
        have hin : i = k.clauses.length := by omega
        subst hin
        (repeat (first | refine XK.n ?_ | refine XK.a ?_ | refine XK.b ?_))
        (first | refine XK.outR [0, 1, 2, 3, 4, 5, 999] hN rfl rfl rfl ?_ rfl rfl ?_ | refine XK.outRN [0, 1, 2, 3, 4, 5, 999] hN rfl rfl rfl ?_ rfl rfl ?_)
        · (repeat' (first | exact rfl | exact AvIs.refl _ | exact trivial | exact fun _ _ => rfl | exact fun _ _ => ⟨rfl, AvIs.refl _⟩ | refine ⟨?_, ?_⟩))
        · (repeat' (first | exact rfl | exact AvIs.refl _ | exact trivial | exact fun _ _ => rfl | exact fun _ _ => ⟨rfl, AvIs.refl _⟩ | refine ⟨?_, ?_⟩))
end Go.Proofs.YtlhmgphgnedlkaaGreat
end
section
/- Contracts: package trace: whether a day is in Off (sort.Search over a closure). -/
namespace Go.Proofs.YtlhmgphgnedlkaaGreat
open Go.Eng
set_option maxRecDepth 10000
def leastP (p : Nat → Bool) (n : Nat) : Nat := ((List.range n).find? p).getD n
theorem leastP_of {p : Nat → Bool} {n m : Nat} (h1 : m ≤ n) (h2 : ∀ i, i < m → p i = false) (h3 : m < n → p m = true) : leastP p n = m := by
  unfold leastP
  by_cases h : m < n
  · have : (List.range n).find? p = some m := by
      rw [List.find?_range_eq_some]
      exact ⟨h3 h, by simpa using h, fun j hj => by simp [h2 j hj]⟩
    rw [this]; rfl
  · have : (List.range n).find? p = none := by
      rw [List.find?_range_eq_none]
      exact fun j hj => by simp [h2 j (by omega)]
    rw [this]
    show n = m
    omega
theorem half (i j : Nat) : Int.fdiv ((i : Int) + j) (2 ^ (min (Int.toNat 1) (IntKind.bits .u64))) = (((i + j) / 2 : Nat) : Int) := by
  have : (2 : Int) ^ (min (Int.toNat 1) (IntKind.bits .u64)) = 2 := by decide
  rw [this, Int.fdiv_eq_ediv_of_nonneg _ (by omega)]
  omega
theorem offAt_ok (k : K) (day : Int) (i : Nat) (hi : i < k.off.length) : Does Tryz.prog 153 [.c (.int .i64 i), .rptr (kC k), .rptr [.c (.int .i64 day)]] (.c (.bool (decide (day ≤ k.off.getD i default)))) := by
  refine Does.mk (fun _ => false) TT_ok Tryz.func153 rfl (by kernel_rfl) Tryz.ntmps153 rfl rfl fun E hT hE hN hR => ?_
  have hm := mixO hE
  (repeat (first | refine XK.n ?_ | refine XK.a ?_ | refine XK.b ?_))
  (first | refine XK.out rfl rfl rfl ?_ | refine XK.outN rfl rfl rfl ?_)
  rfl
theorem search_ok (k : K) (day : Int) (hmn : ∀ i j, i ≤ j → j < k.off.length → day ≤ k.off.getD i default → day ≤ k.off.getD j default) (hlen : k.off.length ≤ 1000000) :
    Does Tryz.prog 152 [.c (.int .i64 k.off.length), .fn (.func 153) [] [.rptr (kC k), .rptr [.c (.int .i64 day)]]] (.c (.int .i64 (leastP (fun i => decide (day ≤ k.off.getD i default)) k.off.length))) := by
  refine Does.mk (fun _ => false) TT_ok Tryz.func152 rfl (by kernel_rfl) Tryz.ntmps152 rfl rfl fun E hT hE hN hR => ?_
  have hm := mixO hE
  (repeat (first | refine XK.n ?_ | refine XK.a ?_ | refine XK.b ?_))
  refine XK.loop (ι := Nat × Nat) (fun p => ST.of [(1, .fn (.func 153) [] [.rptr (kC k), .rptr [.c (.int .i64 day)]]), (5, .c (.int .i64 p.1)), (6, .c (.int .i64 p.2))] [] 1000 26 (fun _ => false))
    (fun p => p.1 ≤ p.2 ∧ p.2 ≤ k.off.length ∧ (∀ i, i < p.1 → ¬ day ≤ k.off.getD i default) ∧ (∀ i, p.2 ≤ i → i < k.off.length → day ≤ k.off.getD i default)) (fun p => p.2 - p.1) (0, k.off.length) ⟨Nat.zero_le _, Nat.le_refl _, fun i hi => absurd hi (Nat.not_lt_zero _), fun i h1 h2 => by omega⟩
    (Weak.of hN rfl rfl rfl ⟨AvIs.refl _, rfl, rfl⟩ trivial) fun p hp => ?_
  obtain ⟨a, b⟩ := p
  obtain ⟨h1, h2, h3, h4⟩ := hp
  simp only at h1 h2 h3 h4
  (repeat (first | refine XK.n ?_ | refine XK.a ?_ | refine XK.b ?_)); refine XK.cond rfl (fun hlt => ?_) (fun hlt => ?_) <;> (try simp at hlt)
  · have hh := half a b
    (repeat (first | refine XK.n ?_ | refine XK.a ?_ | refine XK.b ?_))
    refine XK.weak (Weak.of (L := [(1, .fn (.func 153) [] [.rptr (kC k), .rptr [.c (.int .i64 day)]]), (5, .c (.int .i64 a)), (6, .c (.int .i64 b)), (7, .c (.int .i64 (((a + b) / 2 : Nat) : Int)))]) (O := []) (nx := 3000) (nt := 26) (md := fun _ => false) hN rfl rfl rfl ⟨AvIs.refl _, rfl, rfl, cI hh⟩ trivial) ?_
    have hlt2 : (a + b) / 2 < k.off.length := by omega
    (repeat (first | refine XK.n ?_ | refine XK.a ?_ | refine XK.b ?_)); refine XK.region ?_; refine XL.g ?_
    refine XL.callLA hE rfl rfl rfl rfl trivial rfl (offAt_ok k day ((a + b) / 2) hlt2) rfl ?_
    refine XL.g ?_; refine XL.fin ?_; (repeat (first | refine XK.n ?_ | refine XK.a ?_ | refine XK.b ?_))
    (repeat (first | refine XK.n ?_ | refine XK.a ?_ | refine XK.b ?_)); refine XK.cond rfl (fun h5 => ?_) (fun h5 => ?_) <;> (try simp at h5)
    · (repeat (first | refine XK.n ?_ | refine XK.a ?_ | refine XK.b ?_))
      refine XK.inv ⟨((a + b) / 2 + 1, b), ⟨by simp only; omega, h2, fun i hi => ?_, h4⟩, Weak.of hN rfl rfl rfl ⟨AvIs.refl _, rfl, rfl⟩ trivial, by simp only; omega⟩
      intro hc
      have := hmn i ((a + b) / 2) (by simp only at hi; omega) hlt2 hc
      simp at this
      omega
    · (repeat (first | refine XK.n ?_ | refine XK.a ?_ | refine XK.b ?_))
      refine XK.inv ⟨(a, (a + b) / 2), ⟨by simp only; omega, by simp only; omega, h3, fun i hi hi2 => ?_⟩, Weak.of hN rfl rfl rfl ⟨AvIs.refl _, rfl, rfl⟩ trivial, by simp only; omega⟩
      exact hmn _ i hi hi2 (by simpa using h5)
  · (repeat (first | refine XK.n ?_ | refine XK.a ?_ | refine XK.b ?_))
    (first | refine XK.out rfl rfl rfl ?_ | refine XK.outN rfl rfl rfl ?_)
    have : leastP (fun i => decide (day ≤ k.off.getD i default)) k.off.length = a := leastP_of (by omega) (fun i hi => decide_eq_false (h3 i hi)) fun h => decide_eq_true (h4 a (by omega) h)
    rw [this]
theorem leastP_spec {p : Nat → Bool} {n : Nat} : leastP p n ≤ n ∧ (∀ i, i < leastP p n → p i = false) ∧ (leastP p n < n → p (leastP p n) = true) := by
  unfold leastP
  cases h : (List.range n).find? p with
  | none =>
    rw [List.find?_range_eq_none] at h
    refine ⟨Nat.le_refl _, fun i hi => by simpa using h i hi, fun h => absurd h (by simp)⟩
  | some m =>
    rw [List.find?_range_eq_some] at h
    simp only [Option.getD_some]
    exact ⟨by have := h.2.1; simp at this; omega, fun i hi => by simpa using h.2.2 i hi, fun _ => h.1⟩
theorem any_at {α : Type} [Inhabited α] {p : α → Bool} {l : List α} : l.any p = true ↔ ∃ i, i < l.length ∧ p (l.getD i default) = true := by
  rw [List.any_eq_true]
  constructor
  · rintro ⟨x, hx, h⟩
    obtain ⟨i, hi, rfl⟩ := List.getElem_of_mem hx
    exact ⟨i, hi, by simpa only [List.getD_eq_getElem?_getD, List.getElem?_eq_getElem hi, Option.getD_some] using h⟩
  · rintro ⟨i, hi, h⟩
    refine ⟨_, List.getElem_mem hi, ?_⟩
    simpa only [List.getD_eq_getElem?_getD, List.getElem?_eq_getElem hi, Option.getD_some] using h
def freeB (k : K) (day : Int) : Bool := k.off.any (fun d => d == day)
theorem off_mono {k : K} (h : offB k = true) : ∀ i j, i < j → j < k.off.length → k.off.getD i default < k.off.getD j default := by
  have h1 : ∀ i, i < k.off.length → offPrev k i < k.off.getD i default := fun i hi => by
    have := List.all_eq_true.1 h i (List.mem_range.2 hi)
    simp only [Bool.and_eq_true, decide_eq_true_eq] at this
    exact this.1
  intro i j hij hj
  induction j with
  | zero => omega
  | succ j ih =>
    have h2 := h1 (j + 1) hj
    simp only [offPrev, Nat.add_sub_cancel, Nat.succ_ne_zero, if_false, Nat.add_one_ne_zero] at h2
    by_cases h3 : i = j
    · subst h3; exact h2
    · have := ih (by omega) (by omega)
      omega
theorem free_ok (k : K) (hk : KFacts k) (day : Int) : Does Tryz.prog 151 [.c (.int .i64 day), .rptr (kC k)] (.c (.bool (freeB k day))) := by
  refine Does.mk (fun _ => false) TT_ok Tryz.func151 rfl (by kernel_rfl) Tryz.ntmps151 rfl rfl fun E hT hE hN hR => ?_
  have hm := mixO hE
  have hmono := off_mono hk.off
  have hm1 : ∀ i j, i ≤ j → j < k.off.length → day ≤ k.off.getD i default → day ≤ k.off.getD j default := fun i j hij hj h => by
    by_cases e : i = j
    · subst e; exact h
    · have := hmono i j (by omega) hj
      omega
  have hlow : ∀ i, i < k.off.length → (i : Int) ≤ k.off.getD i default := fun i => by
    induction i with
    | zero =>
      intro hi
      have := List.all_eq_true.1 hk.off 0 (List.mem_range.2 hi)
      simp [offPrev] at this
      simp
      omega
    | succ i ih =>
      intro hi
      have h1 := ih (by omega)
      have h2 := hmono i (i + 1) (by omega) hi
      omega
  have hlen : k.off.length ≤ 1000000 := by
    rcases Nat.eq_zero_or_pos k.off.length with h | h
    · omega
    · have h1 := hlow (k.off.length - 1) (by omega)
      have h2 := List.all_eq_true.1 hk.off (k.off.length - 1) (List.mem_range.2 (by omega))
      simp only [Bool.and_eq_true, decide_eq_true_eq] at h2
      have h3 := hk.days
      omega
  (repeat (first | refine XK.n ?_ | refine XK.a ?_ | refine XK.b ?_)); refine XK.region ?_; refine XL.g ?_
  refine XL.callLA hE rfl rfl rfl rfl trivial rfl (search_ok k day hm1 hlen) rfl ?_
  refine XL.g ?_; refine XL.fin ?_; (repeat (first | refine XK.n ?_ | refine XK.a ?_ | refine XK.b ?_))
  (repeat (first | refine XK.n ?_ | refine XK.a ?_ | refine XK.b ?_))
  have hsp := leastP_spec (p := fun i => decide (day ≤ k.off.getD i default)) (n := k.off.length)
  generalize leastP (fun i => decide (day ≤ k.off.getD i default)) k.off.length = m at hsp
  obtain ⟨h1, h2, h3⟩ := hsp
  (first | refine XK.out rfl rfl rfl ?_ | refine XK.outN rfl rfl rfl ?_)
  have : freeB k day = (decide (m < k.off.length) && k.off.getD m default == day) := by
    unfold freeB
    rw [Bool.eq_iff_iff, any_at]
    constructor
    · rintro ⟨i, hi, he⟩
      have he : k.off.getD i default = day := by simpa using he
      have h4 : ¬ i < m := fun h => by
        have := of_decide_eq_false (h2 i h)
        omega
      have h5 : m < k.off.length := by omega
      have h6 := of_decide_eq_true (h3 h5)
      have h7 : ¬ m < i := fun h => by
        have := hmono m i h hi
        omega
      have : m = i := by omega
      subst this
      simp [h5]
      simpa [h5] using he
    · intro h
      simp only [Bool.and_eq_true, decide_eq_true_eq] at h
      exact ⟨m, h.1, h.2⟩
  rw [this]
  simp
end Go.Proofs.YtlhmgphgnedlkaaGreat
end
section
/- Contracts: package trace: tick. -/
namespace Go.Proofs.YtlhmgphgnedlkaaGreat
open Go.Eng
set_option maxRecDepth 10000
theorem kind_facts {k : K} {x : Cl} (h : kindB k x = true) : (x.kind = 4 ∧ x.role = -1 ∧ x.need = 1 ∧ x.grace = 0 ∧ x.final = false) ∨
    ((0 ≤ x.role ∧ x.role < k.holders.length) ∧ natB k x.act = false ∧ ((x.kind = 1 ∧ (1 ≤ x.need ∧ x.need ≤ 9) ∧ 0 ≤ x.grace ∧ x.grace ≤ 400) ∨ (x.kind = 2 ∧ x.need = 1 ∧ x.grace = 0) ∨ (x.kind = 3 ∧ x.need = 1 ∧ x.grace = 0 ∧ x.final = false))) := by
  unfold kindB at h
  by_cases h4 : x.kind = 4
  · rw [if_pos h4] at h
    simp only [Bool.and_eq_true, beq_iff_eq, Bool.not_eq_true'] at h
    exact .inl ⟨h4, h.1.1.1, h.1.1.2, h.1.2, h.2⟩
  · rw [if_neg h4] at h
    by_cases h0 : (!movB k x.role || natB k x.act) = true
    · rw [if_pos h0] at h; cases h
    · rw [if_neg h0] at h
      simp only [Bool.or_eq_true, Bool.not_eq_true', not_or, Bool.not_eq_false, Bool.not_eq_true] at h0
      have hm := h0.1
      simp only [movB, Bool.and_eq_true, decide_eq_true_eq] at hm
      refine .inr ⟨hm, h0.2, ?_⟩
      by_cases h1 : x.kind = 1
      · rw [if_pos h1] at h
        simp only [Bool.and_eq_true, decide_eq_true_eq] at h
        exact .inl ⟨h1, h.1.1, h.1.2, h.2⟩
      · rw [if_neg h1] at h
        by_cases h2 : x.kind = 2
        · rw [if_pos h2] at h
          simp only [Bool.and_eq_true, beq_iff_eq] at h
          exact .inr (.inl ⟨h2, h⟩)
        · rw [if_neg h2] at h
          by_cases h3 : x.kind = 3
          · rw [if_pos h3] at h
            simp only [Bool.and_eq_true, beq_iff_eq, Bool.not_eq_true'] at h
            exact .inr (.inr ⟨h3, h.1.1, h.1.2, h.2⟩)
          · rw [if_neg h3] at h; cases h
theorem grace_bd {k : K} {x : Cl} (h : kindB k x = true) : 0 ≤ x.grace ∧ x.grace ≤ 400 := by
  rcases kind_facts h with h | ⟨_, _, h | h | h⟩ <;> omega
def tickOne (x : Cl) (free : Bool) (steps : Int) (o : Oc) (c : Int × Bool) : Oc × Int × Bool :=
  if (!runsB o || c.2 || (x.business && free)) = true then (o, c.1, false)
  else if c.1 + 1 < x.after then (o, c.1 + 1, false)
  else if c.1 + 1 < x.after + x.grace then ({ o with status := 2 }, c.1 + 1, false)
  else ({ o with status := if x.kind = 1 then 4 else if x.kind = 2 then 3 else 5, to := steps }, c.1 + 1, true)
def tickAt (k : K) (r : Rd) (free : Bool) (j : Nat) : Oc × Int × Bool := tickOne (clAt k j) free r.steps (r.out j) (r.cnt j)
def endedT (k : K) (r : Rd) (free : Bool) (n : Nat) : List Int := ((List.range n).filter (fun j => (tickAt k r free j).2.2)).map (fun j : Nat => (j : Int))
def tickTo (k : K) (r : Rd) (free : Bool) (n : Nat) : Rd :=
  { r with day := r.day + 1, cnt := fun j => if j < n then ((tickAt k r free j).2.1, (r.cnt j).2) else r.cnt j, out := fun j => if j < n then (tickAt k r free j).1 else r.out j }
theorem tick_ok (k : K) (hk : KFacts k) (r : Rd) (s : Int) (hday : 0 ≤ r.day ∧ r.day ≤ 1000000) (hg : ∀ j, j < k.clauses.length → 0 ≤ (r.cnt j).1 ∧ (r.cnt j).1 ≤ 1000000) :
    DoesM Tryz.prog 156 [.ptr 0 0, .c (.int .i64 s)] (rdOs k r) (.vec 6 0) (rdOs k (tickTo k r (freeB k r.day) k.clauses.length) ++ [intsO (endedT k r (freeB k r.day) k.clauses.length)]) := by
  refine DoesM.mk (fun _ => false) 100 TT_ok Tryz.func156 rfl (by kernel_rfl) Tryz.ntmps156 rfl rfl rfl fun E hT hE hN hR => ?_
  have hm := mixO hE
  (repeat (first | refine XK.n ?_ | refine XK.a ?_ | refine XK.b ?_)); refine XK.drawn hm ?_; refine XD.goA hT rfl rfl rfl rfl ?_
  refine XD.callLA hE rfl rfl rfl rfl trivial rfl (free_ok k hk r.day) rfl ?_
  refine XD.goA hT rfl rfl rfl rfl ?_; refine XD.fin (by kernel_rfl) ?_; (repeat (first | refine XK.n ?_ | refine XK.a ?_ | refine XK.b ?_))
  generalize freeB k r.day = free
  (repeat (first | refine XK.n ?_ | refine XK.a ?_ | refine XK.b ?_))
  refine XK.loop (ι := Nat) (fun i => ST.of [(0, .ptr 0 0), (5, .c (.bool free)), (6, .vec 999 0), (30, clsV k.clauses), (31, .c (.int .i64 k.clauses.length)), (32, .c (.int .i64 i))] ((999, intsO (endedT k r free i)) :: rdN k (tickTo k r free i)) 2000 120 (fun _ => false))
    (fun i => i ≤ k.clauses.length) (fun i => k.clauses.length - i) 0 (Nat.zero_le _)
    (Weak.trans (Weak.ghost (j := 6) (k := 999) (e := 3) (sz := 1) (f := fun _ => []) rfl rfl) (Weak.of hN rfl rfl rfl frI (by (repeat' (first | exact rfl | exact AvIs.refl _ | exact trivial | exact fun _ _ => rfl | exact fun _ _ => ⟨rfl, AvIs.refl _⟩ | exact fun _ hi => absurd hi (Nat.not_lt_zero _) | (intro i hi; cases Nat.lt_one_iff.1 hi; rfl) | (intro j hj; by_cases hji : j = (0); (· subst hji; simp [setRowF, setL, Rd.upOut, Rd.upCnt, endedT]; done); (· simp [setRowF, beq_false hji, Rd.upOut, Rd.upCnt, endedT, hji, lt_succ_ne hji]; done)) | refine ⟨?_, ?_⟩))))) fun i hi => ?_
  have hnc := hk.nc
  (repeat (first | refine XK.n ?_ | refine XK.a ?_ | refine XK.b ?_)); refine XK.cond rfl (fun hlt => ?_) (fun hlt => ?_)
  · have hlt : i < k.clauses.length := by simpa using hlt
    have f1 : (tickTo k r free i).out i = r.out i := by simp [tickTo]
    have f2 : (tickTo k r free i).cnt i = r.cnt i := by simp [tickTo]
    have f2' : (tickTo k r free i).cnt (i : Int).toNat = r.cnt i := f2
    have fc : k.clauses.getD (i : Int).toNat default = clAt k i := rfl
    have hgi := hg i hlt
    have hx := hk.clW' hlt
    have hxb := hk.clB hlt
    have hgr := grace_bd hxb.2.2.1
    have hel : (endedT k r free i).length ≤ i := by
      have := List.length_filter_le (fun j => (tickAt k r free j).2.2) (List.range i)
      simpa [endedT] using this
    (repeat (first | refine XK.n ?_ | refine XK.a ?_ | refine XK.b ?_)); refine XK.region ?_; refine XL.g ?_
    rw [fc]
    refine XL.callMA [0, 1, 2, 3, 4, 5] hE rfl rfl rfl rfl trivial (runs_ok k (tickTo k r free i) i hlt) rfl rfl rfl rfl rfl ?_
    refine XL.g ?_; refine XL.fin ?_; (repeat (first | refine XK.n ?_ | refine XK.a ?_ | refine XK.b ?_))
    (repeat (first | refine XK.n ?_ | refine XK.a ?_ | refine XK.b ?_)); refine XK.cond rfl (fun h2 => ?_) (fun h2 => ?_)
    · rw [f1, f2'] at h2
      have hone : tickAt k r free i = (r.out i, (r.cnt i).1, false) := by
        exact if_pos (show (!runsB (r.out i) || (r.cnt i).2 || ((clAt k i).business && free)) = true from h2)
      have he : endedT k r free (i + 1) = endedT k r free i := by simp [endedT, List.range_succ, List.filter_append, hone]
      (repeat (first | refine XK.n ?_ | refine XK.a ?_ | refine XK.b ?_))
      refine XK.inv ⟨i + 1, hlt, Weak.of hN rfl rfl rfl frI (by rw [he]; (repeat' (first | exact rfl | exact AvIs.refl _ | exact trivial | exact fun _ _ => rfl | exact fun _ _ => ⟨rfl, AvIs.refl _⟩ | exact fun _ hi => absurd hi (Nat.not_lt_zero _) | (intro i hi; cases Nat.lt_one_iff.1 hi; rfl) | (intro j hj; by_cases hji : j = (i); (· subst hji; simp [setRowF, setL, Rd.upOut, Rd.upCnt, tickTo, hone]; done); (· simp [setRowF, beq_false hji, Rd.upOut, Rd.upCnt, tickTo, hone, hji, lt_succ_ne hji]; done)) | refine ⟨?_, ?_⟩))), by omega⟩
    · rw [f1, f2'] at h2
      have h2' : ¬ (!runsB (r.out i) || (r.cnt i).2 || ((clAt k i).business && free)) = true := by rw [show (!runsB (r.out i) || (r.cnt i).2 || ((clAt k i).business && free)) = false from h2]; simp
      have hone : tickAt k r free i = if (r.cnt i).1 + 1 < (clAt k i).after then (r.out i, (r.cnt i).1 + 1, false)
          else if (r.cnt i).1 + 1 < (clAt k i).after + (clAt k i).grace then ({ r.out i with status := 2 }, (r.cnt i).1 + 1, false)
          else ({ r.out i with status := if (clAt k i).kind = 1 then 4 else if (clAt k i).kind = 2 then 3 else 5, to := r.steps }, (r.cnt i).1 + 1, true) := by
        unfold tickAt tickOne
        rw [if_neg h2']
      rw [← f2'] at hgi
      (repeat (first | refine XK.n ?_ | refine XK.a ?_ | refine XK.b ?_))
      refine XK.weak (Weak.of (L := (7, .c (.int .i64 i)) :: (8, .ptr 2128 0) :: [(0, .ptr 0 0), (5, .c (.bool free)), (6, .vec 999 0), (30, clsV k.clauses), (31, .c (.int .i64 k.clauses.length)), (32, .c (.int .i64 i))]) (O := (2128, .cells 48 (clC (clAt k i))) :: (999, intsO (endedT k r free i)) :: rdN k ((tickTo k r free i).upCnt i ((r.cnt i).1 + 1, (r.cnt i).2))) (nx := 5000) (nt := 120) (md := fun _ => false) hN rfl rfl rfl frI (by (repeat' (first | exact rfl | exact AvIs.refl _ | exact trivial | exact fun _ _ => rfl | exact fun _ _ => ⟨rfl, AvIs.refl _⟩ | exact fun _ hi => absurd hi (Nat.not_lt_zero _) | (intro i hi; cases Nat.lt_one_iff.1 hi; rfl) | (intro j hj; by_cases hji : j = (i); (· subst hji; simp [setRowF, setL, Rd.upOut, Rd.upCnt, tickTo]; done); (· simp [setRowF, beq_false hji, Rd.upOut, Rd.upCnt, tickTo, hji, lt_succ_ne hji]; done)) | refine ⟨?_, ?_⟩)))) ?_
      have f3 : ((tickTo k r free i).upCnt i ((r.cnt i).1 + 1, (r.cnt i).2)).cnt (i : Int).toNat = ((r.cnt i).1 + 1, (r.cnt i).2) := by simp [Rd.upCnt]
      (repeat (first | refine XK.n ?_ | refine XK.a ?_ | refine XK.b ?_))
      rw [f3]
      (repeat (first | refine XK.n ?_ | refine XK.a ?_ | refine XK.b ?_)); refine XK.cond rfl (fun h3 => ?_) (fun h3 => ?_)
      · have h3 : (r.cnt i).1 + 1 < (clAt k i).after := of_decide_eq_true h3
        rw [if_pos h3] at hone
        have he : endedT k r free (i + 1) = endedT k r free i := by simp [endedT, List.range_succ, List.filter_append, hone]
        (repeat (first | refine XK.n ?_ | refine XK.a ?_ | refine XK.b ?_))
        refine XK.inv ⟨i + 1, hlt, Weak.of hN rfl rfl rfl frI (by rw [he]; (repeat' (first | exact rfl | exact AvIs.refl _ | exact trivial | exact fun _ _ => rfl | exact fun _ _ => ⟨rfl, AvIs.refl _⟩ | exact fun _ hi => absurd hi (Nat.not_lt_zero _) | (intro i hi; cases Nat.lt_one_iff.1 hi; rfl) | (intro j hj; by_cases hji : j = (i); (· subst hji; simp [setRowF, setL, Rd.upOut, Rd.upCnt, tickTo, hone]; done); (· simp [setRowF, beq_false hji, Rd.upOut, Rd.upCnt, tickTo, hone, hji, lt_succ_ne hji]; done)) | refine ⟨?_, ?_⟩))), by omega⟩
      · have h3 : ¬ (r.cnt i).1 + 1 < (clAt k i).after := of_decide_eq_false h3
        rw [if_neg h3] at hone
        (repeat (first | refine XK.n ?_ | refine XK.a ?_ | refine XK.b ?_)); refine XK.cond rfl (fun h4 => ?_) (fun h4 => ?_)
        · have h4 : (r.cnt i).1 + 1 < (clAt k i).after + (clAt k i).grace := of_decide_eq_true h4
          rw [if_pos h4] at hone
          have he : endedT k r free (i + 1) = endedT k r free i := by simp [endedT, List.range_succ, List.filter_append, hone]
          (repeat (first | refine XK.n ?_ | refine XK.a ?_ | refine XK.b ?_))
          refine XK.inv ⟨i + 1, hlt, Weak.of hN rfl rfl rfl frI (by rw [he]; (repeat' (first | exact rfl | exact AvIs.refl _ | exact trivial | exact fun _ _ => rfl | exact fun _ _ => ⟨rfl, AvIs.refl _⟩ | exact fun _ hi => absurd hi (Nat.not_lt_zero _) | (intro i hi; cases Nat.lt_one_iff.1 hi; rfl) | (intro j hj; by_cases hji : j = (i); (· subst hji; simp [setRowF, setL, Rd.upOut, Rd.upCnt, tickTo, hone]; done); (· simp [setRowF, beq_false hji, Rd.upOut, Rd.upCnt, tickTo, hone, hji, lt_succ_ne hji]; done)) | refine ⟨?_, ?_⟩))), by omega⟩
        · have h4 : ¬ (r.cnt i).1 + 1 < (clAt k i).after + (clAt k i).grace := of_decide_eq_false h4
          rw [if_neg h4] at hone
          (repeat (first | refine XK.n ?_ | refine XK.a ?_ | refine XK.b ?_)); refine XK.cond rfl (fun h5 => ?_) (fun h5 => ?_)
          · have h5 : (clAt k i).kind = 1 := by simpa using h5
            rw [if_pos h5] at hone
            (repeat (first | refine XK.n ?_ | refine XK.a ?_ | refine XK.b ?_))
            (repeat (first | refine XK.n ?_ | refine XK.a ?_ | refine XK.b ?_)); refine XK.region ?_; refine XL.g ?_
            refine XL.callMA [0, 1, 2, 3, 4, 5] hE rfl rfl rfl rfl trivial (end_ok k ((tickTo k r free i).upCnt i ((r.cnt i).1 + 1, (r.cnt i).2)) i 4 hlt) rfl rfl rfl rfl rfl ?_
            refine XL.g ?_; refine XL.fin ?_; (repeat (first | refine XK.n ?_ | refine XK.a ?_ | refine XK.b ?_))
            have he : endedT k r free (i + 1) = endedT k r free i ++ [(i : Int)] := by simp [endedT, List.range_succ, List.filter_append, hone]
            (repeat (first | refine XK.n ?_ | refine XK.a ?_ | refine XK.b ?_))
            refine XK.inv ⟨i + 1, hlt, (Weak.trans (Weak.stamp (k := 999) (t := 0) hN rfl rfl) (Weak.of hN rfl rfl rfl frI ?_)), by omega⟩
            rw [he]
            exact ⟨⟨⟨rfl, rfl, rfl⟩, by simp, ints_app (endedT k r free i) i _ rfl⟩, by (repeat' (first | exact rfl | exact AvIs.refl _ | exact trivial | exact fun _ _ => rfl | exact fun _ _ => ⟨rfl, AvIs.refl _⟩ | exact fun _ hi => absurd hi (Nat.not_lt_zero _) | (intro i hi; cases Nat.lt_one_iff.1 hi; rfl) | (intro j hj; by_cases hji : j = (i); (· subst hji; simp [setRowF, setL, Rd.upOut, Rd.upCnt, tickTo, hone]; done); (· simp [setRowF, beq_false hji, Rd.upOut, Rd.upCnt, tickTo, hone, hji, lt_succ_ne hji]; done)) | refine ⟨?_, ?_⟩))⟩
          · have h5 : ¬ (clAt k i).kind = 1 := by simpa using h5
            rw [if_neg h5] at hone
            (repeat (first | refine XK.n ?_ | refine XK.a ?_ | refine XK.b ?_)); refine XK.cond rfl (fun h6 => ?_) (fun h6 => ?_)
            · have h6 : (clAt k i).kind = 2 := by simpa using h6
              rw [if_pos h6] at hone
              (repeat (first | refine XK.n ?_ | refine XK.a ?_ | refine XK.b ?_))
              (repeat (first | refine XK.n ?_ | refine XK.a ?_ | refine XK.b ?_)); refine XK.region ?_; refine XL.g ?_
              refine XL.callMA [0, 1, 2, 3, 4, 5] hE rfl rfl rfl rfl trivial (end_ok k ((tickTo k r free i).upCnt i ((r.cnt i).1 + 1, (r.cnt i).2)) i 3 hlt) rfl rfl rfl rfl rfl ?_
              refine XL.g ?_; refine XL.fin ?_; (repeat (first | refine XK.n ?_ | refine XK.a ?_ | refine XK.b ?_))
              have he : endedT k r free (i + 1) = endedT k r free i ++ [(i : Int)] := by simp [endedT, List.range_succ, List.filter_append, hone]
              (repeat (first | refine XK.n ?_ | refine XK.a ?_ | refine XK.b ?_))
              refine XK.inv ⟨i + 1, hlt, (Weak.trans (Weak.stamp (k := 999) (t := 0) hN rfl rfl) (Weak.of hN rfl rfl rfl frI ?_)), by omega⟩
              rw [he]
              exact ⟨⟨⟨rfl, rfl, rfl⟩, by simp, ints_app (endedT k r free i) i _ rfl⟩, by (repeat' (first | exact rfl | exact AvIs.refl _ | exact trivial | exact fun _ _ => rfl | exact fun _ _ => ⟨rfl, AvIs.refl _⟩ | exact fun _ hi => absurd hi (Nat.not_lt_zero _) | (intro i hi; cases Nat.lt_one_iff.1 hi; rfl) | (intro j hj; by_cases hji : j = (i); (· subst hji; simp [setRowF, setL, Rd.upOut, Rd.upCnt, tickTo, hone]; done); (· simp [setRowF, beq_false hji, Rd.upOut, Rd.upCnt, tickTo, hone, hji, lt_succ_ne hji]; done)) | refine ⟨?_, ?_⟩))⟩
            · have h6 : ¬ (clAt k i).kind = 2 := by simpa using h6
              rw [if_neg h6] at hone
              (repeat (first | refine XK.n ?_ | refine XK.a ?_ | refine XK.b ?_))
              (repeat (first | refine XK.n ?_ | refine XK.a ?_ | refine XK.b ?_)); refine XK.region ?_; refine XL.g ?_
              refine XL.callMA [0, 1, 2, 3, 4, 5] hE rfl rfl rfl rfl trivial (end_ok k ((tickTo k r free i).upCnt i ((r.cnt i).1 + 1, (r.cnt i).2)) i 5 hlt) rfl rfl rfl rfl rfl ?_
              refine XL.g ?_; refine XL.fin ?_; (repeat (first | refine XK.n ?_ | refine XK.a ?_ | refine XK.b ?_))
              have he : endedT k r free (i + 1) = endedT k r free i ++ [(i : Int)] := by simp [endedT, List.range_succ, List.filter_append, hone]
              (repeat (first | refine XK.n ?_ | refine XK.a ?_ | refine XK.b ?_))
              refine XK.inv ⟨i + 1, hlt, (Weak.trans (Weak.stamp (k := 999) (t := 0) hN rfl rfl) (Weak.of hN rfl rfl rfl frI ?_)), by omega⟩
              rw [he]
              exact ⟨⟨⟨rfl, rfl, rfl⟩, by simp, ints_app (endedT k r free i) i _ rfl⟩, by (repeat' (first | exact rfl | exact AvIs.refl _ | exact trivial | exact fun _ _ => rfl | exact fun _ _ => ⟨rfl, AvIs.refl _⟩ | exact fun _ hi => absurd hi (Nat.not_lt_zero _) | (intro i hi; cases Nat.lt_one_iff.1 hi; rfl) | (intro j hj; by_cases hji : j = (i); (· subst hji; simp [setRowF, setL, Rd.upOut, Rd.upCnt, tickTo, hone]; done); (· simp [setRowF, beq_false hji, Rd.upOut, Rd.upCnt, tickTo, hone, hji, lt_succ_ne hji]; done)) | refine ⟨?_, ?_⟩))⟩
  · have hlt : ¬ i < k.clauses.length := by simpa using hlt
    have hin : i = k.clauses.length := by omega
    subst hin
    (repeat (first | refine XK.n ?_ | refine XK.a ?_ | refine XK.b ?_))
    (first | refine XK.outR [0, 1, 2, 3, 4, 5, 999] hN rfl rfl rfl ?_ rfl rfl ?_ | refine XK.outRN [0, 1, 2, 3, 4, 5, 999] hN rfl rfl rfl ?_ rfl rfl ?_)
    · (repeat' (first | exact rfl | exact AvIs.refl _ | exact trivial | exact fun _ _ => rfl | exact fun _ _ => ⟨rfl, AvIs.refl _⟩ | refine ⟨?_, ?_⟩))
    · (repeat' (first | exact rfl | exact AvIs.refl _ | exact trivial | exact fun _ _ => rfl | exact fun _ _ => ⟨rfl, AvIs.refl _⟩ | refine ⟨?_, ?_⟩))
end Go.Proofs.YtlhmgphgnedlkaaGreat
end
