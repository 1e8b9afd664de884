import Derived.Test.YtofdehlikigonaaG9
section
/- The law VersionOrders: the walk. -/
namespace Go.Proofs.Ytofdehlikigonaa
open Go.Eng
set_option maxRecDepth 10000
set_option linter.unusedSimpArgs false
set_option linter.unusedVariables false
def seenTo (l : List Am) (i : Nat) : Nat → List AV := fun j => [.c (.bool (decide (∃ q, q < i ∧ ordAt l q = j)))]
theorem ordAt_get {l : List Am} {i : Nat} (hi : i < l.length) : ∃ h : i < (ordL l).length, ordAt l i = (ordL l)[i] := by
  have h1 : i < (ordL l).length := by rw [ordL_len]; exact hi
  refine ⟨h1, ?_⟩
  unfold ordAt
  rw [List.getD_eq_getElem?_getD, List.getElem?_eq_getElem h1]
  rfl
theorem ordAt_lt {l : List Am} {i : Nat} (hi : i < l.length) : ordAt l i < l.length := by
  obtain ⟨h, e⟩ := ordAt_get hi
  rw [e]; exact ordL_lt (List.getElem_mem h)
theorem ordAt_inj {l : List Am} {i j : Nat} (hi : i < l.length) (hj : j < l.length) (h : ordAt l i = ordAt l j) : i = j := by
  obtain ⟨h1, e1⟩ := ordAt_get hi
  obtain ⟨h2, e2⟩ := ordAt_get hj
  have hn : (ordL l).Nodup := (ordL_perm l).nodup_iff.2 List.nodup_range
  exact (List.getElem_inj hn).1 (by rw [← e1, ← e2, h])
theorem ordAt_le {l : List Am} {i j : Nat} (hij : i < j) (hj : j < l.length) : amLe l (ordAt l i) (ordAt l j) = true := by
  obtain ⟨h1, e1⟩ := ordAt_get (show i < l.length by omega)
  obtain ⟨h2, e2⟩ := ordAt_get hj
  rw [e1, e2]
  exact List.pairwise_iff_getElem.1 (ordL_sorted l) i j h1 h2 hij
theorem seen_zero (l : List Am) (j : Nat) : seenTo l 0 j = [.c (.bool false)] := by simp [seenTo]
theorem seen_succ (l : List Am) (i j : Nat) : seenTo l (i + 1) j = setRowF (seenTo l i) (ordAt l i) 0 [.c (.bool true)] j := by
  unfold setRowF
  by_cases h : j = ordAt l i
  · subst h
    rw [show Nat.beq (ordAt l i) (ordAt l i) = true by simp]
    have : decide (∃ q, q < i + 1 ∧ ordAt l q = ordAt l i) = true := decide_eq_true ⟨i, Nat.lt_succ_self i, rfl⟩
    simp only [seenTo, this]
    rfl
  · rw [beq_false h]
    have : (∃ q, q < i + 1 ∧ ordAt l q = j) ↔ ∃ q, q < i ∧ ordAt l q = j := by
      constructor
      · rintro ⟨q, h1, h2⟩
        have : q ≠ i := fun e => h (by subst e; exact h2.symm)
        exact ⟨q, by omega, h2⟩
      · rintro ⟨q, h1, h2⟩; exact ⟨q, by omega, h2⟩
    simp only [seenTo, this]
    rfl
theorem seen_new {l : List Am} {i : Nat} (hi : i < l.length) : decide (∃ q, q < i ∧ ordAt l q = ordAt l i) = false := by
  rw [decide_eq_false_iff_not]
  rintro ⟨q, h1, h2⟩
  have := ordAt_inj (by omega) hi h2
  omega
theorem lawVO (l : List Am) : Does Try.prog 3 [amsV l] (.c (.bool true)) := by
  refine Does.mk (fun d => Nat.beq d 20) TT_ok Try.func3 rfl (by kernel_rfl) Try.ntmps3 rfl rfl fun E hT hE hN hR => ?_
  have hm : E.P.follows .mixedOrders = true := by rw [hE]; kernel_rfl
  (repeat (first | refine XK.norm rfl rfl ?_ | refine XK.rgnA hT rfl rfl rfl ?_ | refine XK.rgnB hT hm rfl rfl rfl ?_)); refine XK.region ?_; refine XL.goA hT rfl rfl rfl rfl ?_
  refine XL.callLA hE rfl rfl rfl rfl trivial rfl (head25_ok) rfl ?_
  refine XL.goA hT rfl rfl rfl rfl ?_; refine XL.fin ?_; (repeat (first | refine XK.norm rfl rfl ?_ | refine XK.rgnA hT rfl rfl rfl ?_ | refine XK.rgnB hT hm rfl rfl rfl ?_))
  (repeat (first | refine XK.norm rfl rfl ?_ | refine XK.rgnA hT rfl rfl rfl ?_ | refine XK.rgnB hT hm rfl rfl rfl ?_)); refine XK.cond rfl (fun h1 => ?_) (fun h1 => ?_) <;> (try simp at h1)
  · (repeat (first | refine XK.norm rfl rfl ?_ | refine XK.rgnA hT rfl rfl rfl ?_ | refine XK.rgnB hT hm rfl rfl rfl ?_))
    (first | refine XK.out rfl rfl rfl ?_ | refine XK.outN rfl rfl rfl ?_)
    rfl
  have hol := ordI_len l
  (repeat (first | refine XK.norm rfl rfl ?_ | refine XK.rgnA hT rfl rfl rfl ?_ | refine XK.rgnB hT hm rfl rfl rfl ?_)); refine XK.region ?_; refine XL.goA hT rfl rfl rfl rfl ?_
  refine XL.callKA hE rfl rfl rfl rfl trivial rfl rfl (order_ok l (by omega)) ?_
  refine XL.goA hT rfl rfl rfl rfl ?_; refine XL.fin ?_; (repeat (first | refine XK.norm rfl rfl ?_ | refine XK.rgnA hT rfl rfl rfl ?_ | refine XK.rgnB hT hm rfl rfl rfl ?_))
  (repeat (first | refine XK.norm rfl rfl ?_ | refine XK.rgnA hT rfl rfl rfl ?_ | refine XK.rgnB hT hm rfl rfl rfl ?_)); refine XK.cond rfl (fun h2 => ?_) (fun h2 => ?_)
  · exfalso
    rw [hol] at h2
    simp at h2
  clear h2
  (repeat (first | refine XK.norm rfl rfl ?_ | refine XK.rgnA hT rfl rfl rfl ?_ | refine XK.rgnB hT hm rfl rfl rfl ?_))
  refine XK.loop (ι := Nat) (fun i => ST.of [(0, amsV l), (3, .c (.bool true)), (4, intsV (ordI l)), (5, .vec 424 0), (6, .c (.int .i64 i))] [(424, .vec 4 1 0 l.length (seenTo l i))] 1000 101 (fun _ => false))
    (fun i => i ≤ l.length) (fun i => l.length - i) 0 (Nat.zero_le _) (Weak.of hN rfl rfl rfl (by (repeat' (first | exact rfl | exact AvIs.refl _ | exact trivial | exact fun _ _ => rfl | exact fun _ _ => ⟨rfl, AvIs.refl _⟩ | exact cI (by omega) | refine ⟨?_, ?_⟩))) ⟨⟨rfl, rfl, rfl⟩, rfl, fun j hj => seen_zero l j⟩) fun i hi => ?_
  (repeat (first | refine XK.norm rfl rfl ?_ | refine XK.rgnA hT rfl rfl rfl ?_ | refine XK.rgnB hT hm rfl rfl rfl ?_)); refine XK.cond rfl (fun hlt => ?_) (fun hlt => ?_) <;> (try simp at hlt)
  · have hil : i < l.length := by omega
    have hor := ordI_at l hil
    have hop := ordAt_lt hil
    have fx : (ordI l).getD (i : Int).toNat default = (ordAt l i : Nat) := hor
    have fs : seenTo l i ((ordAt l i : Nat) : Int).toNat = [.c (.bool false)] := by
      show [AV.c (.bool (decide (∃ q, q < i ∧ ordAt l q = ordAt l i)))] = _
      rw [seen_new hil]
    (repeat (first | refine XK.norm rfl rfl ?_ | refine XK.rgnA hT rfl rfl rfl ?_ | refine XK.rgnB hT hm rfl rfl rfl ?_))
    rw [fx]
    (repeat (first | refine XK.norm rfl rfl ?_ | refine XK.rgnA hT rfl rfl rfl ?_ | refine XK.rgnB hT hm rfl rfl rfl ?_)); refine XK.cond rfl (fun hb => ?_) (fun hb => ?_)
    · exfalso
      have e1 : decide (((ordAt l i : Nat) : Int) < 0) = false := by simp only [decide_eq_false_iff_not]; omega
      have e2 : decide ((l.length : Int) ≤ ((ordAt l i : Nat) : Int)) = false := by simp only [decide_eq_false_iff_not]; omega
      rw [e1, e2, show ((ordAt l i : Nat) : Int).toNat = ordAt l i from rfl, seen_new hil] at hb
      cases hb
    clear hb
    (repeat (first | refine XK.norm rfl rfl ?_ | refine XK.rgnA hT rfl rfl rfl ?_ | refine XK.rgnB hT hm rfl rfl rfl ?_)); refine XK.cond rfl (fun h3 => ?_) (fun h3 => ?_)
    · (repeat (first | refine XK.norm rfl rfl ?_ | refine XK.rgnA hT rfl rfl rfl ?_ | refine XK.rgnB hT hm rfl rfl rfl ?_))
      refine XK.inv ⟨i + 1, by omega, Weak.of hN rfl rfl rfl (by (repeat' (first | exact rfl | exact AvIs.refl _ | exact trivial | exact fun _ _ => rfl | exact fun _ _ => ⟨rfl, AvIs.refl _⟩ | exact cI (by omega) | refine ⟨?_, ?_⟩))) ⟨⟨rfl, rfl, rfl⟩, rfl, fun j hj => seen_succ l i j⟩, by omega⟩
    · have h3 : i ≠ 0 := fun e => by subst e; simp at h3
      have hpl : i - 1 < l.length := by omega
      have hpr := ordI_at l hpl
      have hpp := ordAt_lt hpl
      have hle := ordAt_le (l := l) (show i - 1 < i by omega) hil
      have hmx : (bif true then (if (i : Int) - 1 < 0 then (0 : Int) else (i : Int) - 1) else if (0 : Int) < (i : Int) - 1 then 0 else (i : Int) - 1) = ((i - 1 : Nat) : Int) := by
        rw [cond_true, if_neg (by omega)]; omega
      have fp : (ordI l).getD ((i - 1 : Nat) : Int).toNat default = (ordAt l (i - 1) : Nat) := hpr
      refine XK.norm rfl rfl ?_
      refine XK.region ?_
      refine XL.goA hT rfl rfl rfl rfl ?_ (by simp only [AllP, inK, hmx]; omega)
      rw [hmx, fp]
      refine XL.fin ?_
      have fa : l.getD ((ordAt l (i - 1) : Nat) : Int).toNat default = l.getD (ordAt l (i - 1)) default := rfl
      have fb : l.getD ((ordAt l i : Nat) : Int).toNat default = l.getD (ordAt l i) default := rfl
      (repeat (first | refine XK.norm rfl rfl ?_ | refine XK.rgnA hT rfl rfl rfl ?_ | refine XK.rgnB hT hm rfl rfl rfl ?_))
      rw [fa, fb]
      (repeat (first | refine XK.norm rfl rfl ?_ | refine XK.rgnA hT rfl rfl rfl ?_ | refine XK.rgnB hT hm rfl rfl rfl ?_)); refine XK.cond rfl (fun h4 => ?_) (fun h4 => ?_)
      · exfalso
        unfold amLe at hle
        generalize l.getD (ordAt l (i - 1)) default = a at *
        generalize l.getD (ordAt l i) default = b at *
        generalize ordAt l (i - 1) = x at *
        generalize ordAt l i = y at *
        simp only [Bool.or_eq_true, Bool.and_eq_true, decide_eq_true_eq, beq_iff_eq] at h4 hle
        omega
      · (repeat (first | refine XK.norm rfl rfl ?_ | refine XK.rgnA hT rfl rfl rfl ?_ | refine XK.rgnB hT hm rfl rfl rfl ?_))
        refine XK.inv ⟨i + 1, by omega, Weak.of hN rfl rfl rfl (by (repeat' (first | exact rfl | exact AvIs.refl _ | exact trivial | exact fun _ _ => rfl | exact fun _ _ => ⟨rfl, AvIs.refl _⟩ | exact cI (by omega) | refine ⟨?_, ?_⟩))) ⟨⟨rfl, rfl, rfl⟩, rfl, fun j hj => seen_succ l i j⟩, by omega⟩
  · (repeat (first | refine XK.norm rfl rfl ?_ | refine XK.rgnA hT rfl rfl rfl ?_ | refine XK.rgnB hT hm rfl rfl rfl ?_))
    (first | refine XK.out rfl rfl rfl ?_ | refine XK.outN rfl rfl rfl ?_)
    rfl
end Go.Proofs.Ytofdehlikigonaa
end
section
/- Plain laws of the contract in force. -/
namespace Go.Proofs.Ytofdehlikigonaa
open Go.Eng
set_option maxRecDepth 10000
set_option linter.unusedSimpArgs false
set_option linter.unusedVariables false
noncomputable def inF (day known : Int) : K × List Int → List Am → K × List Int
  | s, [] => s
  | s, a :: l => if known < a.known then inF day known s l else if day < a.day then s else inF day known (stepA s a) l
theorem seqA_len (l : List Am) : (seqA l).length = l.length := by rw [seqA, List.length_map, ordL_len]
theorem seqA_at (l : List Am) {i : Nat} (hi : i < l.length) : (seqA l)[i]? = some (amAt l i) := by
  obtain ⟨h, e⟩ := ordAt_get hi
  rw [seqA, List.getElem?_map, List.getElem?_eq_getElem h, Option.map_some, ← e]
  rfl
theorem seqA_drop (l : List Am) {i : Nat} (hi : i < l.length) : (seqA l).drop i = amAt l i :: (seqA l).drop (i + 1) := by
  have h : i < (seqA l).length := by rw [seqA_len]; exact hi
  rw [List.drop_eq_getElem_cons h]
  have := seqA_at l hi
  rw [List.getElem?_eq_getElem h] at this
  injection this with this
  rw [this]
theorem stI_fold (l : List Am) (k : K) (day known : Int) : ∀ i, i ≤ l.length → (if (stI l k day known i).2 = true then (stI l k day known i).1 else inF day known (stI l k day known i).1 ((seqA l).drop i)) = inF day known (k, []) (seqA l)
  | 0, _ => by simp [stI]
  | i + 1, hi => by
    have ih := stI_fold l k day known i (by omega)
    rw [← ih]
    rw [stI]
    by_cases h1 : (stI l k day known i).2 = true
    · rw [if_pos h1, if_pos h1, if_pos h1]
    · rw [if_neg h1, if_neg h1, seqA_drop l (show i < l.length by omega), inF]
      by_cases h2 : known < (amAt l i).known
      · rw [if_pos h2, if_pos h2, if_neg h1]
      · rw [if_neg h2, if_neg h2]
        by_cases h3 : day < (amAt l i).day
        · rw [if_pos h3, if_pos h3]; rfl
        · rw [if_neg h3, if_neg h3]; rfl
theorem inForceR_seq (k : K) (l : List Am) (day known : Int) : inForceR k l day known = if checkV k l ≠ 0 then ((zeroK, []), checkV k l) else (inF day known (k, []) (seqA l), 0) := by
  have h := stI_fold l k day known l.length (Nat.le_refl _)
  rw [List.drop_eq_nil_of_le (by rw [seqA_len]; exact Nat.le_refl _)] at h
  have h' : (stI l k day known l.length).1 = inF day known (k, []) (seqA l) := by
    rw [← h]; split <;> rfl
  unfold inForceR
  rw [h']
def counts (day known : Int) (a : Am) : Bool := decide (a.known ≤ known) && decide (a.day ≤ day)
theorem dnLe_day {a b : Am} (h : dnLe a b = true) : a.day ≤ b.day := by
  simp only [dnLe, Bool.or_eq_true, Bool.and_eq_true, decide_eq_true_eq, beq_iff_eq] at h; omega
theorem inF_eq {day known : Int} : ∀ {l : List Am} {s : K × List Int}, l.Pairwise (fun a b => a.day ≤ b.day) → inF day known s l = (l.filter (counts day known)).foldl stepA s
  | [], s, _ => rfl
  | a :: l, s, h => by
    obtain ⟨h1, h2⟩ := List.pairwise_cons.1 h
    rw [inF]
    by_cases hk : known < a.known
    · rw [if_pos hk, inF_eq h2, List.filter_cons_of_neg]
      simp only [counts, Bool.and_eq_true, decide_eq_true_eq]; omega
    · rw [if_neg hk]
      by_cases hd : day < a.day
      · rw [if_pos hd, List.filter_cons_of_neg (by simp only [counts, Bool.and_eq_true, decide_eq_true_eq]; omega)]
        have : l.filter (counts day known) = [] := List.filter_eq_nil_iff.2 fun b hb => by
          have := h1 b hb
          simp only [counts, Bool.and_eq_true, decide_eq_true_eq]; omega
        rw [this]; rfl
      · rw [if_neg hd, inF_eq h2, List.filter_cons_of_pos (by simp only [counts, Bool.and_eq_true, decide_eq_true_eq]; omega)]
        rfl
theorem seqA_days (l : List Am) : (seqA l).Pairwise (fun a b => a.day ≤ b.day) := (seqA_sorted l).imp dnLe_day
/-- The contract in force: what the amendments that count make of it, in the order. -/
noncomputable def forceF (k : K) (l : List Am) (day known : Int) : K × List Int := ((seqA l).filter (counts day known)).foldl stepA (k, [])
theorem inForceR_eq (k : K) (l : List Am) (day known : Int) : inForceR k l day known = if checkV k l ≠ 0 then ((zeroK, []), checkV k l) else (forceF k l day known, 0) := by
  rw [inForceR_seq, inF_eq (seqA_days l)]; rfl
/-- Amendments no two of which have the same day and number have one order. -/
theorem seqA_one {l l' : List Am} (hp : l.Perm l') (hd : ∀ a ∈ l, ∀ b ∈ l, a.day = b.day → a.number = b.number → a = b) : seqA l = seqA l' := by
  refine sorted_one (((seqA_perm l).trans hp).trans (seqA_perm l').symm) (fun a ha b hb h1 h2 => ?_) (seqA_sorted l) (seqA_sorted l')
  have ha := (seqA_perm l).mem_iff.1 ha
  have hb := (seqA_perm l).mem_iff.1 hb
  simp only [dnLe, Bool.or_eq_true, Bool.and_eq_true, decide_eq_true_eq, beq_iff_eq] at h1 h2
  exact hd a ha b hb (by omega) (by omega)
theorem force_some (k : K) (l : List Am) (day known : Int) : forceF k (l.filter (counts day known)) day known = forceF k l day known := by
  unfold forceF
  rw [← seqA_filter, List.filter_filter]
  simp
theorem stepA_num (k : K) (x : List Int) (a : Am) : stepA (k, x) a = ((stepA (k, []) a).1, x ++ (stepA (k, []) a).2) := by
  unfold stepA
  split <;> simp
theorem fold_num : ∀ (l : List Am) (k : K) (x : List Int), l.foldl stepA (k, x) = ((l.foldl stepA (k, [])).1, x ++ (l.foldl stepA (k, [])).2)
  | [], k, x => by simp
  | a :: l, k, x => by
    rw [List.foldl_cons, List.foldl_cons, stepA_num k x a, fold_num l (stepA (k, []) a).1 (x ++ _)]
    rw [show stepA (k, []) a = ((stepA (k, []) a).1, (stepA (k, []) a).2) from rfl, fold_num l (stepA (k, []) a).1 (stepA (k, []) a).2]
    simp
theorem stepA_valid {s : K × List Int} (h : kW s.1 ∧ (kValid s.1).1 = 0) {a : Am} (ha : amW a) : kW (stepA s a).1 ∧ (kValid (stepA s a).1).1 = 0 := by
  unfold stepA
  split
  · rename_i h0
    refine ⟨applyR_W h.1 ha.2.2.2, ?_⟩
    rcases applyR_cases s.1 a.patch with ⟨h2, _⟩ | ⟨_, _, _, h2, _⟩
    · exact absurd h0 h2
    · exact h2
  · exact h
theorem fold_valid : ∀ {l : List Am} {s : K × List Int}, (∀ a ∈ l, amW a) → kW s.1 ∧ (kValid s.1).1 = 0 → kW (l.foldl stepA s).1 ∧ (kValid (l.foldl stepA s).1).1 = 0
  | [], s, _, h => h
  | a :: l, s, hl, h => fold_valid (l := l) (s := stepA s a) (fun b hb => hl b (.tail _ hb)) (stepA_valid h (hl a (.head _)))
theorem force_valid {k : K} {l : List Am} {day known : Int} (hl : ∀ a ∈ l, amW a) (h : kW k ∧ (kValid k).1 = 0) : kW (forceF k l day known).1 ∧ (kValid (forceF k l day known).1).1 = 0 :=
  fold_valid (fun a ha => hl a ((seqA_perm l).mem_iff.1 (List.mem_filter.1 ha).1)) h
/-- In a sorted list, those up to a later day are those up to an earlier one, and then those between. -/
theorem filter_split {p q r : Am → Bool} : ∀ {l : List Am}, (∀ a, r a = (p a || q a)) → (∀ a, p a = true → q a = false) → l.Pairwise (fun a b => p b = true → q a = false) → l.filter r = l.filter p ++ l.filter q
  | [], _, _, _ => rfl
  | a :: l, h1, h2, h => by
    obtain ⟨g1, g2⟩ := List.pairwise_cons.1 h
    have ih := filter_split h1 h2 g2
    by_cases hp : p a = true
    · rw [List.filter_cons_of_pos (by rw [h1, hp]; rfl), List.filter_cons_of_pos hp, List.filter_cons_of_neg (by rw [h2 a hp]; simp), ih]; rfl
    · by_cases hq : q a = true
      · have : l.filter p = [] := List.filter_eq_nil_iff.2 fun b hb hpb => by
          have := g1 b hb hpb
          rw [hq] at this; cases this
        rw [List.filter_cons_of_pos (by rw [h1, hq]; simp), List.filter_cons_of_neg hp, List.filter_cons_of_pos hq, ih, this]; rfl
      · rw [List.filter_cons_of_neg (by rw [h1]; simp [hp, hq]), List.filter_cons_of_neg hp, List.filter_cons_of_neg hq, ih]
theorem force_later (k : K) (l : List Am) {first second known : Int} (h : first ≤ second) :
    forceF k l second known = ((forceF (forceF k l first known).1 (l.filter (fun a => decide (first < a.day))) second known).1, (forceF k l first known).2 ++ (forceF (forceF k l first known).1 (l.filter (fun a => decide (first < a.day))) second known).2) := by
  have hs : (seqA l).filter (counts second known) = (seqA l).filter (counts first known) ++ (seqA l).filter (fun a => decide (first < a.day) && counts second known a) := by
    refine filter_split (fun a => ?_) (fun a ha => ?_) ((seqA_days l).imp fun {a b} hab hb => ?_)
    · rw [Bool.eq_iff_iff]; simp only [counts, Bool.or_eq_true, Bool.and_eq_true, decide_eq_true_eq]; omega
    · simp only [counts, Bool.and_eq_true, decide_eq_true_eq, Bool.and_eq_false_iff, decide_eq_false_iff_not] at ha ⊢; omega
    · simp only [counts, Bool.and_eq_true, decide_eq_true_eq, Bool.and_eq_false_iff, decide_eq_false_iff_not] at hb ⊢; omega
  have hl : ((seqA (l.filter (fun a => decide (first < a.day)))).filter (counts second known)) = (seqA l).filter (fun a => decide (first < a.day) && counts second known a) := by
    rw [← seqA_filter, List.filter_filter]
    congr 1
    funext a
    rw [Bool.and_comm]
  unfold forceF
  rw [hl, hs, List.foldl_append]
  generalize (seqA l).filter (counts first known) = L1
  generalize (seqA l).filter (fun a => decide (first < a.day) && counts second known a) = L2
  rw [show List.foldl stepA (k, []) L1 = ((List.foldl stepA (k, []) L1).1, (List.foldl stepA (k, []) L1).2) from rfl, fold_num L2]
end Go.Proofs.Ytofdehlikigonaa
end
section
/- The contract in force of small contracts: sizes, and what it keeps. -/
namespace Go.Proofs.Ytofdehlikigonaa
open Go.Eng
set_option maxRecDepth 10000
set_option linter.unusedSimpArgs false
set_option linter.unusedVariables false
theorem small25_facts {k : K} {l : List Am} (h : small25B k l = true) : KB k ∧ l.length ≤ 12 ∧ ∀ a ∈ l, am25B a = true := by
  simp only [small25B, Bool.and_eq_true] at h
  have h2 := few25_facts h.2
  exact ⟨(few13_facts (by decide) h.1).1, by omega, h2.2⟩
theorem amsOk_of {l : List Am} (hw : ∀ a ∈ l, amW a) (hb : ∀ a ∈ l, am25B a = true) : amsOk l := fun a ha => by
  have := am25_facts (hb a ha)
  exact ⟨hw a ha, by omega, by omega⟩
theorem checkV_small {k : K} {l : List Am} (h : l.length ≤ 60) : checkV k l = if (kValid k).1 ≠ 0 then 1 else 0 := by
  unfold checkV
  split
  · rfl
  · rw [if_neg (by omega)]
theorem inForceR_small {k : K} {l : List Am} {day known : Int} (h : l.length ≤ 60) : inForceR k l day known = if (kValid k).1 ≠ 0 then ((zeroK, []), 1) else (forceF k l day known, 0) := by
  rw [inForceR_eq, checkV_small h]
  by_cases h1 : (kValid k).1 = 0
  · rw [if_neg (by simp [h1]), if_neg (by simp [h1])]
  · rw [if_pos (by simp [h1]), if_pos h1, if_pos h1]
def restK (k k' : K) : Prop := k'.holders = k.holders ∧ k'.units = k.units ∧ k'.acts = k.acts ∧ k'.off = k.off
theorem restK.refl (k : K) : restK k k := ⟨rfl, rfl, rfl, rfl⟩
theorem restK.trans {a b c : K} (h : restK a b) (h2 : restK b c) : restK a c := ⟨h2.1.trans h.1, h2.2.1.trans h.2.1, h2.2.2.1.trans h.2.2.1, h2.2.2.2.trans h.2.2.2⟩
theorem stepA_rest (s : K × List Int) (a : Am) : restK s.1 (stepA s a).1 := by
  unfold stepA
  split
  · rename_i h
    rcases applyR_cases s.1 a.patch with ⟨h2, _⟩ | ⟨_, _, h2, _⟩
    · exact absurd h h2
    · rw [h2]; exact ⟨rfl, rfl, rfl, rfl⟩
  · exact restK.refl _
theorem fold_rest : ∀ (l : List Am) (s : K × List Int), restK s.1 (l.foldl stepA s).1
  | [], s => restK.refl _
  | a :: l, s => (stepA_rest s a).trans (fold_rest l _)
theorem force_KB {k : K} (hB : KB k) (hk : kW k) (hv : (kValid k).1 = 0) {l : List Am} (hl : ∀ a ∈ l, amW a) {day known : Int} : KB (forceF k l day known).1 := by
  obtain ⟨r1, r2, r3, r4⟩ := fold_rest ((seqA l).filter (counts day known)) (k, [])
  have hb := bounds_of (force_valid (day := day) (known := known) hl ⟨hk, hv⟩)
  obtain ⟨b1, b2, b3, b4, b5, b6⟩ := hB
  refine ⟨?_, ?_, ?_, ?_, by omega, fun i hi => Nat.le_trans (hb.2 i hi) (by decide)⟩
  · show (forceF k l day known).1.holders.length ≤ _; rw [show (forceF k l day known).1.holders = k.holders from r1]; exact b1
  · show (forceF k l day known).1.off.length ≤ _; rw [show (forceF k l day known).1.off = k.off from r4]; exact b2
  · show (forceF k l day known).1.units.length ≤ _; rw [show (forceF k l day known).1.units = k.units from r2]; exact b3
  · show (forceF k l day known).1.acts.length ≤ _; rw [show (forceF k l day known).1.acts = k.acts from r3]; exact b4
theorem KB_zero : KB zeroK := ⟨Nat.zero_le _, Nat.zero_le _, Nat.zero_le _, Nat.zero_le _, Nat.zero_le _, fun i hi => absurd hi (Nat.not_lt_zero _)⟩
theorem inForceR_KB {k : K} (hB : KB k) (hk : kW k) {l : List Am} (hn : l.length ≤ 60) (hl : ∀ a ∈ l, amW a) {day known : Int} : KB (inForceR k l day known).1.1 := by
  rw [inForceR_small hn]
  split
  · exact KB_zero
  · rename_i h
    exact force_KB hB hk (by simpa using h) hl
theorem inForceR_len (k : K) (l : List Am) (day known : Int) : (inForceR k l day known).1.2.length ≤ l.length := by
  unfold inForceR
  split
  · exact Nat.zero_le _
  · exact stI_len l k day known _
theorem sameR_self (k : K) : sameR k k = true := (sameR_iff k k).2 rfl
theorem ints_self (l : List Int) : listB intB l l = true := (listB_iff intB_iff).2 rfl
theorem filter_snoc {p : Am → Bool} {l : List Am} {i : Nat} (hi : i < l.length) : (l.take (i + 1)).filter p = if p (l.getD i default) = true then (l.take i).filter p ++ [l.getD i default] else (l.take i).filter p := by
  have e : l.getD i default = l[i] := by simp [List.getD, hi]
  rw [List.take_succ_eq_append_getElem hi, List.filter_append, e]
  by_cases h : p l[i] = true
  · rw [if_pos h, List.filter_cons_of_pos h]; rfl
  · rw [if_neg h, List.filter_cons_of_neg h, List.filter_nil, List.append_nil]
theorem ams_app (L : List Am) (x : Am) (h : Nat → List AV) (hx : h 0 = amC x) : ∀ j, j < L.length + 1 → amC ((L ++ [x]).getD j default) = catF L.length (fun i => amC (L.getD i default)) h j := by
  intro j hj
  unfold catF
  by_cases h1 : j < L.length
  · have : Nat.blt j L.length = true := by simpa using h1
    rw [this, cond_true]
    simp [List.getD, List.getElem?_append_left h1]
  · have : Nat.blt j L.length = false := by
      cases hb : Nat.blt j L.length with
      | false => rfl
      | true => simp at hb; exact absurd hb h1
    have e : j = L.length := by omega
    rw [this, cond_false, e, Nat.sub_self, hx]
    simp [List.getD]
end Go.Proofs.Ytofdehlikigonaa
end
