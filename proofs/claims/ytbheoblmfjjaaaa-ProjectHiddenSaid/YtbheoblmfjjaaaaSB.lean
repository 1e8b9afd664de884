import Derived.Test.YtbheoblmfjjaaaaSA
section
/- The law ProjectOwn. -/
namespace Go.Proofs.Ytbheoblmfjjaaaa
open Go.Eng
set_option maxRecDepth 10000
set_option linter.unusedSimpArgs false
set_option linter.unusedVariables false
def wiN (a b : List Int) : Nat → Nat
  | 0 => 0
  | n + 1 => if wiN a b n < a.length ∧ a.getD (wiN a b n) default = b.getD n default then wiN a b n + 1 else wiN a b n
theorem wiN_le (a b : List Int) : ∀ n, wiN a b n ≤ a.length
  | 0 => Nat.zero_le _
  | n + 1 => by
    have ih := wiN_le a b n
    rw [wiN]
    split
    · omega
    · exact ih
theorem wiN_full {a b : List Int} {n : Nat} (h : ¬ wiN a b n < a.length) : ∀ m, n ≤ m → wiN a b m = wiN a b n := by
  intro m hm
  induction m with
  | zero => obtain rfl : n = 0 := by omega
            rfl
  | succ m ih =>
    by_cases e : n = m + 1
    · subst e; rfl
    · have := ih (by omega)
      rw [wiN, this, if_neg (fun h2 => h h2.1)]
def withinB (a b : List Int) : Bool := wiN a b b.length == a.length
theorem within_ok (a b : List Int) : Does Try.prog 41 [intsV a, intsV b] (.c (.bool (withinB a b))) := by
  refine Does.mk (fun _ => false) TT_ok Try.func41 rfl (by kernel_rfl) Try.ntmps41 rfl rfl fun E hT hE hN hR => ?_
  have hm : E.P.follows .mixedOrders = true := by rw [hE]; kernel_rfl
  refine XK.fact (Sat.rs_len (j := 0) rfl) fun hlen => ?_
  have hma : a.length ≤ 9223372036854775807 := hlen.1
  refine XK.fact (Sat.rs_len (j := 1) rfl) fun hlen2 => ?_
  have hmb : b.length ≤ 9223372036854775807 := hlen2.1
  (repeat (first | refine XK.norm rfl rfl ?_ | refine XK.rgnA hT rfl rfl rfl ?_ | refine XK.rgnB hT hm rfl rfl rfl ?_))
  refine XK.loop (ι := Nat) (fun i => ST.of [(0, intsV a), (1, intsV b), (5, .c (.int .i64 (wiN a b i))), (6, .c (.int .i64 i))] [] 1000 34 (fun _ => false))
    (fun i => i ≤ b.length) (fun i => b.length - i) 0 (Nat.zero_le _)
    (Weak.of hN rfl rfl rfl (by (repeat' (first | exact rfl | exact AvIs.refl _ | exact trivial | exact fun _ _ => rfl | exact fun _ _ => ⟨rfl, AvIs.refl _⟩ | refine ⟨?_, ?_⟩))) (by (repeat' (first | exact rfl | exact AvIs.refl _ | exact trivial | exact fun _ _ => rfl | exact fun _ _ => ⟨rfl, AvIs.refl _⟩ | refine ⟨?_, ?_⟩)))) fun i hi => ?_
  have hw := wiN_le a b i
  (repeat (first | refine XK.norm rfl rfl ?_ | refine XK.rgnA hT rfl rfl rfl ?_ | refine XK.rgnB hT hm rfl rfl rfl ?_)); refine XK.cond rfl (fun h1 => ?_) (fun h1 => ?_)
  · have h1 : i < b.length ∧ wiN a b i < a.length := by simpa using h1
    have hs : wiN a b (i + 1) = if wiN a b i < a.length ∧ a.getD (wiN a b i) default = b.getD i default then wiN a b i + 1 else wiN a b i := rfl
    generalize wiN a b i = w at *
    have f1 : a.getD (w : Int).toNat default = a.getD w default := rfl
    have f2 : b.getD (i : Int).toNat default = b.getD i default := rfl
    obtain ⟨g1, g2⟩ := h1
    (repeat (first | refine XK.norm rfl rfl ?_ | refine XK.rgnA hT rfl rfl rfl ?_ | refine XK.rgnB hT hm rfl rfl rfl ?_))
    rw [f1, f2]
    (repeat (first | refine XK.norm rfl rfl ?_ | refine XK.rgnA hT rfl rfl rfl ?_ | refine XK.rgnB hT hm rfl rfl rfl ?_)); refine XK.cond rfl (fun h2 => ?_) (fun h2 => ?_)
    · have h2 : a.getD w default = b.getD i default := by simpa using h2
      rw [if_pos ⟨g2, h2⟩] at hs
      (repeat (first | refine XK.norm rfl rfl ?_ | refine XK.rgnA hT rfl rfl rfl ?_ | refine XK.rgnB hT hm rfl rfl rfl ?_))
      refine XK.inv ⟨i + 1, g1, ?_, by omega⟩
      rw [hs]
      exact (Weak.of hN rfl rfl rfl (by (repeat' (first | exact rfl | exact AvIs.refl _ | exact trivial | exact fun _ _ => rfl | exact fun _ _ => ⟨rfl, AvIs.refl _⟩ | refine ⟨?_, ?_⟩))) (by (repeat' (first | exact rfl | exact AvIs.refl _ | exact trivial | exact fun _ _ => rfl | exact fun _ _ => ⟨rfl, AvIs.refl _⟩ | refine ⟨?_, ?_⟩))))
    · have h2 : ¬ a.getD w default = b.getD i default := by simpa using h2
      rw [if_neg (fun h => h2 h.2)] at hs
      (repeat (first | refine XK.norm rfl rfl ?_ | refine XK.rgnA hT rfl rfl rfl ?_ | refine XK.rgnB hT hm rfl rfl rfl ?_))
      refine XK.inv ⟨i + 1, g1, ?_, by omega⟩
      rw [hs]
      exact (Weak.of hN rfl rfl rfl (by (repeat' (first | exact rfl | exact AvIs.refl _ | exact trivial | exact fun _ _ => rfl | exact fun _ _ => ⟨rfl, AvIs.refl _⟩ | refine ⟨?_, ?_⟩))) (by (repeat' (first | exact rfl | exact AvIs.refl _ | exact trivial | exact fun _ _ => rfl | exact fun _ _ => ⟨rfl, AvIs.refl _⟩ | refine ⟨?_, ?_⟩))))
  · have h1 : ¬ (i < b.length ∧ wiN a b i < a.length) := by simpa using h1
    (repeat (first | refine XK.norm rfl rfl ?_ | refine XK.rgnA hT rfl rfl rfl ?_ | refine XK.rgnB hT hm rfl rfl rfl ?_))
    (first | refine XK.out rfl rfl rfl ?_ | refine XK.outN rfl rfl rfl ?_)
    refine cB ?_
    unfold withinB
    by_cases h2 : wiN a b i < a.length
    · have : i = b.length := by omega
      subst this
      rw [Bool.eq_iff_iff, beq_iff_eq, beq_iff_eq]; omega
    · rw [wiN_full h2 b.length hi, Bool.eq_iff_iff, beq_iff_eq, beq_iff_eq]; omega
def cN (l : List Int) (z : Int) : Nat → Nat
  | 0 => 0
  | n + 1 => if l.getD n default = z then cN l z n + 1 else cN l z n
theorem cN_le (l : List Int) (z : Int) : ∀ n, cN l z n ≤ n
  | 0 => Nat.le_refl _
  | n + 1 => by
    have := cN_le l z n
    rw [cN]
    split <;> omega
theorem count_ok (l : List Int) (z : Int) : Does Try.prog 43 [intsV l, .c (.int .i64 z)] (.c (.int .i64 (cN l z l.length))) := by
  refine Does.mk (fun _ => false) TT_ok Try.func43 rfl (by kernel_rfl) Try.ntmps43 rfl rfl fun E hT hE hN hR => ?_
  have hm : E.P.follows .mixedOrders = true := by rw [hE]; kernel_rfl
  refine XK.fact (Sat.rs_len (j := 0) rfl) fun hlen => ?_
  have hma : l.length ≤ 9223372036854775807 := hlen.1
  (repeat (first | refine XK.norm rfl rfl ?_ | refine XK.rgnA hT rfl rfl rfl ?_ | refine XK.rgnB hT hm rfl rfl rfl ?_))
  refine XK.loop (ι := Nat) (fun i => ST.of [(0, intsV l), (1, .c (.int .i64 z)), (5, .c (.int .i64 (cN l z i))), (6, .c (.int .i64 i))] [] 1000 22 (fun _ => false))
    (fun i => i ≤ l.length) (fun i => l.length - i) 0 (Nat.zero_le _)
    (Weak.of hN rfl rfl rfl (by (repeat' (first | exact rfl | exact AvIs.refl _ | exact trivial | exact fun _ _ => rfl | exact fun _ _ => ⟨rfl, AvIs.refl _⟩ | refine ⟨?_, ?_⟩))) (by (repeat' (first | exact rfl | exact AvIs.refl _ | exact trivial | exact fun _ _ => rfl | exact fun _ _ => ⟨rfl, AvIs.refl _⟩ | refine ⟨?_, ?_⟩)))) fun i hi => ?_
  have hc := cN_le l z i
  (repeat (first | refine XK.norm rfl rfl ?_ | refine XK.rgnA hT rfl rfl rfl ?_ | refine XK.rgnB hT hm rfl rfl rfl ?_)); refine XK.cond rfl (fun h1 => ?_) (fun h1 => ?_) <;> (try simp at h1)
  · have hs : cN l z (i + 1) = if l.getD i default = z then cN l z i + 1 else cN l z i := rfl
    have f2 : l.getD (i : Int).toNat default = l.getD i default := rfl
    (repeat (first | refine XK.norm rfl rfl ?_ | refine XK.rgnA hT rfl rfl rfl ?_ | refine XK.rgnB hT hm rfl rfl rfl ?_))
    rw [f2]
    (repeat (first | refine XK.norm rfl rfl ?_ | refine XK.rgnA hT rfl rfl rfl ?_ | refine XK.rgnB hT hm rfl rfl rfl ?_)); refine XK.cond rfl (fun h2 => ?_) (fun h2 => ?_)
    · have h2 : l.getD i default = z := by simpa using h2
      rw [if_pos h2] at hs
      (repeat (first | refine XK.norm rfl rfl ?_ | refine XK.rgnA hT rfl rfl rfl ?_ | refine XK.rgnB hT hm rfl rfl rfl ?_))
      refine XK.inv ⟨i + 1, h1, ?_, by omega⟩
      rw [hs]
      exact (Weak.of hN rfl rfl rfl (by (repeat' (first | exact rfl | exact AvIs.refl _ | exact trivial | exact fun _ _ => rfl | exact fun _ _ => ⟨rfl, AvIs.refl _⟩ | refine ⟨?_, ?_⟩))) (by (repeat' (first | exact rfl | exact AvIs.refl _ | exact trivial | exact fun _ _ => rfl | exact fun _ _ => ⟨rfl, AvIs.refl _⟩ | refine ⟨?_, ?_⟩))))
    · have h2 : ¬ l.getD i default = z := by simpa using h2
      rw [if_neg h2] at hs
      (repeat (first | refine XK.norm rfl rfl ?_ | refine XK.rgnA hT rfl rfl rfl ?_ | refine XK.rgnB hT hm rfl rfl rfl ?_))
      refine XK.inv ⟨i + 1, h1, ?_, by omega⟩
      rw [hs]
      exact (Weak.of hN rfl rfl rfl (by (repeat' (first | exact rfl | exact AvIs.refl _ | exact trivial | exact fun _ _ => rfl | exact fun _ _ => ⟨rfl, AvIs.refl _⟩ | refine ⟨?_, ?_⟩))) (by (repeat' (first | exact rfl | exact AvIs.refl _ | exact trivial | exact fun _ _ => rfl | exact fun _ _ => ⟨rfl, AvIs.refl _⟩ | refine ⟨?_, ?_⟩))))
  · have : i = l.length := by omega
    subst this
    (repeat (first | refine XK.norm rfl rfl ?_ | refine XK.rgnA hT rfl rfl rfl ?_ | refine XK.rgnB hT hm rfl rfl rfl ?_))
    (first | refine XK.out rfl rfl rfl ?_ | refine XK.outN rfl rfl rfl ?_)
    rfl
/-- What a step adds to a view. -/
theorem pj_step {k : K} (hk : kW k) {ps l : List Int} {i : Nat} (h : (pjT k ps l (i + 1)).2.2 = 0) : (stepS k (pjT k ps l i).1 (l.getD i default)).2 = 0 ∧ (pjT k ps l (i + 1)).1 = (stepS k (pjT k ps l i).1 (l.getD i default)).1 ∧
    (pjT k ps l (i + 1)).2.1 = (if (l.getD i default == -1 || someB k ps (pjT k ps l i).1 (l.getD i default).toNat) = true then (pjT k ps l i).2.1 ++ [l.getD i default] else (pjT k ps l i).2.1) ∧
    validS k (pjT k ps l i).1 = true ∧ -1 ≤ l.getD i default ∧ l.getD i default < k.acts.length := by
  have h0 := pjT_err (Nat.le_succ i) h
  have e : pjT k ps l (i + 1) = pjF k ps (pjT k ps l i) (l.getD i default) := by rw [pjT, if_neg (by simpa using h0)]
  rw [e] at h ⊢
  have hq : (stepS k (pjT k ps l i).1 (l.getD i default)).2 = 0 := by
    apply Classical.byContradiction
    intro h2
    unfold pjF at h
    rw [if_pos h2] at h
    exact h2 h
  have hg := (stepS_go hk hq).1
  unfold pjF
  rw [if_neg (by simpa using hq)]
  exact ⟨hq, rfl, rfl, hg.1, hg.2.1, hg.2.2⟩
theorem wiN_view {k : K} {ps l : List Int} {n : Nat} (hn : (pjT k ps l n).2.2 = 0) (hk : kW k) : ∀ i, i ≤ n → (pjT k ps l i).2.1.length ≤ wiN (pjT k ps l n).2.1 l i
  | 0, _ => Nat.zero_le _
  | i + 1, hi => by
    have ih := wiN_view hn hk i (by omega)
    obtain ⟨_, _, hr, _⟩ := pj_step hk (pjT_err hi hn)
    obtain ⟨x, hx⟩ := pjT_pre (k := k) (ps := ps) (l := l) hi
    rw [wiN]
    by_cases hc : (l.getD i default == -1 || someB k ps (pjT k ps l i).1 (l.getD i default).toNat) = true
    · rw [if_pos hc] at hr
      have hlen : (pjT k ps l (i + 1)).2.1.length = (pjT k ps l i).2.1.length + 1 := by rw [hr]; simp
      rw [hlen]
      by_cases hlt : (pjT k ps l i).2.1.length < wiN (pjT k ps l n).2.1 l i
      · split <;> omega
      · have he : wiN (pjT k ps l n).2.1 l i = (pjT k ps l i).2.1.length := by omega
        rw [he, if_pos]
        · omega
        · rw [hx, hr]
          refine ⟨by simp, ?_⟩
          simp [List.getD]
    · rw [if_neg hc] at hr
      rw [hr]
      split <;> omega
theorem cN_app {l x : List Int} {z : Int} : ∀ n, n ≤ l.length → cN (l ++ x) z n = cN l z n
  | 0, _ => rfl
  | n + 1, h => by
    have : (l ++ x).getD n default = l.getD n default := by simp [List.getD, List.getElem?_append_left (show n < l.length from h)]
    rw [cN, cN, this, cN_app n (by omega)]
theorem cN_view {k : K} {ps l : List Int} {n : Nat} (hn : (pjT k ps l n).2.2 = 0) (hk : kW k) : ∀ i, i ≤ n → cN (pjT k ps l i).2.1 (-1) (pjT k ps l i).2.1.length = cN l (-1) i
  | 0, _ => rfl
  | i + 1, hi => by
    have ih := cN_view hn hk i (by omega)
    obtain ⟨_, _, hr, _⟩ := pj_step hk (pjT_err hi hn)
    rw [cN, hr]
    split
    · rw [List.length_append, List.length_singleton, cN, cN_app _ (Nat.le_refl _), ih]
      have : ((pjT k ps l i).2.1 ++ [l.getD i default]).getD (pjT k ps l i).2.1.length default = l.getD i default := by simp [List.getD]
      rw [this]
    · rename_i hc
      rw [ih, if_neg]
      intro h
      rw [h] at hc
      simp at hc
/-- What a party does it sees. -/
theorem own_seen {k : K} {hold : Nat → Int} {p : Int} {a : Nat} (hp : 0 ≤ p) (h : doerW k hold a = p) : seesB k hold p a = true := by
  unfold doerW at h
  unfold seesB
  split
  · rfl
  · split at h
    · omega
    · rename_i h2
      simp [h2, h]
theorem lawPO (k : K) (hk : kW k) (l : List Int) (p : Int) : Does Try.prog 12 [kV k, intsV l, .c (.int .i64 p)] (.c (.bool true)) := by
  refine Does.mk (fun _ => false) TT_ok Try.func12 rfl (by kernel_rfl) Try.ntmps12 rfl rfl fun E hT hE hN hR => ?_
  have hm : E.P.follows .mixedOrders = true := by rw [hE]; kernel_rfl
  refine XK.fact (Sat.rs_len (j := 1) rfl) fun hlen => ?_
  have hm1 : l.length ≤ 9223372036854775807 := hlen.1
  (repeat (first | refine XK.norm rfl rfl ?_ | refine XK.rgnA hT rfl rfl rfl ?_ | refine XK.rgnB hT hm rfl rfl rfl ?_)); refine XK.region ?_; refine XL.goA hT rfl rfl rfl rfl ?_
  refine XL.callLA hE rfl rfl rfl rfl trivial rfl (head36_ok) rfl ?_
  refine XL.goA hT rfl rfl rfl rfl ?_; refine XL.fin ?_; (repeat (first | refine XK.norm rfl rfl ?_ | refine XK.rgnA hT rfl rfl rfl ?_ | refine XK.rgnB hT hm rfl rfl rfl ?_))
  (repeat (first | refine XK.norm rfl rfl ?_ | refine XK.rgnA hT rfl rfl rfl ?_ | refine XK.rgnB hT hm rfl rfl rfl ?_)); refine XK.region ?_; refine XL.goA hT rfl rfl rfl rfl ?_
  refine XL.callLA hE rfl rfl rfl rfl trivial rfl (smallQ_ok k 40) rfl ?_
  refine XL.goA hT rfl rfl rfl rfl ?_; refine XL.fin ?_; (repeat (first | refine XK.norm rfl rfl ?_ | refine XK.rgnA hT rfl rfl rfl ?_ | refine XK.rgnB hT hm rfl rfl rfl ?_))
  (repeat (first | refine XK.norm rfl rfl ?_ | refine XK.rgnA hT rfl rfl rfl ?_ | refine XK.rgnB hT hm rfl rfl rfl ?_)); refine XK.cond rfl (fun h0 => ?_) (fun h0 => ?_) <;> (try simp at h0)
  · (repeat (first | refine XK.norm rfl rfl ?_ | refine XK.rgnA hT rfl rfl rfl ?_ | refine XK.rgnB hT hm rfl rfl rfl ?_))
    (first | refine XK.out rfl rfl rfl ?_ | refine XK.outN rfl rfl rfl ?_)
    rfl
  · have d1 := view_ok k hk l p
    have hz := fun h => jointR_zero (k := k) (l := l) (ps := [p]) h
    have hnz : (jointR k l [p]).2 ≠ 0 → (jointR k l [p]).1 = [] := by
      intro h
      unfold jointR at h ⊢
      split
      · rfl
      · rename_i h1
        rw [if_neg h1] at h
        split
        · rfl
        · rename_i h2
          rw [if_neg h2] at h
          split
          · rfl
          · rename_i h3
            rw [if_neg h3] at h
            unfold seenR at h ⊢
            split
            · rename_i h4
              rw [if_pos h4] at h
              exact absurd rfl h
            · rfl
    generalize jointR k l [p] = v at *
    (repeat (first | refine XK.norm rfl rfl ?_ | refine XK.rgnA hT rfl rfl rfl ?_ | refine XK.rgnB hT hm rfl rfl rfl ?_)); refine XK.region ?_; refine XL.goA hT rfl rfl rfl rfl ?_
    refine XL.callKA hE rfl rfl rfl rfl trivial rfl rfl (d1) ?_
    refine XL.goA hT rfl rfl rfl rfl ?_; refine XL.fin ?_; (repeat (first | refine XK.norm rfl rfl ?_ | refine XK.rgnA hT rfl rfl rfl ?_ | refine XK.rgnB hT hm rfl rfl rfl ?_))
    (repeat (first | refine XK.norm rfl rfl ?_ | refine XK.rgnA hT rfl rfl rfl ?_ | refine XK.rgnB hT hm rfl rfl rfl ?_)); refine XK.cond rfl (fun h1 => ?_) (fun h1 => ?_) <;> (try simp at h1)
    · (repeat (first | refine XK.norm rfl rfl ?_ | refine XK.rgnA hT rfl rfl rfl ?_ | refine XK.rgnB hT hm rfl rfl rfl ?_))
      (first | refine XK.out rfl rfl rfl ?_ | refine XK.outN rfl rfl rfl ?_)
      rw [hnz h1]
      rfl
    · obtain ⟨z1, z2, z3, z4, z5⟩ := hz h1
      have hp : 0 ≤ p ∧ p < k.parties := by
        simp [badPs, strB] at z2
        omega
      (repeat (first | refine XK.norm rfl rfl ?_ | refine XK.rgnA hT rfl rfl rfl ?_ | refine XK.rgnB hT hm rfl rfl rfl ?_)); refine XK.region ?_; refine XL.goA hT rfl rfl rfl rfl ?_
      refine XL.callKA hE rfl rfl rfl rfl trivial rfl rfl (startS_ok k hk) ?_
      refine XL.goA hT rfl rfl rfl rfl ?_; refine XL.fin ?_; (repeat (first | refine XK.norm rfl rfl ?_ | refine XK.rgnA hT rfl rfl rfl ?_ | refine XK.rgnB hT hm rfl rfl rfl ?_))
      refine XK.loop (ι := Nat) (fun i => ST.of [(1, intsV l), (2, .c (.int .i64 p)), (3, .ptr 3 0), (7, .c (.bool true)), (8, intsV v.1), (10, .ptr 750 0), (11, .c (.int .i64 0)), (12, .c (.int .i64 (pjT k [p] l i).2.1.length)), (13, .c (.int .i64 i))]
          [(3, .cells 54 (kC k)), (750, .cells 57 (stC (pjT k [p] l i).1))] 2000 148 (fun _ => false))
        (fun i => i ≤ l.length) (fun i => l.length - i) 0 (Nat.zero_le _)
        (Weak.of hN rfl rfl rfl ⟨AvIs.refl _, rfl, rfl, rfl, AvIs.refl _, rfl, cI z1, rfl, rfl⟩ (by (repeat' (first | exact rfl | exact AvIs.refl _ | exact trivial | exact fun _ _ => rfl | exact fun _ _ => ⟨rfl, AvIs.refl _⟩ | refine ⟨?_, ?_⟩)))) fun i hi => ?_
      (repeat (first | refine XK.norm rfl rfl ?_ | refine XK.rgnA hT rfl rfl rfl ?_ | refine XK.rgnB hT hm rfl rfl rfl ?_)); refine XK.cond rfl (fun hb => ?_) (fun hb => ?_)
      · have hlt : i < l.length := by simpa using hb
        obtain ⟨s1, s2, s3, s4, s5, s6⟩ := pj_step hk (ps := [p]) (l := l) (i := i) (pjT_err hlt z4)
        obtain ⟨x, hx⟩ := pjT_pre (k := k) (ps := [p]) (l := l) (i := i + 1) (j := l.length) hlt
        have hle := pjT_len k [p] l i
        have f1 : l.getD (i : Int).toNat default = l.getD i default := rfl
        have d3 := doerS_ok k hk (pjT k [p] l i).1 (l.getD i default)
        have d4 := sees2_ok k hk (pjT k [p] l i).1 p (l.getD i default)
        have d5 := stepS_ok k hk (pjT k [p] l i).1 (l.getD i default)
        rw [← z5] at hx
        generalize h2 : pjT k [p] l (i + 1) = t2 at *
        generalize h3 : pjT k [p] l i = t1 at *
        generalize l.getD i default = z at *
        obtain ⟨s, r, e⟩ := t1
        dsimp only at *
        have hl := validS_len s4
        have hF := (show kOk k from ⟨hk, hl.1⟩).facts
        have hsee : z ≠ -1 → SeesR k s p z = seesB k s.wk.hold p z.toNat := fun hz => by
          simp only [SeesR, s4, Bool.true_and]
          rw [decide_eq_true hp.1, decide_eq_true hp.2, decide_eq_true (by omega), decide_eq_true s6]
          rfl
        have hown : z ≠ -1 → doerS k s z = p → SeesR k s p z = true := fun hz h => by
          rw [hsee hz]
          unfold doerS at h
          rw [if_neg (by simp [s4]; omega)] at h
          exact own_seen hp.1 h
        have hsm : z ≠ -1 → someB k [p] s z.toNat = SeesR k s p z := fun hz => by
          rw [hsee hz]; simp [someB]
        generalize SeesR k s p z = sv at *
        generalize doerS k s z = dv at *
        have hsn : (z == -1 || someB k [p] s z.toNat) = (z == -1 || sv) := by
          by_cases hz : z = -1
          · simp [hz]
          · rw [hsm hz]
        rw [hsn] at s3
        have hvr : (z == -1 || sv) = true → r.length < v.1.length ∧ v.1.getD r.length default = z := fun h => by
          rw [if_pos h] at s3
          rw [hx, s3]
          refine ⟨by simp, ?_⟩
          simp [List.getD]
        (repeat (first | refine XK.norm rfl rfl ?_ | refine XK.rgnA hT rfl rfl rfl ?_ | refine XK.rgnB hT hm rfl rfl rfl ?_)); refine XK.drawn hm ?_; refine XD.goA hT rfl rfl rfl rfl ?_
        rw [f1]
        refine XD.callGA hE rfl rfl rfl rfl rfl rfl rfl rfl rfl (d3) rfl ?_
        refine XD.goA hT rfl rfl rfl rfl ?_; refine XD.fin (by kernel_rfl) ?_; (repeat (first | refine XK.norm rfl rfl ?_ | refine XK.rgnA hT rfl rfl rfl ?_ | refine XK.rgnB hT hm rfl rfl rfl ?_))
        (repeat (first | refine XK.norm rfl rfl ?_ | refine XK.rgnA hT rfl rfl rfl ?_ | refine XK.rgnB hT hm rfl rfl rfl ?_)); refine XK.drawn hm ?_; refine XD.goA hT rfl rfl rfl rfl ?_
        rw [f1]
        refine XD.callGA hE rfl rfl rfl rfl rfl rfl rfl rfl rfl (d4) rfl ?_
        refine XD.goA hT rfl rfl rfl rfl ?_; refine XD.fin (by kernel_rfl) ?_; (repeat (first | refine XK.norm rfl rfl ?_ | refine XK.rgnA hT rfl rfl rfl ?_ | refine XK.rgnB hT hm rfl rfl rfl ?_))
        have fv : v.1.getD (r.length : Int).toNat default = v.1.getD r.length default := rfl
        (repeat (first | refine XK.norm rfl rfl ?_ | refine XK.rgnA hT rfl rfl rfl ?_ | refine XK.rgnB hT hm rfl rfl rfl ?_)); refine XK.cond rfl (fun h6 => ?_) (fun h6 => ?_)
        · exfalso
          clear d1 d3 d4 d5
          rw [fv, f1] at h6
          by_cases hz2 : (z == -1 || sv) = true
          · obtain ⟨g1, g2⟩ := hvr hz2
            rw [hz2, g2] at h6
            simp at h6
            omega
          · have hz3 : (z == -1 || sv) = false := by simpa using hz2
            rw [hz3] at h6
            simp only [Bool.or_eq_false_iff, beq_eq_false_iff_ne, ne_eq] at hz3
            have h7 : dv = p := by simpa [hz3.1] using h6
            have := hown hz3.1 h7
            rw [hz3.2] at this
            exact absurd this (by simp)
        · clear d1 d3 d4
          generalize stepS k s z = q at *
          (repeat (first | refine XK.norm rfl rfl ?_ | refine XK.rgnA hT rfl rfl rfl ?_ | refine XK.rgnB hT hm rfl rfl rfl ?_)); refine XK.cond rfl (fun h7 => ?_) (fun h7 => ?_)
          · have h7 : (z == -1 || sv) = true := h7
            rw [if_pos h7] at s3
            (repeat (first | refine XK.norm rfl rfl ?_ | refine XK.rgnA hT rfl rfl rfl ?_ | refine XK.rgnB hT hm rfl rfl rfl ?_))
            (repeat (first | refine XK.norm rfl rfl ?_ | refine XK.rgnA hT rfl rfl rfl ?_ | refine XK.rgnB hT hm rfl rfl rfl ?_)); refine XK.drawn hm ?_; refine XD.goA hT rfl rfl rfl rfl ?_
            rw [f1]
            refine XD.callKA hE rfl rfl rfl rfl trivial rfl rfl (d5) ?_
            refine XD.goA hT rfl rfl rfl rfl ?_; refine XD.fin (by kernel_rfl) ?_; (repeat (first | refine XK.norm rfl rfl ?_ | refine XK.rgnA hT rfl rfl rfl ?_ | refine XK.rgnB hT hm rfl rfl rfl ?_))
            refine XK.inv ⟨i + 1, hlt, ?_, by omega⟩
            rw [h2, s2, s3, List.length_append, List.length_singleton]
            exact Weak.of hN rfl rfl rfl ⟨AvIs.refl _, rfl, rfl, rfl, AvIs.refl _, rfl, cI s1, cI (by omega), rfl⟩ (by (repeat' (first | exact rfl | exact AvIs.refl _ | exact trivial | exact fun _ _ => rfl | exact fun _ _ => ⟨rfl, AvIs.refl _⟩ | refine ⟨?_, ?_⟩)))
          · have h7 : ¬ (z == -1 || sv) = true := by simpa using h7
            rw [if_neg h7] at s3
            (repeat (first | refine XK.norm rfl rfl ?_ | refine XK.rgnA hT rfl rfl rfl ?_ | refine XK.rgnB hT hm rfl rfl rfl ?_))
            (repeat (first | refine XK.norm rfl rfl ?_ | refine XK.rgnA hT rfl rfl rfl ?_ | refine XK.rgnB hT hm rfl rfl rfl ?_)); refine XK.drawn hm ?_; refine XD.goA hT rfl rfl rfl rfl ?_
            rw [f1]
            refine XD.callKA hE rfl rfl rfl rfl trivial rfl rfl (d5) ?_
            refine XD.goA hT rfl rfl rfl rfl ?_; refine XD.fin (by kernel_rfl) ?_; (repeat (first | refine XK.norm rfl rfl ?_ | refine XK.rgnA hT rfl rfl rfl ?_ | refine XK.rgnB hT hm rfl rfl rfl ?_))
            refine XK.inv ⟨i + 1, hlt, ?_, by omega⟩
            rw [h2, s2, s3]
            exact Weak.of hN rfl rfl rfl ⟨AvIs.refl _, rfl, rfl, rfl, AvIs.refl _, rfl, cI s1, rfl, rfl⟩ (by (repeat' (first | exact rfl | exact AvIs.refl _ | exact trivial | exact fun _ _ => rfl | exact fun _ _ => ⟨rfl, AvIs.refl _⟩ | refine ⟨?_, ?_⟩)))
      · have hle : i = l.length := by simp at hb; omega
        subst hle
        clear d1
        have w1 := within_ok v.1 l
        have w2 := count_ok v.1 (-1)
        have w3 := count_ok l (-1)
        have a1 : (pjT k [p] l l.length).2.1.length = v.1.length := by rw [z5]
        have a2 := wiN_view (ps := [p]) z4 hk l.length (Nat.le_refl _)
        have a3 := cN_view (ps := [p]) z4 hk l.length (Nat.le_refl _)
        rw [← z5] at a2 a3
        have a4 := wiN_le v.1 l l.length
        rw [a1]
        (repeat (first | refine XK.norm rfl rfl ?_ | refine XK.rgnA hT rfl rfl rfl ?_ | refine XK.rgnB hT hm rfl rfl rfl ?_))
        (repeat (first | refine XK.norm rfl rfl ?_ | refine XK.rgnA hT rfl rfl rfl ?_ | refine XK.rgnB hT hm rfl rfl rfl ?_)); refine XK.region ?_; refine XL.goA hT rfl rfl rfl rfl ?_
        refine XL.callGA hE rfl rfl rfl rfl rfl rfl rfl rfl (w1) rfl ?_
        refine XL.goA hT rfl rfl rfl rfl ?_
        refine XL.callGA hE rfl rfl rfl rfl rfl rfl rfl rfl (w2) rfl ?_
        refine XL.goA hT rfl rfl rfl rfl ?_
        refine XL.callGA hE rfl rfl rfl rfl rfl rfl rfl rfl (w3) rfl ?_
        refine XL.goA hT rfl rfl rfl rfl ?_; refine XL.fin ?_; (repeat (first | refine XK.norm rfl rfl ?_ | refine XK.rgnA hT rfl rfl rfl ?_ | refine XK.rgnB hT hm rfl rfl rfl ?_))
        (first | refine XK.out rfl rfl rfl ?_ | refine XK.outN rfl rfl rfl ?_)
        refine cB ?_
        unfold withinB
        have a5 : wiN v.1 l l.length = v.1.length := by omega
        rw [a3, a5]
        simp
end Go.Proofs.Ytbheoblmfjjaaaa
end
section
/- The law ProjectAll. -/
namespace Go.Proofs.Ytbheoblmfjjaaaa
open Go.Eng
set_option maxRecDepth 10000
set_option linter.unusedSimpArgs false
set_option linter.unusedVariables false
/-- The greedy match finds every part that is left of a list. -/
theorem wiN_sub {a b : List Int} : ∀ n m, m ≤ a.length → n ≤ b.length → (a.take m).Sublist (b.take n) → m ≤ wiN a b n
  | 0, m, hm, _, h => by
    rw [List.take_zero, List.sublist_nil, List.take_eq_nil_iff] at h
    rcases h with h | h
    · omega
    · subst h; simp at hm; omega
  | n + 1, m, hm, hn, h => by
    have e : b.take (n + 1) = b.take n ++ [b.getD n default] := by
      rw [List.take_add_one, List.getElem?_eq_getElem (by omega)]
      simp [List.getD, List.getElem?_eq_getElem (show n < b.length by omega)]
    rw [e, List.sublist_append_iff] at h
    obtain ⟨l1, l2, h1, h2, h3⟩ := h
    have hle : wiN a b n ≤ wiN a b (n + 1) := by
      rw [wiN]; split <;> omega
    rcases List.sublist_cons_iff.1 h3 with h4 | ⟨r, h4, h5⟩
    · rw [List.sublist_nil] at h4
      subst h4
      rw [List.append_nil] at h1
      rw [← h1] at h2
      exact Nat.le_trans (wiN_sub n m hm (by omega) h2) hle
    · rw [List.sublist_nil] at h5
      subst h5
      subst h4
      have hlen := congrArg List.length h1
      rw [List.length_take, List.length_append, List.length_singleton] at hlen
      obtain ⟨m', rfl⟩ : ∃ m', m = m' + 1 := ⟨l1.length, by omega⟩
      have hl1 : l1.length = m' := by omega
      have e1 : a.take m' = l1 := by
        have := congrArg (List.take m') h1
        rw [List.take_take, Nat.min_eq_left (by omega), List.take_left' hl1] at this
        exact this
      have e2 : a.getD m' default = b.getD n default := by
        have := congrArg (fun l : List Int => l.getD m' default) h1
        rw [take_getD (show m' < m' + 1 by omega)] at this
        rw [this, ← hl1]
        simp [List.getD]
      have ih := wiN_sub (a := a) (b := b) n m' (by omega) (by omega) (by rw [e1]; exact h2)
      by_cases hq : m' = wiN a b n
      · rw [wiN, if_pos ⟨by omega, by rw [← hq]; exact e2⟩]; omega
      · omega
theorem within_sub {a b : List Int} (h : a.Sublist b) : withinB a b = true := by
  have h1 := wiN_sub (a := a) (b := b) b.length a.length (Nat.le_refl _) (Nat.le_refl _) (by rw [List.take_length, List.take_length]; exact h)
  have h2 := wiN_le a b b.length
  unfold withinB
  simp; omega
/-- States and faults are the same for all parties. -/
theorem pjT_same (k : K) (ps qs l : List Int) : ∀ i, (pjT k ps l i).1 = (pjT k qs l i).1 ∧ (pjT k ps l i).2.2 = (pjT k qs l i).2.2
  | 0 => ⟨rfl, rfl⟩
  | i + 1 => by
    obtain ⟨h1, h2⟩ := pjT_same k ps qs l i
    rw [pjT, pjT, h2]
    split
    · exact ⟨h1, h2⟩
    · unfold pjF
      rw [h1]
      split <;> exact ⟨rfl, rfl⟩
theorem pj_sub {k : K} (hk : kW k) {p : Int} {ps l : List Int} (hp : p ∈ ps) : ∀ i, (pjT k ps l i).2.2 = 0 → ((pjT k [p] l i).2.1).Sublist (pjT k ps l i).2.1
  | 0, _ => List.Sublist.refl _
  | i + 1, h => by
    have ih := pj_sub hk hp i (pjT_err (Nat.le_succ i) h)
    obtain ⟨_, _, h3, _⟩ := pj_step hk h
    obtain ⟨_, _, g3, _⟩ := pj_step (ps := [p]) hk (i := i) (l := l) (by rw [(pjT_same k [p] ps l (i + 1)).2]; exact h)
    rw [(pjT_same k [p] ps l i).1] at g3
    rw [h3, g3]
    by_cases hc : (l.getD i default == -1 || someB k [p] (pjT k ps l i).1 (l.getD i default).toNat) = true
    · have : (l.getD i default == -1 || someB k ps (pjT k ps l i).1 (l.getD i default).toNat) = true := by
        rw [Bool.or_eq_true] at hc ⊢
        rcases hc with hc | hc
        · exact Or.inl hc
        · right
          unfold someB at hc ⊢
          rw [List.any_eq_true] at hc ⊢
          obtain ⟨x, hx, hx2⟩ := hc
          rw [List.mem_singleton] at hx
          exact ⟨p, hp, by rw [← hx]; exact hx2⟩
      rw [if_pos hc, if_pos this]
      exact List.Sublist.append ih (List.Sublist.refl _)
    · rw [if_neg hc]
      split
      · exact List.Sublist.trans ih (List.sublist_append_left _ _)
      · exact ih
theorem pj_subl {k : K} (hk : kW k) {ps l : List Int} : ∀ i, i ≤ l.length → (pjT k ps l i).2.2 = 0 → ((pjT k ps l i).2.1).Sublist (l.take i)
  | 0, _, _ => List.nil_sublist _
  | i + 1, hi, h => by
    have ih := pj_subl hk i (by omega) (pjT_err (Nat.le_succ i) h)
    obtain ⟨_, _, h3, _⟩ := pj_step hk h
    have e : l.take (i + 1) = l.take i ++ [l.getD i default] := by
      rw [List.take_add_one, List.getElem?_eq_getElem (by omega)]
      simp [List.getD, List.getElem?_eq_getElem (show i < l.length by omega)]
    rw [h3, e]
    split
    · exact List.Sublist.append ih (List.Sublist.refl _)
    · exact List.Sublist.trans ih (List.sublist_append_left _ _)
def allL (n : Nat) : List Int := (List.range n).map (fun i : Nat => (i : Int))
theorem allL_len (n : Nat) : (allL n).length = n := by simp [allL]
theorem allL_getD {n i : Nat} (h : i < n) : (allL n).getD i default = i := by simp [allL, List.getD, h]
theorem allL_mem {n : Nat} {p : Int} (h1 : 0 ≤ p) (h2 : p < n) : p ∈ allL n := by
  unfold allL
  rw [List.mem_map]
  exact ⟨p.toNat, List.mem_range.2 (by omega), by omega⟩
/-- Every act is seen by someone. -/
theorem some_all {k : K} {s : St} (hk : kW k) (hp : 0 < k.parties) (hs : validS k s = true) {a : Nat} (ha : a < k.acts.length) : someB k (allL k.parties.toNat) s a = true := by
  have hl := validS_len hs
  have hF := (show kOk k from ⟨hk, hl.1⟩).facts
  have hx := actF (hF.act a ha)
  have hg := fun i h => hl.2.2.2.2.2.1 i h
  have lh := hl.2.1
  unfold someB
  rw [List.any_eq_true]
  unfold seesB
  generalize acAt k a = x at *
  by_cases h1 : x.kind = 1 ∧ x.to ≠ -1
  · have h2 := hg x.to.toNat (by omega)
    have fh : s.wk.hold x.to.toNat = s.holders.getD x.to.toNat default := rfl
    exact ⟨s.wk.hold x.to.toNat, allL_mem (by omega) (by omega), by simp⟩
  · exact ⟨0, allL_mem (by omega) (by omega), by rw [if_pos]; simp; omega⟩
theorem all_trace {k : K} (hk : kW k) (hp : 0 < k.parties) {l : List Int} : ∀ i, i ≤ l.length → (pjT k (allL k.parties.toNat) l i).2.2 = 0 → (pjT k (allL k.parties.toNat) l i).2.1 = l.take i
  | 0, _, _ => rfl
  | i + 1, hi, h => by
    have ih := all_trace hk hp i (by omega) (pjT_err (Nat.le_succ i) h)
    obtain ⟨_, _, h3, h4, h5, h6⟩ := pj_step hk h
    have e : l.take (i + 1) = l.take i ++ [l.getD i default] := by
      rw [List.take_add_one, List.getElem?_eq_getElem (by omega)]
      simp [List.getD, List.getElem?_eq_getElem (show i < l.length by omega)]
    rw [h3, e, ih, if_pos]
    by_cases hz : l.getD i default = -1
    · rw [hz]; rfl
    · rw [Bool.or_eq_true]
      exact Or.inr (some_all hk hp h4 (by omega))
theorem jointR_nz {k : K} {l ps : List Int} (h : (jointR k l ps).2 ≠ 0) : (jointR k l ps).1 = [] := by
  unfold jointR at h ⊢
  split
  · rfl
  · rename_i h1
    rw [if_neg h1] at h
    split
    · rfl
    · rename_i h2
      rw [if_neg h2] at h
      split
      · rfl
      · rename_i h3
        rw [if_neg h3] at h
        unfold seenR at h ⊢
        split
        · rename_i h4
          rw [if_pos h4] at h
          exact absurd rfl h
        · rfl
theorem catF_nat (h : Nat → List AV) {i : Nat} (hx : h 0 = [.c (.int .i64 i)]) : ∀ j, j < i + 1 → [AV.c (.int .i64 (j : Nat))] = catF i (fun j => [AV.c (.int .i64 (j : Nat))]) h j := by
  intro j hj
  unfold catF
  by_cases h1 : j < i
  · have : Nat.blt j i = true := by simpa using h1
    rw [this, cond_true]
  · have : Nat.blt j i = false := by
      cases hb : Nat.blt j i with
      | false => rfl
      | true => simp at hb; exact absurd hb h1
    have e : j = i := by omega
    rw [this, cond_false, e, Nat.sub_self, hx]
theorem lawPA (k : K) (hk : kW k) (l ps : List Int) : Does Try.prog 10 [kV k, intsV l, intsV ps] (.c (.bool true)) := by
  refine Does.mk (fun _ => false) TT_ok Try.func10 rfl (by kernel_rfl) Try.ntmps10 rfl rfl fun E hT hE hN hR => ?_
  have hm : E.P.follows .mixedOrders = true := by rw [hE]; kernel_rfl
  refine XK.fact (Sat.rs_len (j := 1) rfl) fun hlen => ?_
  have hm1 : l.length ≤ 9223372036854775807 := hlen.1
  refine XK.fact (Sat.rs_len (j := 2) rfl) fun hlen2 => ?_
  have hm2 : ps.length ≤ 9223372036854775807 := hlen2.1
  (repeat (first | refine XK.norm rfl rfl ?_ | refine XK.rgnA hT rfl rfl rfl ?_ | refine XK.rgnB hT hm rfl rfl rfl ?_)); refine XK.region ?_; refine XL.goA hT rfl rfl rfl rfl ?_
  refine XL.callLA hE rfl rfl rfl rfl trivial rfl (head36_ok) rfl ?_
  refine XL.goA hT rfl rfl rfl rfl ?_; refine XL.fin ?_; (repeat (first | refine XK.norm rfl rfl ?_ | refine XK.rgnA hT rfl rfl rfl ?_ | refine XK.rgnB hT hm rfl rfl rfl ?_))
  (repeat (first | refine XK.norm rfl rfl ?_ | refine XK.rgnA hT rfl rfl rfl ?_ | refine XK.rgnB hT hm rfl rfl rfl ?_)); refine XK.region ?_; refine XL.goA hT rfl rfl rfl rfl ?_
  refine XL.callLA hE rfl rfl rfl rfl trivial rfl (smallQ_ok k 40) rfl ?_
  refine XL.goA hT rfl rfl rfl rfl ?_; refine XL.fin ?_; (repeat (first | refine XK.norm rfl rfl ?_ | refine XK.rgnA hT rfl rfl rfl ?_ | refine XK.rgnB hT hm rfl rfl rfl ?_))
  (repeat (first | refine XK.norm rfl rfl ?_ | refine XK.rgnA hT rfl rfl rfl ?_ | refine XK.rgnB hT hm rfl rfl rfl ?_)); refine XK.cond rfl (fun h0 => ?_) (fun h0 => ?_)
  · (repeat (first | refine XK.norm rfl rfl ?_ | refine XK.rgnA hT rfl rfl rfl ?_ | refine XK.rgnB hT hm rfl rfl rfl ?_))
    (first | refine XK.out rfl rfl rfl ?_ | refine XK.outN rfl rfl rfl ?_)
    rfl
  · have h0 : ((smallQ k 40 = true ∧ (l.length : Int) ≤ 60) ∧ (ps.length : Int) ≤ 12) ∧ k.parties ≤ 12 := by simpa using h0
    obtain ⟨⟨⟨_, hl60⟩, hp12⟩, hk12⟩ := h0
    (repeat (first | refine XK.norm rfl rfl ?_ | refine XK.rgnA hT rfl rfl rfl ?_ | refine XK.rgnB hT hm rfl rfl rfl ?_))
    generalize hP : k.parties.toNat = P at *
    refine XK.loop (ι := Nat) (fun i => ST.of [(1, intsV l), (2, intsV ps), (3, .ptr 3 0), (7, .c (.bool true)), (8, .vec 700 0), (9, .c (.int .i64 i))]
        [(3, .cells 54 (kC k)), (700, .vec 3 1 0 i (fun j => [.c (.int .i64 j)]))] 1000 139 (fun _ => false))
      (fun i => i ≤ P) (fun i => P - i) 0 (Nat.zero_le _)
      (Weak.trans (Weak.ghost (j := 8) (k := 700) (e := 3) (sz := 1) (f := fun j => [.c (.int .i64 j)]) rfl rfl) (Weak.of hN rfl rfl rfl (by (repeat' (first | exact rfl | exact AvIs.refl _ | exact trivial | exact fun _ _ => rfl | exact fun _ _ => ⟨rfl, AvIs.refl _⟩ | refine ⟨?_, ?_⟩))) ⟨by (repeat' (first | exact rfl | exact AvIs.refl _ | exact trivial | exact fun _ _ => rfl | exact fun _ _ => ⟨rfl, AvIs.refl _⟩ | refine ⟨?_, ?_⟩)), ⟨rfl, rfl, rfl⟩, rfl, fun j hj => rfl⟩)) fun i hi => ?_
    (repeat (first | refine XK.norm rfl rfl ?_ | refine XK.rgnA hT rfl rfl rfl ?_ | refine XK.rgnB hT hm rfl rfl rfl ?_)); refine XK.cond rfl (fun h1 => ?_) (fun h1 => ?_) <;> (try simp at h1)
    · (repeat (first | refine XK.norm rfl rfl ?_ | refine XK.rgnA hT rfl rfl rfl ?_ | refine XK.rgnB hT hm rfl rfl rfl ?_))
      refine XK.inv ⟨i + 1, by omega, Weak.trans (Weak.stamp (k := 700) (t := 0) hN rfl rfl) (Weak.of hN rfl rfl rfl (by (repeat' (first | exact rfl | exact AvIs.refl _ | exact trivial | exact fun _ _ => rfl | exact fun _ _ => ⟨rfl, AvIs.refl _⟩ | refine ⟨?_, ?_⟩))) ⟨by (repeat' (first | exact rfl | exact AvIs.refl _ | exact trivial | exact fun _ _ => rfl | exact fun _ _ => ⟨rfl, AvIs.refl _⟩ | refine ⟨?_, ?_⟩)), ⟨rfl, rfl, rfl⟩, rfl, catF_nat _ rfl⟩), by omega⟩
    · have hiP : i = P := by omega
      subst hiP
      have d0 := joint_ok k hk l (allL i)
      have e0 : (jointR k l (allL i)).2 = 0 → (jointR k l (allL i)).1 = l ∧ (startS k).2 = 0 ∧ ∀ qs, (pjT k qs l l.length).2.2 = 0 := fun h => by
        obtain ⟨z1, z2, z3, z4, z5⟩ := jointR_zero h
        rw [← hP] at z4 z5 z2
        have hpos : 0 < k.parties := by
          have : (allL k.parties.toNat).length ≠ 0 := by
            intro h
            simp [badPs, h] at z2
          rw [allL_len] at this
          omega
        rw [← hP, z5, all_trace hk hpos l.length (Nat.le_refl _) z4, List.take_length]
        exact ⟨rfl, z1, fun qs => by rw [(pjT_same k qs _ l l.length).2]; exact z4⟩
      have n0 := jointR_nz (k := k) (l := l) (ps := allL i)
      generalize jointR k l (allL i) = w at *
      refine XK.weak (Weak.frozen (k := 700) hN rfl rfl) ?_
      (repeat (first | refine XK.norm rfl rfl ?_ | refine XK.rgnA hT rfl rfl rfl ?_ | refine XK.rgnB hT hm rfl rfl rfl ?_)); refine XK.region ?_; refine XL.goA hT rfl rfl rfl rfl ?_
      refine XL.callK hE rfl rfl rfl rfl trivial rfl rfl (d0) ?_ ?_
      · refine ⟨AvIs.refl _, AvIs.refl _, rfl, (allL_len i).symm, fun j hj => ?_⟩
        show iC ((allL i).getD j default) = _
        rw [allL_getD hj]
        rfl
      refine XL.goA hT rfl rfl rfl rfl ?_; refine XL.fin ?_; (repeat (first | refine XK.norm rfl rfl ?_ | refine XK.rgnA hT rfl rfl rfl ?_ | refine XK.rgnB hT hm rfl rfl rfl ?_))
      (repeat (first | refine XK.norm rfl rfl ?_ | refine XK.rgnA hT rfl rfl rfl ?_ | refine XK.rgnB hT hm rfl rfl rfl ?_)); refine XK.cond rfl (fun h2 => ?_) (fun h2 => ?_) <;> (try simp at h2)
      · (repeat (first | refine XK.norm rfl rfl ?_ | refine XK.rgnA hT rfl rfl rfl ?_ | refine XK.rgnB hT hm rfl rfl rfl ?_))
        (first | refine XK.out rfl rfl rfl ?_ | refine XK.outN rfl rfl rfl ?_)
        rw [n0 h2]
        rfl
      · obtain ⟨e1, e2, e3⟩ := e0 h2
        have di := ints36_ok w.1 l
        rw [show eqIS w.1 l = true by rw [e1]; exact eqIS_self l] at di
        have d1 := joint_ok k hk l ps
        (repeat (first | refine XK.norm rfl rfl ?_ | refine XK.rgnA hT rfl rfl rfl ?_ | refine XK.rgnB hT hm rfl rfl rfl ?_)); refine XK.region ?_; refine XL.goA hT rfl rfl rfl rfl ?_
        refine XL.callLA hE rfl rfl rfl rfl trivial rfl (di) rfl ?_
        refine XL.goA hT rfl rfl rfl rfl ?_; refine XL.fin ?_; (repeat (first | refine XK.norm rfl rfl ?_ | refine XK.rgnA hT rfl rfl rfl ?_ | refine XK.rgnB hT hm rfl rfl rfl ?_))
        (repeat (first | refine XK.norm rfl rfl ?_ | refine XK.rgnA hT rfl rfl rfl ?_ | refine XK.rgnB hT hm rfl rfl rfl ?_)); refine XK.cond rfl (fun h3 => ?_) (fun h3 => ?_) <;> (try simp at h3)
        generalize hx : jointR k l ps = x at *
        (repeat (first | refine XK.norm rfl rfl ?_ | refine XK.rgnA hT rfl rfl rfl ?_ | refine XK.rgnB hT hm rfl rfl rfl ?_)); refine XK.region ?_; refine XL.goA hT rfl rfl rfl rfl ?_
        refine XL.callKA hE rfl rfl rfl rfl trivial rfl rfl (d1) ?_
        refine XL.goA hT rfl rfl rfl rfl ?_; refine XL.fin ?_; (repeat (first | refine XK.norm rfl rfl ?_ | refine XK.rgnA hT rfl rfl rfl ?_ | refine XK.rgnB hT hm rfl rfl rfl ?_))
        (repeat (first | refine XK.norm rfl rfl ?_ | refine XK.rgnA hT rfl rfl rfl ?_ | refine XK.rgnB hT hm rfl rfl rfl ?_))
        refine XK.loop (ι := Nat) (fun i => ST.of [(1, intsV l), (2, intsV ps), (3, .ptr 3 0), (7, .c (.bool true)), (12, intsV x.1), (13, .c (.int .i64 x.2)), (14, .c (.int .i64 i))]
            [(3, .cells 54 (kC k))] 2000 139 (fun _ => false))
          (fun i => i ≤ ps.length) (fun i => ps.length - i) 0 (Nat.zero_le _)
          (Weak.of hN rfl rfl rfl (by (repeat' (first | exact rfl | exact AvIs.refl _ | exact trivial | exact fun _ _ => rfl | exact fun _ _ => ⟨rfl, AvIs.refl _⟩ | refine ⟨?_, ?_⟩))) (by (repeat' (first | exact rfl | exact AvIs.refl _ | exact trivial | exact fun _ _ => rfl | exact fun _ _ => ⟨rfl, AvIs.refl _⟩ | refine ⟨?_, ?_⟩)))) fun i hi => ?_
        (repeat (first | refine XK.norm rfl rfl ?_ | refine XK.rgnA hT rfl rfl rfl ?_ | refine XK.rgnB hT hm rfl rfl rfl ?_)); refine XK.cond rfl (fun h4 => ?_) (fun h4 => ?_) <;> (try simp at h4)
        · have f1 : ps.getD (i : Int).toNat default = ps.getD i default := rfl
          have hmem : ps.getD i default ∈ ps := by
            rw [List.getD_eq_getElem?_getD, List.getElem?_eq_getElem (show i < ps.length by omega)]
            exact List.getElem_mem _
          have hwi : x.2 = 0 → (jointR k l [ps.getD i default]).2 = 0 ∧ withinB (jointR k l [ps.getD i default]).1 x.1 = true := fun h => by
            rw [← hx] at h ⊢
            obtain ⟨z1, z2, z3, z4, z5⟩ := jointR_zero h
            have hb : badPs k [ps.getD i default] = false := by
              simp only [badPs, Bool.or_eq_false_iff, List.any_eq_false] at z2 ⊢
              refine ⟨⟨rfl, rfl⟩, fun y hy => ?_⟩
              rw [List.mem_singleton] at hy
              rw [hy]
              exact z2.2 _ hmem
            rw [jointR_of z1 hb z3 (e3 _), z5]
            exact ⟨rfl, within_sub (pj_sub hk hmem _ z4)⟩
          generalize ps.getD i default = p at *
          have d2 := view_ok k hk l p
          have d3 := joint_ok k hk l [p]
          generalize jointR k l [p] = v at *
          have d4 := ints36_ok v.1 v.1
          rw [eqIS_self] at d4
          have d5 := within_ok v.1 x.1
          (repeat (first | refine XK.norm rfl rfl ?_ | refine XK.rgnA hT rfl rfl rfl ?_ | refine XK.rgnB hT hm rfl rfl rfl ?_))
          (repeat (first | refine XK.norm rfl rfl ?_ | refine XK.rgnA hT rfl rfl rfl ?_ | refine XK.rgnB hT hm rfl rfl rfl ?_)); refine XK.drawn hm ?_; refine XD.goA hT rfl rfl rfl rfl ?_
          rw [f1]
          refine XD.callKA hE rfl rfl rfl rfl trivial rfl rfl (d2) ?_
          refine XD.goA hT rfl rfl rfl rfl ?_; refine XD.fin (by kernel_rfl) ?_; (repeat (first | refine XK.norm rfl rfl ?_ | refine XK.rgnA hT rfl rfl rfl ?_ | refine XK.rgnB hT hm rfl rfl rfl ?_))
          (repeat (first | refine XK.norm rfl rfl ?_ | refine XK.rgnA hT rfl rfl rfl ?_ | refine XK.rgnB hT hm rfl rfl rfl ?_)); refine XK.drawn hm ?_; refine XD.goA hT rfl rfl rfl rfl ?_
          rw [f1]
          refine XD.callK hE rfl rfl rfl rfl trivial rfl rfl (d3) ?_ ?_
          · exact ⟨AvIs.refl _, AvIs.refl _, rfl, rfl, fun i hi => by
              match i, hi with
              | 0, _ => rfl⟩
          refine XD.goA hT rfl rfl rfl rfl ?_; refine XD.fin (by kernel_rfl) ?_; (repeat (first | refine XK.norm rfl rfl ?_ | refine XK.rgnA hT rfl rfl rfl ?_ | refine XK.rgnB hT hm rfl rfl rfl ?_))
          clear d2 d3
          (repeat (first | refine XK.norm rfl rfl ?_ | refine XK.rgnA hT rfl rfl rfl ?_ | refine XK.rgnB hT hm rfl rfl rfl ?_)); refine XK.region ?_; refine XL.goA hT rfl rfl rfl rfl ?_
          refine XL.callGA hE rfl rfl rfl rfl rfl rfl rfl rfl (d4) rfl ?_
          refine XL.goA hT rfl rfl rfl rfl ?_
          refine XL.callGA hE rfl rfl rfl rfl rfl rfl rfl rfl (d5) rfl ?_
          refine XL.goA hT rfl rfl rfl rfl ?_; refine XL.fin ?_; (repeat (first | refine XK.norm rfl rfl ?_ | refine XK.rgnA hT rfl rfl rfl ?_ | refine XK.rgnB hT hm rfl rfl rfl ?_))
          (repeat (first | refine XK.norm rfl rfl ?_ | refine XK.rgnA hT rfl rfl rfl ?_ | refine XK.rgnB hT hm rfl rfl rfl ?_)); refine XK.cond rfl (fun h6 => ?_) (fun h6 => ?_)
          · exfalso
            by_cases hx0 : x.2 = 0
            · obtain ⟨g1, g2⟩ := hwi hx0
              simp [g1, g2] at h6
            · simp [hx0] at h6
          · (repeat (first | refine XK.norm rfl rfl ?_ | refine XK.rgnA hT rfl rfl rfl ?_ | refine XK.rgnB hT hm rfl rfl rfl ?_))
            refine XK.inv ⟨i + 1, h4, (Weak.of hN rfl rfl rfl (by (repeat' (first | exact rfl | exact AvIs.refl _ | exact trivial | exact fun _ _ => rfl | exact fun _ _ => ⟨rfl, AvIs.refl _⟩ | refine ⟨?_, ?_⟩))) (by (repeat' (first | exact rfl | exact AvIs.refl _ | exact trivial | exact fun _ _ => rfl | exact fun _ _ => ⟨rfl, AvIs.refl _⟩ | refine ⟨?_, ?_⟩)))), by omega⟩
        · have hie : i = ps.length := by omega
          subst hie
          have d6 := within_ok x.1 l
          have hr : x.2 = 0 ∧ withinB x.1 l = true ∨ x.2 = 1 := by
            rw [← hx]
            by_cases hx0 : (jointR k l ps).2 = 0
            · obtain ⟨z1, z2, z3, z4, z5⟩ := jointR_zero hx0
              have := pj_subl hk (ps := ps) l.length (Nat.le_refl _) z4
              rw [List.take_length, ← z5] at this
              exact Or.inl ⟨hx0, within_sub this⟩
            · right
              unfold jointR at hx0 ⊢
              split
              · rfl
              · rename_i q1
                rw [if_neg q1] at hx0
                split
                · rfl
                · rename_i q2
                  rw [if_neg q2, if_neg (by omega)] at hx0
                  unfold seenR at hx0
                  rw [if_pos (e3 ps)] at hx0
                  exact absurd rfl hx0
          (repeat (first | refine XK.norm rfl rfl ?_ | refine XK.rgnA hT rfl rfl rfl ?_ | refine XK.rgnB hT hm rfl rfl rfl ?_))
          (repeat (first | refine XK.norm rfl rfl ?_ | refine XK.rgnA hT rfl rfl rfl ?_ | refine XK.rgnB hT hm rfl rfl rfl ?_)); refine XK.region ?_; refine XL.goA hT rfl rfl rfl rfl ?_
          refine XL.callGA hE rfl rfl rfl rfl rfl rfl rfl rfl (d6) rfl ?_
          refine XL.goA hT rfl rfl rfl rfl ?_; refine XL.fin ?_; (repeat (first | refine XK.norm rfl rfl ?_ | refine XK.rgnA hT rfl rfl rfl ?_ | refine XK.rgnB hT hm rfl rfl rfl ?_))
          (first | refine XK.out rfl rfl rfl ?_ | refine XK.outN rfl rfl rfl ?_)
          refine cB ?_
          rcases hr with ⟨r1, r2⟩ | r1
          · simp [r1, r2]
          · simp [r1]
end Go.Proofs.Ytbheoblmfjjaaaa
end
