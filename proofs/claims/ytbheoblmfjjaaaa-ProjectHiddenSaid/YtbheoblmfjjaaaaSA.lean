import Derived.Test.YtbheoblmfjjaaaaS9
section
/- The law ProjectPrivate. -/
namespace Go.Proofs.Ytbheoblmfjjaaaa
open Go.Eng
set_option maxRecDepth 10000
set_option linter.unusedSimpArgs false
set_option linter.unusedVariables false
theorem lawPP (k : K) (hk : kW k) (s : St) (p a : Int) : Does Try.prog 13 [kV k, stV s, .c (.int .i64 p), .c (.int .i64 a)] (.c (.bool true)) := by
  refine Does.mk (fun _ => false) TT_ok Try.func13 rfl (by kernel_rfl) Try.ntmps13 rfl rfl fun E hT hE hN hR => ?_
  have hm : E.P.follows .mixedOrders = true := by rw [hE]; kernel_rfl
  (repeat (first | refine XK.norm rfl rfl ?_ | refine XK.rgnA hT rfl rfl rfl ?_ | refine XK.rgnB hT hm rfl rfl rfl ?_)); refine XK.region ?_; refine XL.goA hT rfl rfl rfl rfl ?_
  refine XL.callLA hE rfl rfl rfl rfl trivial rfl (head36_ok) rfl ?_
  refine XL.goA hT rfl rfl rfl rfl ?_; refine XL.fin ?_; (repeat (first | refine XK.norm rfl rfl ?_ | refine XK.rgnA hT rfl rfl rfl ?_ | refine XK.rgnB hT hm rfl rfl rfl ?_))
  (repeat (first | refine XK.norm rfl rfl ?_ | refine XK.rgnA hT rfl rfl rfl ?_ | refine XK.rgnB hT hm rfl rfl rfl ?_)); refine XK.region ?_; refine XL.goA hT rfl rfl rfl rfl ?_
  refine XL.callLA hE rfl rfl rfl rfl trivial rfl (smallQ_ok k 40) rfl ?_
  refine XL.goA hT rfl rfl rfl rfl ?_
  refine XL.callGA hE rfl rfl rfl rfl rfl rfl rfl rfl (fewS_ok s) rfl ?_
  refine XL.goA hT rfl rfl rfl rfl ?_; refine XL.fin ?_; (repeat (first | refine XK.norm rfl rfl ?_ | refine XK.rgnA hT rfl rfl rfl ?_ | refine XK.rgnB hT hm rfl rfl rfl ?_))
  (repeat (first | refine XK.norm rfl rfl ?_ | refine XK.rgnA hT rfl rfl rfl ?_ | refine XK.rgnB hT hm rfl rfl rfl ?_)); refine XK.cond rfl (fun h0 => ?_) (fun h0 => ?_) <;> (try simp at h0)
  · (repeat (first | refine XK.norm rfl rfl ?_ | refine XK.rgnA hT rfl rfl rfl ?_ | refine XK.rgnB hT hm rfl rfl rfl ?_))
    (first | refine XK.out rfl rfl rfl ?_ | refine XK.outN rfl rfl rfl ?_)
    rfl
  · have v1 := sees2_ok k hk s p a
    (repeat (first | refine XK.norm rfl rfl ?_ | refine XK.rgnA hT rfl rfl rfl ?_ | refine XK.rgnB hT hm rfl rfl rfl ?_)); refine XK.region ?_; refine XL.goA hT rfl rfl rfl rfl ?_
    refine XL.callLA hE rfl rfl rfl rfl trivial rfl (validS_ok k hk s) rfl ?_
    refine XL.goA hT rfl rfl rfl rfl ?_; refine XL.fin ?_; (repeat (first | refine XK.norm rfl rfl ?_ | refine XK.rgnA hT rfl rfl rfl ?_ | refine XK.rgnB hT hm rfl rfl rfl ?_))
    (repeat (first | refine XK.norm rfl rfl ?_ | refine XK.rgnA hT rfl rfl rfl ?_ | refine XK.rgnB hT hm rfl rfl rfl ?_)); refine XK.cond rfl (fun h1 => ?_) (fun h1 => ?_)
    · have h1 : (!validS k s || decide (p < 0) || decide (k.parties ≤ p) || decide (a < 0) || decide ((k.acts.length : Int) ≤ a)) = true := h1
      have hs : SeesR k s p a = false := by
        rw [Bool.eq_false_iff]
        intro h
        simp only [SeesR, Bool.and_eq_true, decide_eq_true_eq] at h
        simp only [Bool.or_eq_true, Bool.not_eq_true', decide_eq_true_eq] at h1
        rcases h1 with (((h1 | h1) | h1) | h1) | h1
        · rw [h1] at h; exact absurd h.1.1.1.1.1 (by simp)
        · omega
        · omega
        · omega
        · omega
      rw [hs] at v1
      (repeat (first | refine XK.norm rfl rfl ?_ | refine XK.rgnA hT rfl rfl rfl ?_ | refine XK.rgnB hT hm rfl rfl rfl ?_)); refine XK.region ?_; refine XL.goA hT rfl rfl rfl rfl ?_
      refine XL.callGA hE rfl rfl rfl rfl rfl rfl rfl rfl (v1) rfl ?_
      refine XL.goA hT rfl rfl rfl rfl ?_; refine XL.fin ?_; (repeat (first | refine XK.norm rfl rfl ?_ | refine XK.rgnA hT rfl rfl rfl ?_ | refine XK.rgnB hT hm rfl rfl rfl ?_))
      (first | refine XK.out rfl rfl rfl ?_ | refine XK.outN rfl rfl rfl ?_)
      rfl
    · have h1 : (!validS k s || decide (p < 0) || decide (k.parties ≤ p) || decide (a < 0) || decide ((k.acts.length : Int) ≤ a)) = false := h1
      simp only [Bool.or_eq_false_iff, Bool.not_eq_false', decide_eq_false_iff_not] at h1
      obtain ⟨⟨⟨⟨hv, h2⟩, h3⟩, h4⟩, h5⟩ := h1
      obtain ⟨n, rfl⟩ : ∃ n : Nat, a = (n : Int) := ⟨a.toNat, by omega⟩
      have hl := validS_len hv
      have hF := (show kOk k from ⟨hk, hl.1⟩).facts
      have hx := actF (hF.act n (by omega))
      have fa : k.acts.getD (n : Int).toNat default = acAt k n := rfl
      have hS : SeesR k s p n = seesB k s.wk.hold p n := by
        simp only [SeesR, hv, Bool.true_and]
        rw [decide_eq_true (by omega), decide_eq_true (by omega), decide_eq_true (by omega), decide_eq_true (by omega)]
        rfl
      have hD : doerS k s n = doerW k s.wk.hold n := by
        unfold doerS
        rw [if_neg (by simp [hv]; omega)]
        rfl
      have v2 := doerS_ok k hk s n
      rw [hS] at v1
      rw [hD] at v2
      (repeat (first | refine XK.norm rfl rfl ?_ | refine XK.rgnA hT rfl rfl rfl ?_ | refine XK.rgnB hT hm rfl rfl rfl ?_))
      rw [fa]
      unfold seesB at v1
      unfold doerW at v2
      generalize acAt k n = x at *
      have lh := hl.2.1
      generalize hsv : (if (x.kind != 1 || x.to == -1 || s.wk.hold x.to.toNat == p) = true then true else x.role != -1 && s.wk.hold x.role.toNat == p) = sv at v1
      generalize hdv : (if x.role = -1 then (-1 : Int) else s.wk.hold x.role.toNat) = dv at v2
      (repeat (first | refine XK.norm rfl rfl ?_ | refine XK.rgnA hT rfl rfl rfl ?_ | refine XK.rgnB hT hm rfl rfl rfl ?_)); refine XK.cond rfl (fun h6 => ?_) (fun h6 => ?_)
      · have h6 : x.kind = 1 ∧ 0 ≤ x.to := by simpa using h6
        have hto : x.to < s.holders.length := by omega
        have fh : s.holders.getD x.to.toNat default = s.wk.hold x.to.toNat := rfl
        (repeat (first | refine XK.norm rfl rfl ?_ | refine XK.rgnA hT rfl rfl rfl ?_ | refine XK.rgnB hT hm rfl rfl rfl ?_)); refine XK.region ?_; refine XL.goA hT rfl rfl rfl rfl ?_
        refine XL.callLA hE rfl rfl rfl rfl trivial rfl (v2) rfl ?_
        refine XL.goA hT rfl rfl rfl rfl ?_; refine XL.fin ?_; (repeat (first | refine XK.norm rfl rfl ?_ | refine XK.rgnA hT rfl rfl rfl ?_ | refine XK.rgnB hT hm rfl rfl rfl ?_))
        rw [fh]
        (repeat (first | refine XK.norm rfl rfl ?_ | refine XK.rgnA hT rfl rfl rfl ?_ | refine XK.rgnB hT hm rfl rfl rfl ?_)); refine XK.region ?_; refine XL.goA hT rfl rfl rfl rfl ?_
        refine XL.callGA hE rfl rfl rfl rfl rfl rfl rfl rfl (v1) rfl ?_
        refine XL.goA hT rfl rfl rfl rfl ?_; refine XL.fin ?_; (repeat (first | refine XK.norm rfl rfl ?_ | refine XK.rgnA hT rfl rfl rfl ?_ | refine XK.rgnB hT hm rfl rfl rfl ?_))
        (first | refine XK.out rfl rfl rfl ?_ | refine XK.outN rfl rfl rfl ?_)
        refine cB ?_
        subst hsv hdv
        have hne : ¬ x.to = -1 := by omega
        have hp : ¬ (-1 : Int) = p := by omega
        by_cases hr : x.role = -1
        · by_cases ht : s.wk.hold x.to.toNat = p <;> simp [h6.1, hne, hr, ht, hp]
        · rw [if_neg hr, show (x.kind != 1) = false by simp [h6.1], show (x.to == -1) = false by simp [hne], show (x.role != -1) = true by simp [hr]]
          cases (s.wk.hold x.to.toNat == p) <;> cases (s.wk.hold x.role.toNat == p) <;> rfl
      · have h6 : ¬ (x.kind = 1 ∧ 0 ≤ x.to) := by simpa using h6
        have hsv2 : sv = true := by
          rw [← hsv, if_pos]
          simp only [Bool.or_eq_true, bne_iff_ne, ne_eq, beq_iff_eq]
          omega
        rw [hsv2] at v1
        (repeat (first | refine XK.norm rfl rfl ?_ | refine XK.rgnA hT rfl rfl rfl ?_ | refine XK.rgnB hT hm rfl rfl rfl ?_)); refine XK.region ?_; refine XL.goA hT rfl rfl rfl rfl ?_
        refine XL.callGA hE rfl rfl rfl rfl rfl rfl rfl rfl (v1) rfl ?_
        refine XL.goA hT rfl rfl rfl rfl ?_; refine XL.fin ?_; (repeat (first | refine XK.norm rfl rfl ?_ | refine XK.rgnA hT rfl rfl rfl ?_ | refine XK.rgnB hT hm rfl rfl rfl ?_))
        (first | refine XK.out rfl rfl rfl ?_ | refine XK.outN rfl rfl rfl ?_)
        rfl
end Go.Proofs.Ytbheoblmfjjaaaa
end
section
/- The law ProjectBeginnings. -/
namespace Go.Proofs.Ytbheoblmfjjaaaa
open Go.Eng
set_option maxRecDepth 10000
set_option linter.unusedSimpArgs false
set_option linter.unusedVariables false
theorem jointR_zero {k : K} {l ps : List Int} (h : (jointR k l ps).2 = 0) : (startS k).2 = 0 ∧ badPs k ps = false ∧ l.length ≤ 4000 ∧ (pjT k ps l l.length).2.2 = 0 ∧ (jointR k l ps).1 = (pjT k ps l l.length).2.1 := by
  unfold jointR at h ⊢
  split at h
  · cases h
  · rename_i h1
    rw [if_neg h1]
    split at h
    · cases h
    · rename_i h2
      rw [if_neg h2]
      split at h
      · cases h
      · rename_i h3
        rw [if_neg h3]
        unfold seenR at h ⊢
        split at h
        · rename_i h4
          rw [if_pos h4]
          exact ⟨by simpa using h1, by simpa using h2, by omega, h4, rfl⟩
        · rename_i h4
          exact absurd h h4
theorem jointR_of {k : K} {l ps : List Int} (h1 : (startS k).2 = 0) (h2 : badPs k ps = false) (h3 : l.length ≤ 4000) (h4 : (pjT k ps l l.length).2.2 = 0) : jointR k l ps = ((pjT k ps l l.length).2.1, 0) := by
  unfold jointR
  rw [if_neg (by simpa using h1), if_neg (by rw [h2]; simp), if_neg (by omega)]
  unfold seenR
  rw [if_pos h4]
theorem pjT_err {k : K} {ps l : List Int} {i j : Nat} (hij : i ≤ j) (h : (pjT k ps l j).2.2 = 0) : (pjT k ps l i).2.2 = 0 := by
  apply Classical.byContradiction
  intro h2
  rw [pjT_stop h2 j hij] at h
  exact h2 h
theorem pjF_pre {k : K} {ps : List Int} {p : Pj} {z : Int} : ∃ x, (pjF k ps p z).2.1 = p.2.1 ++ x := by
  unfold pjF
  split
  · exact ⟨[], by simp⟩
  · dsimp only
    split
    · exact ⟨[z], rfl⟩
    · exact ⟨[], by simp⟩
theorem pjT_pre {k : K} {ps l : List Int} {i : Nat} : ∀ {j}, i ≤ j → ∃ x, (pjT k ps l j).2.1 = (pjT k ps l i).2.1 ++ x
  | 0, h => by
    obtain rfl : i = 0 := by omega
    exact ⟨[], by simp⟩
  | j + 1, h => by
    by_cases e : i = j + 1
    · subst e; exact ⟨[], by simp⟩
    · obtain ⟨x, hx⟩ := pjT_pre (k := k) (ps := ps) (l := l) (i := i) (j := j) (by omega)
      rw [pjT]
      split
      · exact ⟨x, hx⟩
      · obtain ⟨y, hy⟩ := pjF_pre (k := k) (ps := ps) (p := pjT k ps l j) (z := l.getD j default)
        exact ⟨x ++ y, by rw [hy, hx, List.append_assoc]⟩
theorem take_getD {l : List Int} {n i : Nat} (h : i < n) : (l.take n).getD i default = l.getD i default := by
  simp [List.getD, List.getElem?_take, h]
theorem pjT_take {k : K} {ps l : List Int} {n : Nat} : ∀ i, i ≤ n → pjT k ps (l.take n) i = pjT k ps l i
  | 0, _ => rfl
  | i + 1, h => by
    have ih := pjT_take (k := k) (ps := ps) (l := l) (n := n) i (by omega)
    rw [pjT, pjT, ih, take_getD (by omega)]
/-- The view of the first steps. -/
theorem view_take {k : K} {ps l : List Int} (h : (jointR k l ps).2 = 0) {n : Nat} (hn : n ≤ l.length) : (jointR k (l.take n) ps).2 = 0 ∧ ∃ x, (jointR k l ps).1 = (jointR k (l.take n) ps).1 ++ x := by
  obtain ⟨h1, h2, h3, h4, h5⟩ := jointR_zero h
  have hl : (l.take n).length = n := by simp; omega
  have e := pjT_take (k := k) (ps := ps) (l := l) (n := n) n (Nat.le_refl _)
  have h6 := pjT_err (k := k) (ps := ps) (l := l) hn h4
  have h7 := jointR_of (k := k) (l := l.take n) (ps := ps) h1 h2 (by omega) (by rw [hl, e]; exact h6)
  rw [hl, e] at h7
  rw [h7, h5]
  exact ⟨rfl, pjT_pre hn⟩
theorem eqIS_self (l : List Int) : eqIS l l = true := eqIS_iff.2 ⟨rfl, fun _ _ => rfl⟩
theorem lawPB (k : K) (hk : kW k) (l : List Int) (p f : Int) (hf : inK .u8 f) : Does Try.prog 11 [kV k, intsV l, .c (.int .i64 p), .c (.int .u8 f)] (.c (.bool true)) := by
  refine Does.mk (fun _ => false) TT_ok Try.func11 rfl (by kernel_rfl) Try.ntmps11 rfl rfl fun E hT hE hN hR => ?_
  have hm : E.P.follows .mixedOrders = true := by rw [hE]; kernel_rfl
  refine XK.fact (Sat.rs_len (j := 1) rfl) fun hlen => ?_
  have hm1 : l.length ≤ 9223372036854775807 := hlen.1
  (repeat (first | refine XK.norm rfl rfl ?_ | refine XK.rgnA hT rfl rfl rfl ?_ | refine XK.rgnB hT hm rfl rfl rfl ?_)); refine XK.region ?_; refine XL.goA hT rfl rfl rfl rfl ?_
  refine XL.callLA hE rfl rfl rfl rfl trivial rfl (head36_ok) rfl ?_
  refine XL.goA hT rfl rfl rfl rfl ?_; refine XL.fin ?_; (repeat (first | refine XK.norm rfl rfl ?_ | refine XK.rgnA hT rfl rfl rfl ?_ | refine XK.rgnB hT hm rfl rfl rfl ?_))
  (repeat (first | refine XK.norm rfl rfl ?_ | refine XK.rgnA hT rfl rfl rfl ?_ | refine XK.rgnB hT hm rfl rfl rfl ?_)); refine XK.region ?_; refine XL.goA hT rfl rfl rfl rfl ?_
  refine XL.callLA hE rfl rfl rfl rfl trivial rfl (smallQ_ok k 40) rfl ?_
  refine XL.goA hT rfl rfl rfl rfl ?_; refine XL.fin ?_; (repeat (first | refine XK.norm rfl rfl ?_ | refine XK.rgnA hT rfl rfl rfl ?_ | refine XK.rgnB hT hm rfl rfl rfl ?_))
  (repeat (first | refine XK.norm rfl rfl ?_ | refine XK.rgnA hT rfl rfl rfl ?_ | refine XK.rgnB hT hm rfl rfl rfl ?_)); refine XK.cond rfl (fun h0 => ?_) (fun h0 => ?_) <;> (try simp at h0)
  · (repeat (first | refine XK.norm rfl rfl ?_ | refine XK.rgnA hT rfl rfl rfl ?_ | refine XK.rgnB hT hm rfl rfl rfl ?_))
    (first | refine XK.out rfl rfl rfl ?_ | refine XK.outN rfl rfl rfl ?_)
    rfl
  · have d1 := view_ok k hk l p
    have ht := fun h n hn => view_take (k := k) (ps := [p]) (l := l) h (n := n) hn
    (repeat (first | refine XK.norm rfl rfl ?_ | refine XK.rgnA hT rfl rfl rfl ?_ | refine XK.rgnB hT hm rfl rfl rfl ?_)); refine XK.region ?_; refine XL.goA hT rfl rfl rfl rfl ?_
    refine XL.callKA hE rfl rfl rfl rfl trivial rfl rfl (d1) ?_
    refine XL.goA hT rfl rfl rfl rfl ?_; refine XL.fin ?_; (repeat (first | refine XK.norm rfl rfl ?_ | refine XK.rgnA hT rfl rfl rfl ?_ | refine XK.rgnB hT hm rfl rfl rfl ?_))
    (repeat (first | refine XK.norm rfl rfl ?_ | refine XK.rgnA hT rfl rfl rfl ?_ | refine XK.rgnB hT hm rfl rfl rfl ?_)); refine XK.cond rfl (fun h1 => ?_) (fun h1 => ?_) <;> (try simp at h1)
    · (repeat (first | refine XK.norm rfl rfl ?_ | refine XK.rgnA hT rfl rfl rfl ?_ | refine XK.rgnB hT hm rfl rfl rfl ?_))
      (first | refine XK.out rfl rfl rfl ?_ | refine XK.outN rfl rfl rfl ?_)
      rfl
    · have hf2 : 0 ≤ f ∧ f ≤ 255 := by simp [inK] at hf; omega
      obtain ⟨n, hn⟩ : ∃ n : Nat, f % ((l.length : Int) + 1) = n := ⟨(f % ((l.length : Int) + 1)).toNat, by have := Int.emod_nonneg f (show ((l.length : Int) + 1) ≠ 0 by omega); omega⟩
      have hnl : n ≤ l.length := by have := Int.emod_lt_of_pos f (show (0 : Int) < (l.length : Int) + 1 by omega); omega
      have hn : f.tmod ((l.length : Int) + 1) = n := by rw [Int.tmod_eq_emod_of_nonneg hf2.1]; exact hn
      obtain ⟨t1, x, t2⟩ := ht h1 n hnl
      have d2 := view_ok k hk (l.take n) p
      generalize jointR k (l.take n) [p] = w at *
      generalize jointR k l [p] = v at *
      (repeat (first | refine XK.norm rfl rfl ?_ | refine XK.rgnA hT rfl rfl rfl ?_ | refine XK.rgnB hT hm rfl rfl rfl ?_))
      refine XK.weak (Weak.of (L := [(1, intsV l), (2, .c (.int .i64 p)), (4, .ptr 4 0), (9, .c (.bool true)), (10, intsV v.1), (12, .c (.int .i64 n))]) (O := [(4, .cells 54 (kC k))]) (nx := 1000) (nt := 70) (md := fun _ => false) hN rfl rfl rfl ⟨AvIs.refl _, rfl, rfl, rfl, AvIs.refl _, cI hn⟩ (by (repeat' (first | exact rfl | exact AvIs.refl _ | exact trivial | exact fun _ _ => rfl | exact fun _ _ => ⟨rfl, AvIs.refl _⟩ | refine ⟨?_, ?_⟩)))) ?_
      have hlw : w.1.length ≤ v.1.length := by rw [t2]; simp
      have di := ints36_ok w.1 w.1
      rw [eqIS_self] at di
      refine XK.fact (Sat.rs_len (j := 10) rfl) fun hlen3 => ?_
      have hm3 : v.1.length ≤ 9223372036854775807 := hlen3.1
      (repeat (first | refine XK.norm rfl rfl ?_ | refine XK.rgnA hT rfl rfl rfl ?_ | refine XK.rgnB hT hm rfl rfl rfl ?_)); refine XK.drawn hm ?_; refine XD.goA hT rfl rfl rfl rfl ?_
      refine XD.callK hE rfl rfl rfl rfl trivial rfl rfl (d2) ?_ ?_
      · refine ⟨AvIs.refl _, ⟨rfl, by simp; omega, fun i hi => ?_⟩, AvIs.refl _⟩
        show iC ((l.take n).getD i default) = iC (l.getD i default)
        rw [take_getD (show i < n from hi)]
      refine XD.goA hT rfl rfl rfl rfl ?_; refine XD.fin (by kernel_rfl) ?_; (repeat (first | refine XK.norm rfl rfl ?_ | refine XK.rgnA hT rfl rfl rfl ?_ | refine XK.rgnB hT hm rfl rfl rfl ?_))
      (repeat (first | refine XK.norm rfl rfl ?_ | refine XK.rgnA hT rfl rfl rfl ?_ | refine XK.rgnB hT hm rfl rfl rfl ?_)); refine XK.region ?_; refine XL.goA hT rfl rfl rfl rfl ?_
      refine XL.callLG hE rfl rfl rfl rfl rfl rfl rfl (by first | (simp [AllP, impG]; done) | (simp only [AllP, impG]; grind) | (simp only [AllP, impG]; omega)) rfl (fun hgd => ⟨di, ?_⟩) rfl ?_
      · refine ⟨AvIs.refl _, rfl, rfl, fun i hi => ?_⟩
        show iC (w.1.getD i default) = iC (v.1.getD i default)
        rw [t2, List.getD_eq_getElem?_getD, List.getD_eq_getElem?_getD, List.getElem?_append_left hi]
      · refine XL.goA hT rfl rfl rfl rfl ?_; refine XL.fin ?_; (repeat (first | refine XK.norm rfl rfl ?_ | refine XK.rgnA hT rfl rfl rfl ?_ | refine XK.rgnB hT hm rfl rfl rfl ?_))
        (first | refine XK.out rfl rfl rfl ?_ | refine XK.outN rfl rfl rfl ?_)
        refine cB ?_
        simp [t1]
        omega
end Go.Proofs.Ytbheoblmfjjaaaa
end
