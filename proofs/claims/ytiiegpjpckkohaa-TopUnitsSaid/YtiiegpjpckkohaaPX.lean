import Derived.Test.YtiiegpjpckkohaaPW
import Derived.Test.YtiiegpjpckkohaaPG
import Derived.Test.YtiiegpjpckkohaaPL
section
/- Contracts: package netting: Net. -/
namespace Go.Proofs.Ytiiegpjpckkohaa
open Go.Eng
set_option maxRecDepth 10000
set_option linter.unusedSimpArgs false
set_option linter.unusedVariables false
/-- What is moved: the lesser of the two. -/
def amtN (q : Nat → Q) (d c : Nat) : Q := if cmpR (sgQ true (q d)) (q c) < 0 then sgQ true (q d) else q c
noncomputable def netF (P : Nat) : Nat → (Nat → Q) → List Db → List Db × Int
  | 0, _, m => (m, 0)
  | n + 1, q, m =>
    if 0 ≤ (q (exL q P).1).1 ∨ (q (exL q P).2).1 ≤ 0 then (m, 0)
    else if (addR (q (exL q P).1) (amtN q (exL q P).1 (exL q P).2)).2 ≠ 0 then ([], (addR (q (exL q P).1) (amtN q (exL q P).1 (exL q P).2)).2)
    else if (subR (q (exL q P).2) (amtN q (exL q P).1 (exL q P).2)).2 ≠ 0 then ([], (subR (q (exL q P).2) (amtN q (exL q P).1 (exL q P).2)).2)
    else netF P n (setQ (setQ q (exL q P).1 (addR (q (exL q P).1) (amtN q (exL q P).1 (exL q P).2)).1) (exL q P).2 (subR (q (exL q P).2) (amtN q (exL q P).1 (exL q P).2)).1) (m ++ [⟨(exL q P).1, (exL q P).2, amtN q (exL q P).1 (exL q P).2⟩])
/-- How many positions are not 0. -/
def cntN (q : Nat → Q) : Nat → Nat
  | 0 => 0
  | n + 1 => cntN q n + if (q n).1 = 0 then 0 else 1
theorem cntN_le (q : Nat → Q) : ∀ n, cntN q n ≤ n
  | 0 => Nat.le_refl _
  | n + 1 => by
    have := cntN_le q n
    simp only [cntN]
    split <;> omega
theorem cntN_congr {q q' : Nat → Q} : ∀ {n : Nat}, (∀ i, i < n → ((q i).1 = 0 ↔ (q' i).1 = 0)) → cntN q n = cntN q' n
  | 0, _ => rfl
  | n + 1, h => by
    have ih := cntN_congr (q := q) (q' := q') (n := n) fun i hi => h i (by omega)
    have hn := h n (by omega)
    simp only [cntN, ih]
    by_cases h1 : (q n).1 = 0
    · rw [if_pos h1, if_pos (hn.1 h1)]
    · rw [if_neg h1, if_neg (fun h => h1 (hn.2 h))]
/-- No more than before in each, and one fewer. -/
theorem cntN_lt {q q' : Nat → Q} : ∀ {n : Nat}, (∀ i, i < n → (q i).1 = 0 → (q' i).1 = 0) → (∃ j, j < n ∧ (q j).1 ≠ 0 ∧ (q' j).1 = 0) → cntN q' n < cntN q n
  | 0, _, ⟨j, h, _⟩ => absurd h (Nat.not_lt_zero _)
  | n + 1, h, ⟨j, hj, h1, h2⟩ => by
    have hle : ∀ m, m ≤ n + 1 → cntN q' m ≤ cntN q m := by
      intro m
      induction m with
      | zero => intro _; exact Nat.le_refl _
      | succ m ih =>
        intro hm
        have := ih (by omega)
        have hh := h m (by omega)
        simp only [cntN]
        by_cases h3 : (q m).1 = 0
        · rw [if_pos h3, if_pos (hh h3)]; omega
        · rw [if_neg h3]; split <;> omega
    simp only [cntN]
    by_cases hjn : j = n
    · subst hjn
      rw [if_neg h1, if_pos h2]
      have := hle j (by omega)
      omega
    · have ih := cntN_lt (q := q) (q' := q') (n := n) (fun i hi => h i (by omega)) ⟨j, by omega, h1, h2⟩
      have hh := h n (by omega)
      by_cases h3 : (q n).1 = 0
      · rw [if_pos h3, if_pos (hh h3)]; omega
      · rw [if_neg h3]; split <;> omega
end Go.Proofs.Ytiiegpjpckkohaa
end
section
/- Contracts: package netting: Positions. -/
namespace Go.Proofs.Ytiiegpjpckkohaa
open Go.Eng
set_option maxRecDepth 10000
set_option linter.unusedSimpArgs false
set_option linter.unusedVariables false
theorem positionsM_ok (parties : Nat) (n : Nat) (l : Nat → Db) (hl : ∀ i, i < n → dbW (l i)) (h1 : netB parties n l = true) (h0 : posE l n parties = 0) : DoesM Try.prog 21 [.c (.int .i64 parties), dbsV n l] [] (.tup [.vec 0 0, .c (.int .i64 0)]) [.vec 29 2 0 parties (fun j => qc (posR l n j).1)] := by
  refine DoesM.mk (fun d => Nat.beq d 15) 100 TT_ok Try.func21 rfl (by kernel_rfl) Try.ntmps21 rfl rfl rfl fun E hT hE hN hR => ?_
  have hm : E.P.follows .mixedOrders = true := by rw [hE]; kernel_rfl
  (repeat (first | refine XK.norm rfl rfl ?_ | refine XK.rgnA hT rfl rfl rfl ?_ | refine XK.rgnB hT hm rfl rfl rfl ?_)); refine XK.region ?_; refine XL.goA hT rfl rfl rfl rfl ?_
  refine XL.callLA hE rfl rfl rfl rfl trivial rfl (netValid_ok parties n l hl) rfl ?_
  refine XL.goA hT rfl rfl rfl rfl ?_; refine XL.fin ?_; (repeat (first | refine XK.norm rfl rfl ?_ | refine XK.rgnA hT rfl rfl rfl ?_ | refine XK.rgnB hT hm rfl rfl rfl ?_))
  (repeat (first | refine XK.norm rfl rfl ?_ | refine XK.rgnA hT rfl rfl rfl ?_ | refine XK.rgnB hT hm rfl rfl rfl ?_)); refine XK.cond rfl (fun h1' => ?_) (fun h1' => ?_) <;> (try simp at h1')
  · exfalso; rw [h1] at h1'; cases h1'
  · skip
    obtain ⟨⟨hp, hn⟩, hdb⟩ := netB_true.1 h1
    (repeat (first | refine XK.norm rfl rfl ?_ | refine XK.rgnA hT rfl rfl rfl ?_ | refine XK.rgnB hT hm rfl rfl rfl ?_))
    refine XK.loop (ι := Nat) (fun p => ST.of [(1, dbsV n l), (6, .vec 185 0), (16, .c (.int .i64 parties)), (17, .c (.int .i64 p))] [(185, .vec 29 2 0 p (fun j => qc (posR l n j).1))] 1000 35 (fun _ => false))
      (fun p => p ≤ parties ∧ posE l n p = 0) (fun p => parties - p) 0 ⟨Nat.zero_le _, rfl⟩ (Weak.of hN rfl rfl rfl (by (repeat' (first | exact rfl | exact AvIs.refl _ | exact trivial | exact fun _ _ => rfl | exact fun _ _ => ⟨rfl, AvIs.refl _⟩ | refine ⟨?_, ?_⟩))) ⟨⟨rfl, rfl, rfl⟩, rfl, fun j hj => absurd hj (Nat.not_lt_zero _)⟩) fun p hp2 => ?_
    obtain ⟨hp1, hp3⟩ := hp2
    (repeat (first | refine XK.norm rfl rfl ?_ | refine XK.rgnA hT rfl rfl rfl ?_ | refine XK.rgnB hT hm rfl rfl rfl ?_)); refine XK.cond rfl (fun hlt => ?_) (fun hlt => ?_) <;> (try simp at hlt)
    · have ht := total1_ok n l (sgnP p) 49 [.c (.int .i64 p)] (fun d => by unfold sgnP; split; (· omega); (· split <;> omega)) (fun i hi => (dbB_ok (hdb i hi)).2.2.2.1) (fun d => signP_ok p d)
      have hE1 : posE l n (p + 1) = (posR l n p).2 := by simp only [posE, hp3, ne_eq, not_true_eq_false, if_false]
      have hlast := fun h => posE_stop (l := l) (n := n) (p := p + 1) h parties hlt
      have hpr : posR l n p = totT (sgnP p) l n := rfl
      rw [← hpr] at ht
      generalize hP : posR l n p = P at *
      (repeat (first | refine XK.norm rfl rfl ?_ | refine XK.rgnA hT rfl rfl rfl ?_ | refine XK.rgnB hT hm rfl rfl rfl ?_)); refine XK.region ?_; refine XL.goA hT rfl rfl rfl rfl ?_
      refine XL.callLA hE rfl rfl rfl rfl trivial rfl (ht) rfl ?_
      refine XL.goA hT rfl rfl rfl rfl ?_; refine XL.fin ?_; (repeat (first | refine XK.norm rfl rfl ?_ | refine XK.rgnA hT rfl rfl rfl ?_ | refine XK.rgnB hT hm rfl rfl rfl ?_))
      (repeat (first | refine XK.norm rfl rfl ?_ | refine XK.rgnA hT rfl rfl rfl ?_ | refine XK.rgnB hT hm rfl rfl rfl ?_)); refine XK.cond rfl (fun h2 => ?_) (fun h2 => ?_) <;> (try simp at h2)
      · exfalso; rw [hlast (by rw [hE1]; exact h2), hE1] at h0; exact h2 h0
      · (repeat (first | refine XK.norm rfl rfl ?_ | refine XK.rgnA hT rfl rfl rfl ?_ | refine XK.rgnB hT hm rfl rfl rfl ?_))
        refine XK.inv ⟨p + 1, ⟨hlt, by rw [hE1]; exact h2⟩, Weak.trans (Weak.stamp (k := 185) (t := 0) hN rfl rfl) (Weak.of hN rfl rfl rfl (by (repeat' (first | exact rfl | exact AvIs.refl _ | exact trivial | exact fun _ _ => rfl | exact fun _ _ => ⟨rfl, AvIs.refl _⟩ | refine ⟨?_, ?_⟩))) ⟨⟨rfl, rfl, rfl⟩, rfl, fun j hj => (catF_one (g := fun j => qc (posR l n j).1) (by rw [hP]; rfl) (fun j hj => rfl) j hj).symm⟩), by omega⟩
    · have hpp : p = parties := by omega
      subst hpp
      (repeat (first | refine XK.norm rfl rfl ?_ | refine XK.rgnA hT rfl rfl rfl ?_ | refine XK.rgnB hT hm rfl rfl rfl ?_))
      (first | refine XK.outR [185] hN rfl rfl rfl ?_ rfl rfl ?_ | refine XK.outRN [185] hN rfl rfl rfl ?_ rfl rfl ?_)
      · (repeat' (first | exact rfl | exact AvIs.refl _ | exact trivial | exact fun _ _ => rfl | exact fun _ _ => ⟨rfl, AvIs.refl _⟩ | refine ⟨?_, ?_⟩))
      · (repeat' (first | exact rfl | exact AvIs.refl _ | exact trivial | exact fun _ _ => rfl | exact fun _ _ => ⟨rfl, AvIs.refl _⟩ | refine ⟨?_, ?_⟩))
end Go.Proofs.Ytiiegpjpckkohaa
end
section
/- Contracts: package netting: the walk of Net. -/
namespace Go.Proofs.Ytiiegpjpckkohaa
open Go.Eng
set_option maxRecDepth 10000
set_option linter.unusedSimpArgs false
set_option linter.unusedVariables false
noncomputable def netR (P : Nat) (l : Nat → Db) (n : Nat) : List Db × Int :=
  if netB P n l = false then ([], 1) else if posE l n P ≠ 0 then ([], posE l n P) else netF P (P + 1) (fun j => (posR l n j).1) []
theorem rt_numZ {q : Q} (h : qOk q = true) (h0 : rt q = 0) : q.1 = 0 := by
  have := rt_inj h zeroQ_ok (by rw [h0, rt_zero])
  rw [this]
theorem netZ {q : Nat → Q} {d c : Nat} (qd : qOk (q d) = true) (qc' : qOk (q c) = true) (h1 : (addR (q d) (amtN q d c)).2 = 0) (h2 : (subR (q c) (amtN q d c)).2 = 0) :
    qOk (addR (q d) (amtN q d c)).1 = true ∧ qOk (subR (q c) (amtN q d c)).1 = true ∧ ((addR (q d) (amtN q d c)).1.1 = 0 ∨ (subR (q c) (amtN q d c)).1.1 = 0) := by
  obtain ⟨_, a1, a2⟩ := addR_ok h1
  obtain ⟨_, b1, b2⟩ := subR_ok h2
  refine ⟨a1, b1, ?_⟩
  by_cases h : cmpR (sgQ true (q d)) (q c) < 0
  · left
    refine rt_numZ a1 ?_
    rw [a2, amtN, if_pos h, rt_sg]
    simp
    grind
  · right
    refine rt_numZ b1 ?_
    rw [b2, amtN, if_neg h]
    grind
theorem posE_zero {l : Nat → Db} {n : Nat} : ∀ {P : Nat}, posE l n P = 0 → ∀ j, j < P → (posR l n j).2 = 0
  | 0, _, j, hj => absurd hj (Nat.not_lt_zero _)
  | P + 1, h, j, hj => by
    by_cases h0 : posE l n P = 0
    · by_cases hjp : j = P
      · subst hjp
        simp only [posE, h0, ne_eq, not_true_eq_false, if_false] at h
        exact h
      · exact posE_zero h0 j (by omega)
    · rw [posE_stop h0 (P + 1) (by omega)] at h
      exact absurd h h0
theorem totT_qOk {s : Db → Int} {l : Nat → Db} : ∀ {n : Nat}, (totT s l n).2 = 0 → qOk (totT s l n).1 = true
  | 0, _ => show qOk (0, 1) = true by decide
  | n + 1, h => by
    by_cases h0 : (totT s l n).2 = 0
    · have ih := totT_qOk h0
      simp only [totT, h0, ne_eq, not_true_eq_false, if_false] at h ⊢
      split
      · exact ih
      · rename_i h1
        rw [if_neg h1] at h
        split
        · rename_i h2
          rw [if_pos h2] at h
          exact absurd h h2
        · rename_i h2
          exact (addR_ok (by simpa using h2)).2.1
    · rw [totT_stop h0 (n + 1) (by omega)] at h
      exact absurd h h0
theorem net_ok (parties : Nat) (n : Nat) (l : Nat → Db) (hl : ∀ i, i < n → dbW (l i)) : Does Try.prog 20 [.c (.int .i64 parties), dbsV n l] (.tup [dbsV (netR parties l n).1.length (fun i => (netR parties l n).1.getD i default), .c (.int .i64 (netR parties l n).2)]) := by
  refine Does.mk (fun _ => false) TT_ok Try.func20 rfl (by kernel_rfl) Try.ntmps20 rfl rfl fun E hT hE hN hR => ?_
  have hm : E.P.follows .mixedOrders = true := by rw [hE]; kernel_rfl
  by_cases h : netB parties n l = true ∧ posE l n parties = 0
  · have hM := positionsM_ok parties n l hl h.1 h.2
    (repeat (first | refine XK.norm rfl rfl ?_ | refine XK.rgnA hT rfl rfl rfl ?_ | refine XK.rgnB hT hm rfl rfl rfl ?_)); refine XK.region ?_; refine XL.goA hT rfl rfl rfl rfl ?_
    refine XL.callMA [700] hE rfl rfl rfl rfl trivial (hM) rfl rfl rfl rfl rfl ?_
    refine XL.goA hT rfl rfl rfl rfl ?_; refine XL.fin ?_; (repeat (first | refine XK.norm rfl rfl ?_ | refine XK.rgnA hT rfl rfl rfl ?_ | refine XK.rgnB hT hm rfl rfl rfl ?_))
    (repeat (first | refine XK.norm rfl rfl ?_ | refine XK.rgnA hT rfl rfl rfl ?_ | refine XK.rgnB hT hm rfl rfl rfl ?_)); refine XK.cond rfl (fun h1 => ?_) (fun h1 => ?_) <;> (try simp at h1)
    have hR : netR parties l n = netF parties (parties + 1) (fun j => (posR l n j).1) [] := by
      unfold netR; rw [if_neg (by rw [h.1]; simp), if_neg (by simpa using h.2)]
    have hnb := (netB_true.1 h.1).1
    rw [hR]
    clear hR
    generalize hF : netF parties (parties + 1) (fun j => (posR l n j).1) [] = F
    (repeat (first | refine XK.norm rfl rfl ?_ | refine XK.rgnA hT rfl rfl rfl ?_ | refine XK.rgnB hT hm rfl rfl rfl ?_))
    refine XK.loop (ι := Nat × (Nat → Q) × List Db) (fun x => ST.of [(6, .vec 700 0), (8, .vec 701 0)] [(700, .vec 29 2 0 parties (fun j => qc (x.2.1 j))), (701, dbRow x.2.2)] 1000 95 (fun _ => false))
      (fun x => cntN x.2.1 parties ≤ x.1 ∧ x.1 ≤ parties ∧ x.2.2.length + x.1 ≤ parties ∧ (∀ j, j < parties → qOk (x.2.1 j) = true) ∧ netF parties (x.1 + 1) x.2.1 x.2.2 = F) (fun x => x.1) (parties, (fun j => (posR l n j).1), []) ⟨cntN_le _ _, Nat.le_refl _, by simp, fun j hj => totT_qOk (posE_zero h.2 j hj), hF⟩
      ?_ fun x hx => ?_
    · refine Weak.trans (Weak.ghost (j := 8) (k := 701) (e := 83) (sz := 4) (f := fun _ => []) rfl rfl) (Weak.of hN rfl rfl rfl (by (repeat' (first | exact rfl | exact AvIs.refl _ | exact trivial | exact fun _ _ => rfl | exact fun _ _ => ⟨rfl, AvIs.refl _⟩ | refine ⟨?_, ?_⟩))) ⟨⟨⟨rfl, rfl, rfl⟩, rfl, fun j hj => rfl⟩, ⟨rfl, rfl, rfl⟩, rfl, fun j hj => absurd hj (Nat.not_lt_zero _)⟩)
    obtain ⟨m, q, made⟩ := x
    obtain ⟨x1, x2, x3, x4, x5⟩ := hx
    simp only at x1 x2 x3 x4 x5
    obtain ⟨hd, hc⟩ := exL_lt q (n := parties) (by omega) parties (Nat.le_refl _)
    (repeat (first | refine XK.norm rfl rfl ?_ | refine XK.rgnA hT rfl rfl rfl ?_ | refine XK.rgnB hT hm rfl rfl rfl ?_)); refine XK.region ?_; refine XL.goA hT rfl rfl rfl rfl ?_
    refine XL.callLA hE rfl rfl rfl rfl trivial rfl (extremes_ok parties q (by omega) (fun j hj => qOk_W (x4 j hj))) rfl ?_
    refine XL.goA hT rfl rfl rfl rfl ?_; refine XL.fin ?_; (repeat (first | refine XK.norm rfl rfl ?_ | refine XK.rgnA hT rfl rfl rfl ?_ | refine XK.rgnB hT hm rfl rfl rfl ?_))
    unfold netF at x5
    generalize hdd : (exL q parties).1 = d at *
    generalize hcc : (exL q parties).2 = c at *
    (repeat (first | refine XK.norm rfl rfl ?_ | refine XK.rgnA hT rfl rfl rfl ?_ | refine XK.rgnB hT hm rfl rfl rfl ?_)); refine XK.cond rfl (fun h2 => ?_) (fun h2 => ?_)
    · rw [if_pos (by simpa using h2)] at x5
      refine XK.weak (Weak.trans (Weak.frozen (k := 701) hN rfl rfl) (Weak.of (L := [(8, dbsV made.length (fun i => made.getD i default))]) (O := []) (nx := 5000) (nt := 95) (md := fun _ => false) hN rfl rfl rfl (by (repeat' (first | exact rfl | exact AvIs.refl _ | exact trivial | exact fun _ _ => rfl | exact fun _ _ => ⟨rfl, AvIs.refl _⟩ | refine ⟨?_, ?_⟩))) trivial)) ?_
      (repeat (first | refine XK.norm rfl rfl ?_ | refine XK.rgnA hT rfl rfl rfl ?_ | refine XK.rgnB hT hm rfl rfl rfl ?_))
      (first | refine XK.outL rfl rfl rfl ?_ | refine XK.outLN rfl rfl rfl ?_)
      rw [← x5]
      exact ⟨⟨rfl, rfl, fun i _ => rfl⟩, rfl⟩
    · rw [if_neg (by simpa using h2)] at x5
      have h2' : (q d).1 < 0 ∧ 0 < (q c).1 := by simpa using h2
      have hcd : c ≠ d := fun h => by subst h; omega
      have qd := x4 d hd
      have qc' := x4 c hc
      have hop := opposite_ok (q d) qd
      have hsg : qOk (sgQ true (q d)) = true := sgQ_ok qd
      have cm := cmp_ok (sgQ true (q d)) (q c) (qOk_W hsg) (qOk_W qc')
      (repeat (first | refine XK.norm rfl rfl ?_ | refine XK.rgnA hT rfl rfl rfl ?_ | refine XK.rgnB hT hm rfl rfl rfl ?_)); refine XK.drawn hm ?_; refine XD.goA hT rfl rfl rfl rfl ?_
      refine XD.callLA hE rfl rfl rfl rfl trivial rfl (hop) rfl ?_
      refine XD.goA hT rfl rfl rfl rfl ?_
      refine XD.callLA hE rfl rfl rfl rfl trivial rfl (cm) rfl ?_
      refine XD.goA hT rfl rfl rfl rfl ?_; refine XD.fin (by kernel_rfl) ?_; (repeat (first | refine XK.norm rfl rfl ?_ | refine XK.rgnA hT rfl rfl rfl ?_ | refine XK.rgnB hT hm rfl rfl rfl ?_))
      (repeat (first | refine XK.norm rfl rfl ?_ | refine XK.rgnA hT rfl rfl rfl ?_ | refine XK.rgnB hT hm rfl rfl rfl ?_)); refine XK.join (ST.of [(6, .vec 700 0), (8, .vec 701 0), (9, .c (.int .i64 d)), (10, .c (.int .i64 c)), (11, .ptr 1201 0)] [(700, .vec 29 2 0 parties (fun j => qc (q j))), (701, dbRow made), (1201, .cells 29 (qc (amtN q d c)))] 3000 95 (fun _ => false)) rfl (fun h3 => ?_) (fun h3 => ?_) ?_
      · have ham : amtN q d c = sgQ true (q d) := if_pos (by simpa using h3)
        rw [ham]
        (repeat (first | refine XK.norm rfl rfl ?_ | refine XK.rgnA hT rfl rfl rfl ?_ | refine XK.rgnB hT hm rfl rfl rfl ?_)); refine XK.region ?_; refine XL.goA hT rfl rfl rfl rfl ?_
        refine XL.callLA hE rfl rfl rfl rfl trivial rfl (hop) rfl ?_
        refine XL.goA hT rfl rfl rfl rfl ?_; refine XL.fin ?_; (repeat (first | refine XK.norm rfl rfl ?_ | refine XK.rgnA hT rfl rfl rfl ?_ | refine XK.rgnB hT hm rfl rfl rfl ?_))
        exact XK.inv (Weak.of hN rfl rfl rfl (by (repeat' (first | exact rfl | exact AvIs.refl _ | exact trivial | exact fun _ _ => rfl | exact fun _ _ => ⟨rfl, AvIs.refl _⟩ | refine ⟨?_, ?_⟩))) (by (repeat' (first | exact rfl | exact AvIs.refl _ | exact trivial | exact fun _ _ => rfl | exact fun _ _ => ⟨rfl, AvIs.refl _⟩ | refine ⟨?_, ?_⟩))))
      · have ham : amtN q d c = q c := if_neg (by simpa using h3)
        rw [ham]
        (repeat (first | refine XK.norm rfl rfl ?_ | refine XK.rgnA hT rfl rfl rfl ?_ | refine XK.rgnB hT hm rfl rfl rfl ?_))
        exact XK.inv (Weak.of hN rfl rfl rfl (by (repeat' (first | exact rfl | exact AvIs.refl _ | exact trivial | exact fun _ _ => rfl | exact fun _ _ => ⟨rfl, AvIs.refl _⟩ | refine ⟨?_, ?_⟩))) (by (repeat' (first | exact rfl | exact AvIs.refl _ | exact trivial | exact fun _ _ => rfl | exact fun _ _ => ⟨rfl, AvIs.refl _⟩ | refine ⟨?_, ?_⟩))))
      · have ham : qOk (amtN q d c) = true := by
          unfold amtN
          split
          · exact hsg
          · exact qc'
        have ad := add_ok (q d) (amtN q d c) (qOk_W qd) (qOk_W ham)
        have sb := sub_ok (q c) (amtN q d c) (qOk_W qc') (qOk_W ham)
        have hlen : made.length ≤ 12 := by omega
        have hz := netZ (q := q) (d := d) (c := c) qd qc'
        generalize addR (q d) (amtN q d c) = xa at *
        generalize subR (q c) (amtN q d c) = ya at *
        generalize amtN q d c = am at *
        (repeat (first | refine XK.norm rfl rfl ?_ | refine XK.rgnA hT rfl rfl rfl ?_ | refine XK.rgnB hT hm rfl rfl rfl ?_))
        (repeat (first | refine XK.norm rfl rfl ?_ | refine XK.rgnA hT rfl rfl rfl ?_ | refine XK.rgnB hT hm rfl rfl rfl ?_)); refine XK.drawn hm ?_; refine XD.goA hT rfl rfl rfl rfl ?_
        refine XD.callLA hE rfl rfl rfl rfl trivial rfl (ad) rfl ?_
        refine XD.goA hT rfl rfl rfl rfl ?_; refine XD.fin (by kernel_rfl) ?_; (repeat (first | refine XK.norm rfl rfl ?_ | refine XK.rgnA hT rfl rfl rfl ?_ | refine XK.rgnB hT hm rfl rfl rfl ?_))
        (repeat (first | refine XK.norm rfl rfl ?_ | refine XK.rgnA hT rfl rfl rfl ?_ | refine XK.rgnB hT hm rfl rfl rfl ?_)); refine XK.cond rfl (fun h4 => ?_) (fun h4 => ?_) <;> (try simp at h4)
        · rw [if_pos h4] at x5
          (repeat (first | refine XK.norm rfl rfl ?_ | refine XK.rgnA hT rfl rfl rfl ?_ | refine XK.rgnB hT hm rfl rfl rfl ?_))
          (first | refine XK.outL rfl rfl rfl ?_ | refine XK.outLN rfl rfl rfl ?_)
          rw [← x5]
          exact ⟨⟨rfl, rfl⟩, rfl⟩
        · rw [if_neg (by simpa using h4)] at x5
          have sb' : Does Try.prog 24 [qv (setQ q d xa.1 c), qv am] (qr ya) := by
            have : setQ q d xa.1 c = q c := by simp only [setQ]; rw [if_neg hcd]
            rw [this]; exact sb
          refine XK.weak (Weak.trans (Weak.stamp (k := 701) (t := 0) hN rfl rfl) (Weak.of (L := [(6, .vec 700 0), (8, .vec 701 0), (9, .c (.int .i64 d)), (10, .c (.int .i64 c)), (11, .ptr 1201 0)]) (O := [(700, .vec 29 2 0 parties (fun j => qc (setQ q d xa.1 j))), (701, dbRow (made ++ [⟨d, c, am⟩])), (1201, .cells 29 (qc am))]) (nx := 4000) (nt := 95) (md := fun _ => false) hN rfl rfl rfl (by (repeat' (first | exact rfl | exact AvIs.refl _ | exact trivial | exact fun _ _ => rfl | exact fun _ _ => ⟨rfl, AvIs.refl _⟩ | refine ⟨?_, ?_⟩))) ?_)) ?_
          · refine ⟨⟨⟨rfl, rfl, rfl⟩, rfl, ?_⟩, ⟨⟨rfl, rfl, rfl⟩, by simp, ?_⟩, by (repeat' (first | exact rfl | exact AvIs.refl _ | exact trivial | exact fun _ _ => rfl | exact fun _ _ => ⟨rfl, AvIs.refl _⟩ | refine ⟨?_, ?_⟩))⟩
            · intro j hj
              show qc (setQ q d xa.1 j) = setRowF (fun j => qc (q j)) d 0 (qc xa.1) j
              rw [setRowF_eq]
              by_cases hjd : j = d
              · rw [if_pos hjd]; simp [setQ, setL, qc, hjd]
              · rw [if_neg hjd]; simp only [setQ]; rw [if_neg hjd]
            · exact fun j hj => (catF_one (g := fun j => dbC ((made ++ [Db.mk d c am]).getD j default)) (by simp [dbC]; rfl) (fun j hj => by simp [List.getElem?_append_left hj]) j (by simpa using hj)).symm
          (repeat (first | refine XK.norm rfl rfl ?_ | refine XK.rgnA hT rfl rfl rfl ?_ | refine XK.rgnB hT hm rfl rfl rfl ?_)); refine XK.drawn hm ?_; refine XD.goA hT rfl rfl rfl rfl ?_
          refine XD.callLA hE rfl rfl rfl rfl trivial rfl (sb') rfl ?_
          refine XD.goA hT rfl rfl rfl rfl ?_; refine XD.fin (by kernel_rfl) ?_; (repeat (first | refine XK.norm rfl rfl ?_ | refine XK.rgnA hT rfl rfl rfl ?_ | refine XK.rgnB hT hm rfl rfl rfl ?_))
          (repeat (first | refine XK.norm rfl rfl ?_ | refine XK.rgnA hT rfl rfl rfl ?_ | refine XK.rgnB hT hm rfl rfl rfl ?_)); refine XK.cond rfl (fun h5 => ?_) (fun h5 => ?_) <;> (try simp at h5)
          · rw [if_pos h5] at x5
            (repeat (first | refine XK.norm rfl rfl ?_ | refine XK.rgnA hT rfl rfl rfl ?_ | refine XK.rgnB hT hm rfl rfl rfl ?_))
            (first | refine XK.outL rfl rfl rfl ?_ | refine XK.outLN rfl rfl rfl ?_)
            rw [← x5]
            exact ⟨⟨rfl, rfl⟩, rfl⟩
          · rw [if_neg (by simpa using h5)] at x5
            obtain ⟨z1, z2, z3⟩ := hz h4 h5
            have hcnt : cntN (setQ (setQ q d xa.1) c ya.1) parties < cntN q parties := by
              refine cntN_lt (fun i hi h0 => ?_) ?_
              · have hid : i ≠ d := fun h => by subst h; omega
                have hic : i ≠ c := fun h => by subst h; omega
                simp only [setQ]
                rw [if_neg hic, if_neg hid]
                exact h0
              · rcases z3 with z3 | z3
                · refine ⟨d, hd, by omega, ?_⟩
                  simp only [setQ]
                  rw [if_neg (fun h => hcd h.symm), if_pos trivial]
                  exact z3
                · refine ⟨c, hc, by omega, ?_⟩
                  simp only [setQ]
                  rw [if_pos trivial]
                  exact z3
            obtain ⟨m', rfl⟩ : ∃ m', m = m' + 1 := ⟨m - 1, by omega⟩
            have hok : ∀ j, j < parties → qOk (setQ (setQ q d xa.1) c ya.1 j) = true := by
              intro j hj
              simp only [setQ]
              split
              · exact z2
              · split
                · exact z1
                · exact x4 j hj
            (repeat (first | refine XK.norm rfl rfl ?_ | refine XK.rgnA hT rfl rfl rfl ?_ | refine XK.rgnB hT hm rfl rfl rfl ?_))
            refine XK.inv ⟨(m', setQ (setQ q d xa.1) c ya.1, made ++ [⟨d, c, am⟩]), ⟨by simp only; omega, by simp only; omega, by simp; omega, hok, x5⟩, Weak.of hN rfl rfl rfl (by (repeat' (first | exact rfl | exact AvIs.refl _ | exact trivial | exact fun _ _ => rfl | exact fun _ _ => ⟨rfl, AvIs.refl _⟩ | refine ⟨?_, ?_⟩))) ?_, by simp only; omega⟩
            refine ⟨⟨⟨rfl, rfl, rfl⟩, rfl, ?_⟩, by (repeat' (first | exact rfl | exact AvIs.refl _ | exact trivial | exact fun _ _ => rfl | exact fun _ _ => ⟨rfl, AvIs.refl _⟩ | refine ⟨?_, ?_⟩))⟩
            intro j hj
            show qc (setQ (setQ q d xa.1) c ya.1 j) = setRowF (fun j => qc (setQ q d xa.1 j)) c 0 (qc ya.1) j
            rw [setRowF_eq]
            by_cases hjd : j = c
            · rw [if_pos hjd]; simp [setQ, setL, qc, hjd]
            · rw [if_neg hjd]; simp only [setQ]; rw [if_neg hjd]
  · have hV := positions_ok parties n l hl
    have hp : (positionsR parties l n).2 ≠ 0 ∧ netR parties l n = ([], (positionsR parties l n).2) := by
      unfold positionsR netR
      by_cases h1 : netB parties n l = false
      · rw [if_pos h1, if_pos h1]; exact ⟨by decide, rfl⟩
      · rw [if_neg h1, if_neg h1]
        have h2 : posE l n parties ≠ 0 := fun h2 => h ⟨by simpa using h1, h2⟩
        rw [if_pos h2]
        exact ⟨h2, rfl⟩
    generalize positionsR parties l n = x at *
    (repeat (first | refine XK.norm rfl rfl ?_ | refine XK.rgnA hT rfl rfl rfl ?_ | refine XK.rgnB hT hm rfl rfl rfl ?_)); refine XK.region ?_; refine XL.goA hT rfl rfl rfl rfl ?_
    refine XL.callKA hE rfl rfl rfl rfl trivial rfl rfl (hV) ?_
    refine XL.goA hT rfl rfl rfl rfl ?_; refine XL.fin ?_; (repeat (first | refine XK.norm rfl rfl ?_ | refine XK.rgnA hT rfl rfl rfl ?_ | refine XK.rgnB hT hm rfl rfl rfl ?_))
    (repeat (first | refine XK.norm rfl rfl ?_ | refine XK.rgnA hT rfl rfl rfl ?_ | refine XK.rgnB hT hm rfl rfl rfl ?_)); refine XK.cond rfl (fun h1 => ?_) (fun h1 => ?_) <;> (try simp at h1)
    · (repeat (first | refine XK.norm rfl rfl ?_ | refine XK.rgnA hT rfl rfl rfl ?_ | refine XK.rgnB hT hm rfl rfl rfl ?_))
      (first | refine XK.outL rfl rfl rfl ?_ | refine XK.outLN rfl rfl rfl ?_)
      rw [hp.2]
      exact ⟨⟨rfl, rfl⟩, rfl⟩
    · exact absurd h1 hp.1
end Go.Proofs.Ytiiegpjpckkohaa
end
