import Derived.Test.YtiiegpjpckkohaaPZ
import Derived.Test.YtiiegpjpckkohaaPM
import Derived.Test.YtiiegpjpckkohaaPX
section
/- Plain laws of netting: pairs, debts, positions, net. -/
namespace Go.Proofs.Ytiiegpjpckkohaa
open Go.Eng
set_option maxRecDepth 10000
set_option linter.unusedSimpArgs false
set_option linter.unusedVariables false
theorem prD_ts (s : Db → Int) (S : List Db) (a b : Nat) (v : Q) : tsL s (S ++ prD a b v) = tsL s S + (if 0 < v.1 then (s ⟨a, b, v⟩ : Rat) * rt v else if v.1 < 0 then (s ⟨b, a, sgQ true v⟩ : Rat) * (-(rt v)) else 0) := by
  unfold prD
  split
  · exact tsL_snoc _ _ _
  · split
    · rw [tsL_snoc, rt_sg]; rfl
    · rw [List.append_nil]; grind
theorem prA_ts {p q a b : Nat} (hpq : p < q) (hab : a < b) (v : Q) : (if 0 < v.1 then (sgnA p q ⟨a, b, v⟩ : Rat) * rt v else if v.1 < 0 then (sgnA p q ⟨b, a, sgQ true v⟩ : Rat) * (-(rt v)) else 0) = if a = p ∧ b = q then rt v else 0 := by
  by_cases h : a = p ∧ b = q
  · obtain ⟨rfl, rfl⟩ := h
    have e1 : sgnA a b ⟨a, b, v⟩ = 1 := by unfold sgnA; rw [if_pos ⟨rfl, rfl⟩]
    have e2 : sgnA a b ⟨b, a, sgQ true v⟩ = -1 := by
      unfold sgnA
      rw [if_neg (fun h => by have := h.1; simp only at this; omega), if_pos ⟨rfl, rfl⟩]
    rw [e1, e2, if_pos (show a = a ∧ b = b from ⟨rfl, rfl⟩)]
    split
    · simp
    · split
      · simp; grind
      · rw [rt_num0 (by omega)]
  · have e1 : sgnA p q ⟨a, b, v⟩ = 0 := by
      unfold sgnA
      rw [if_neg (fun h' => h (by simp only at h'; omega)), if_neg (fun h' => by simp only at h'; omega)]
    have e2 : sgnA p q ⟨b, a, sgQ true v⟩ = 0 := by
      unfold sgnA
      rw [if_neg (fun h' => by simp only at h'; omega), if_neg (fun h' => h (by simp only at h'; omega))]
    rw [e1, e2, if_neg h]
    simp
theorem pairL_ts {l : Nat → Db} {n : Nat} {p q : Nat} (hpq : p < q) (a : Nat) (S : List Db) : ∀ b, tsL (sgnA p q) (pairL l n a S b) = tsL (sgnA p q) S + if a = p ∧ q < b then rt (prR l n p q).1 else 0
  | 0 => by rw [if_neg (by omega)]; simp only [pairL]; grind
  | b + 1 => by
    have ih := pairL_ts hpq a S b (l := l) (n := n)
    simp only [pairL]
    by_cases h : b ≤ a
    · rw [if_pos h, ih]
      congr 1
      by_cases h1 : a = p ∧ q < b
      · rw [if_pos h1, if_pos (by omega)]
      · rw [if_neg h1, if_neg (by omega)]
    · rw [if_neg h, prD_ts, ih, prA_ts hpq (by omega)]
      by_cases h1 : a = p ∧ b = q
      · obtain ⟨rfl, rfl⟩ := h1
        rw [if_neg (by omega), if_pos ⟨rfl, rfl⟩, if_pos (by omega)]
        grind
      · rw [if_neg h1]
        by_cases h2 : a = p ∧ q < b
        · rw [if_pos h2, if_pos (by omega)]; grind
        · rw [if_neg h2, if_neg (by omega)]; grind
theorem allL_ts {l : Nat → Db} {n P : Nat} {p q : Nat} (hpq : p < q) (hq : q < P) : ∀ a, tsL (sgnA p q) (allL l n P a) = if p < a then rt (prR l n p q).1 else 0
  | 0 => by simp [allL, tsL_nil]
  | a + 1 => by
    have ih := allL_ts (l := l) (n := n) hpq hq a
    simp only [allL]
    rw [pairL_ts hpq, ih]
    by_cases h1 : p < a
    · rw [if_pos h1, if_neg (by omega), if_pos (by omega)]; grind
    · rw [if_neg h1]
      by_cases h2 : a = p
      · rw [if_pos ⟨h2, hq⟩, if_pos (by omega)]; grind
      · rw [if_neg (by omega), if_neg (by omega)]; grind
theorem pairs_zero {P : Nat} {l : Nat → Db} {n : Nat} (h : (pairsR P l n).2 = 0) : netB P n l = true ∧ allE l n P P = 0 ∧ pairsR P l n = (allL l n P P, 0) := by
  unfold pairsR at h ⊢
  split at h
  · cases h
  · rename_i h1
    rw [if_neg h1]
    split at h
    · rename_i h2; exact absurd h h2
    · rename_i h2
      rw [if_neg h2]
      exact ⟨by simpa using h1, by simpa using h2, rfl⟩
/-- What stands between two parties after netting is what stood between them. -/
theorem pairs_between {P : Nat} {l : Nat → Db} {n : Nat} {p q : Nat} (hp : p < P) (hq : q < P) (hpq : p ≠ q) (h : (pairsR P l n).2 = 0)
    (hb : (betT p q (fun i => (pairsR P l n).1.getD i default) (pairsR P l n).1.length).2 = 0) :
    qOk (betT p q (fun i => (pairsR P l n).1.getD i default) (pairsR P l n).1.length).1 = true ∧ rt (betT p q (fun i => (pairsR P l n).1.getD i default) (pairsR P l n).1.length).1 = ts (sgnA p q) l n := by
  obtain ⟨h1, h2, h3⟩ := pairs_zero h
  obtain ⟨b1, b2⟩ := betT_ts hb
  refine ⟨b1, b2.trans ?_⟩
  rw [h3]
  show tsL (sgnA p q) (allL l n P P) = _
  by_cases hlt : p < q
  · rw [allL_ts hlt hq, if_pos hp]
    exact totT_ts (allE_zero h2 p q hp hlt hq)
  · have hlt : q < p := by omega
    have e1 : tsL (sgnA p q) (allL l n P P) = -tsL (sgnA q p) (allL l n P P) := ts_neg fun i hi => sgnA_swap (by omega) _
    rw [e1, allL_ts hlt hp, if_pos hq]
    rw [show ts (sgnA p q) l n = -ts (sgnA q p) l n from ts_neg fun i hi => sgnA_swap (by omega) _]
    congr 1
    exact totT_ts (allE_zero h2 q p hq hlt hp)
theorem rowE_cd {l : Nat → Db} {n a : Nat} {s : Int} (hs : s = 0 ∨ s = 2) (h : ∀ i, i < n → qOk (l i).amt = true) : ∀ b, rowE l n a s b = 0 ∨ rowE l n a s b = 2
  | 0 => hs
  | b + 1 => by
    have ih := rowE_cd (a := a) hs h b
    simp only [rowE]
    split
    · exact ih
    · split
      · exact ih
      · exact totT_cd (sgnA_cd _ _) h
theorem allE_cd {l : Nat → Db} {n P : Nat} (h : ∀ i, i < n → qOk (l i).amt = true) : ∀ a, allE l n P a = 0 ∨ allE l n P a = 2
  | 0 => .inl rfl
  | a + 1 => rowE_cd (allE_cd h a) h P
theorem posE_cd {l : Nat → Db} {n : Nat} (h : ∀ i, i < n → qOk (l i).amt = true) : ∀ a, posE l n a = 0 ∨ posE l n a = 2
  | 0 => .inl rfl
  | a + 1 => by
    simp only [posE]
    split
    · exact posE_cd h a
    · exact totT_cd (sgnP_cd _) h
theorem pos_ts {l : Nat → Db} {n P : Nat} (h : posE l n P = 0) {p : Nat} (hp : p < P) : qOk (posR l n p).1 = true ∧ rt (posR l n p).1 = ts (sgnP p) l n :=
  ⟨totT_qOk (posE_zero h p hp), totT_ts (posE_zero h p hp)⟩
/-- The least and the greatest. -/
theorem exL_most {q : Nat → Q} {P : Nat} (hP : 0 < P) (hq : ∀ j, j < P → qOk (q j) = true) : ∀ i, i ≤ P → ∀ j, j < i → rt (q (exL q i).1) ≤ rt (q j) ∧ rt (q j) ≤ rt (q (exL q i).2)
  | 0, _, _, h => absurd h (Nat.not_lt_zero _)
  | i + 1, hi, j, hj => by
    have ih := exL_most hP hq i (by omega)
    obtain ⟨e1, e2⟩ := exL_lt q hP i (by omega)
    have c1 := cmpR_lt (hq i (by omega)) (hq _ e1)
    have c2 := cmpR_gt (hq i (by omega)) (hq _ e2)
    simp only [exL]
    constructor
    · split
      · rename_i h1
        have h1 := c1.1 h1
        by_cases hji : j = i
        · subst hji; grind
        · have := (ih j (by omega)).1; grind
      · rename_i h1
        have h1 : ¬ rt (q i) < rt (q (exL q i).1) := fun h => h1 (c1.2 h)
        by_cases hji : j = i
        · subst hji; grind
        · exact (ih j (by omega)).1
    · split
      · rename_i h1
        have h1 := c2.1 h1
        by_cases hji : j = i
        · subst hji; grind
        · have := (ih j (by omega)).2; grind
      · rename_i h1
        have h1 : ¬ rt (q (exL q i).2) < rt (q i) := fun h => h1 (c2.2 h)
        by_cases hji : j = i
        · subst hji; grind
        · exact (ih j (by omega)).2
theorem rt_neg_iff {q : Q} (h : qOk q = true) : (0 ≤ q.1 → 0 ≤ rt q) ∧ (q.1 ≤ 0 → rt q ≤ 0) := by
  refine ⟨rt_nonneg h, fun h0 => ?_⟩
  have := rt_nonneg (q := sgQ true q) (sgQ_ok h) (by simp [sgQ]; omega)
  rw [rt_sg] at this
  simp at this
  grind
/-- Where no more is moved, all positions are 0. -/
theorem net_end {q : Nat → Q} {P : Nat} (hP : 0 < P) (hq : ∀ j, j < P → qOk (q j) = true) (h0 : sm (fun j => rt (q j)) P = 0) (h : 0 ≤ (q (exL q P).1).1 ∨ (q (exL q P).2).1 ≤ 0) : ∀ j, j < P → rt (q j) = 0 := by
  have hm := exL_most hP hq P (Nat.le_refl _)
  obtain ⟨e1, e2⟩ := exL_lt q hP P (Nat.le_refl _)
  rcases h with h | h
  · have := (rt_neg_iff (hq _ e1)).1 h
    exact (sm_nonneg (f := fun j => rt (q j)) (n := P) fun j hj => by have := (hm j hj).1; grind).2 h0
  · have := (rt_neg_iff (hq _ e2)).2 h
    have hh := (sm_nonneg (f := fun j => -rt (q j)) (n := P) fun j hj => by have := (hm j hj).2; grind).2 (by rw [sm_neg, h0]; simp)
    intro j hj
    have := hh j hj
    grind
theorem netF_ps {P : Nat} (hP : 0 < P) : ∀ (fuel : Nat) (q : Nat → Q) (m : List Db), cntN q P < fuel → (∀ j, j < P → qOk (q j) = true) → sm (fun j => rt (q j)) P = 0 → ((netF P fuel q m).2 = 0 ∨ (netF P fuel q m).2 = 2) ∧
    ((netF P fuel q m).2 = 0 → ∀ p : Nat, p < P → tsL (sgnP p) (netF P fuel q m).1 = tsL (sgnP p) m + rt (q p))
  | 0, _, _, h, _, _ => absurd h (Nat.not_lt_zero _)
  | fuel + 1, q, m, hc, hq, h0 => by
    obtain ⟨hd, hcc⟩ := exL_lt q hP P (Nat.le_refl _)
    simp only [netF]
    have hend := net_end hP hq h0
    generalize (exL q P).1 = d at *
    generalize (exL q P).2 = c at *
    split
    · rename_i h1
      refine ⟨.inl rfl, fun _ p hp => ?_⟩
      rw [hend h1 p hp]; grind
    · rename_i h1
      have hcd : c ≠ d := fun h => by subst h; omega
      have qd := hq d hd
      have qc' := hq c hcc
      have ham : qOk (amtN q d c) = true := by
        unfold amtN
        split
        · exact sgQ_ok qd
        · exact qc'
      have hz := netZ (q := q) (d := d) (c := c) qd qc'
      have a3 := addR_ok (a := q d) (b := amtN q d c)
      have b3 := subR_ok (a := q c) (b := amtN q d c)
      have ac := addR_cd qd ham
      have bc := subR_cd qc' ham
      generalize addR (q d) (amtN q d c) = xa at *
      generalize subR (q c) (amtN q d c) = ya at *
      generalize amtN q d c = am at *
      split
      · rename_i h2
        exact ⟨.inr (ac.resolve_left h2), fun h => absurd h h2⟩
      · rename_i h2
        split
        · rename_i h3
          exact ⟨.inr (bc.resolve_left h3), fun h => absurd h h3⟩
        · rename_i h3
          have h2 : xa.2 = 0 := by simpa using h2
          have h3 : ya.2 = 0 := by simpa using h3
          obtain ⟨z1, z2, z3⟩ := hz h2 h3
          have a4 := (a3 h2).2.2
          have b4 := (b3 h3).2.2
          have hqj : ∀ j, setQ (setQ q d xa.1) c ya.1 j = if j = c then ya.1 else if j = d then xa.1 else q j := fun j => by simp only [setQ]
          have hrt : ∀ j, rt (setQ (setQ q d xa.1) c ya.1 j) = rt (q j) + ((if j = c then -(rt am) else 0) + (if j = d then rt am else 0)) := by
            intro j
            rw [hqj]
            by_cases hjc : j = c
            · rw [if_pos hjc, if_pos hjc, if_neg (fun h => hcd (hjc.symm.trans h)), b4, hjc]; grind
            · rw [if_neg hjc, if_neg hjc]
              by_cases hjd : j = d
              · rw [if_pos hjd, if_pos hjd, a4, hjd]; grind
              · rw [if_neg hjd, if_neg hjd]; grind
          have hcnt : cntN (setQ (setQ q d xa.1) c ya.1) P < cntN q P := by
            refine cntN_lt (fun i hi h0 => ?_) ?_
            · have hid : i ≠ d := fun h => by subst h; omega
              have hic : i ≠ c := fun h => by subst h; omega
              rw [hqj, if_neg hic, if_neg hid]
              exact h0
            · rcases z3 with z3 | z3
              · refine ⟨d, hd, by omega, ?_⟩
                rw [hqj, if_neg (fun h => hcd h.symm), if_pos rfl]
                exact z3
              · refine ⟨c, hcc, by omega, ?_⟩
                rw [hqj, if_pos rfl]
                exact z3
          have hok : ∀ j, j < P → qOk (setQ (setQ q d xa.1) c ya.1 j) = true := by
            intro j hj
            rw [hqj]
            split
            · exact z2
            · split
              · exact z1
              · exact hq j hj
          have hs : sm (fun j => rt (setQ (setQ q d xa.1) c ya.1 j)) P = 0 := by
            rw [sm_congr fun j _ => hrt j, sm_add, sm_add, sm_one, sm_one, if_pos hcc, if_pos hd, h0]
            grind
          obtain ⟨r1, r2⟩ := netF_ps hP fuel _ (m ++ [⟨d, c, am⟩]) (by omega) hok hs
          refine ⟨r1, fun h p hp => ?_⟩
          rw [r2 h p hp, tsL_snoc, hrt]
          show _ + ((sgnP p ⟨d, c, am⟩ : Int) : Rat) * rt am + _ = _
          have : ((sgnP p ⟨d, c, am⟩ : Int) : Rat) = if p = c then 1 else if p = d then -1 else 0 := by
            unfold sgnP
            by_cases hpc : p = c
            · rw [if_pos hpc, if_pos (by simp [hpc])]; rfl
            · rw [if_neg hpc, if_neg (by simp; omega)]
              by_cases hpd : p = d
              · rw [if_pos hpd, if_pos (by simp [hpd])]; rfl
              · rw [if_neg hpd, if_neg (by simp; omega)]; rfl
          rw [this]
          by_cases hpc : p = c
          · rw [if_pos hpc, if_pos hpc, if_neg (fun h => hcd (hpc.symm.trans h))]; grind
          · rw [if_neg hpc, if_neg hpc]
            by_cases hpd : p = d
            · rw [if_pos hpd, if_pos hpd]; grind
            · rw [if_neg hpd, if_neg hpd]; grind
theorem net_ps {P : Nat} {l : Nat → Db} {n : Nat} (hP : 0 < P) (h1 : netB P n l = true) (h2 : posE l n P = 0) : ((netR P l n).2 = 0 ∨ (netR P l n).2 = 2) ∧ ((netR P l n).2 = 0 → ∀ p : Nat, p < P → tsL (sgnP p) (netR P l n).1 = rt (posR l n p).1) := by
  have hR : netR P l n = netF P (P + 1) (fun j => (posR l n j).1) [] := by
    unfold netR; rw [if_neg (by rw [h1]; simp), if_neg (by simpa using h2)]
  rw [hR]
  have hsum : sm (fun j => rt (posR l n j).1) P = 0 := by
    rw [sm_congr (g := fun p => ts (sgnP p) l n) fun j hj => (pos_ts h2 hj).2]
    exact sm_ts (netB_true.1 h1).2
  obtain ⟨r1, r2⟩ := netF_ps hP (P + 1) (fun j => (posR l n j).1) [] (by have := cntN_le (fun j => (posR l n j).1) P; omega) (fun j hj => (pos_ts h2 hj).1) hsum
  refine ⟨r1, fun h p hp => ?_⟩
  rw [r2 h p hp, tsL_nil]; grind
theorem net_cd {P : Nat} {l : Nat → Db} {n : Nat} (hP : 0 < P) (h1 : netB P n l = true) : (netR P l n).2 = 0 ∨ (netR P l n).2 = 2 := by
  by_cases h2 : posE l n P = 0
  · exact (net_ps hP h1 h2).1
  · unfold netR
    rw [if_neg (by rw [h1]; simp), if_pos h2]
    exact posE_cd (fun i hi => (dbB_ok ((netB_true.1 h1).2 i hi)).2.2.2.1) P
theorem netF_W {P : Nat} (hP : 0 < P) (hP2 : P ≤ 12) : ∀ (fuel : Nat) (q : Nat → Q) (m : List Db), (∀ j, j < P → qOk (q j) = true) → (∀ d ∈ m, dbW d) → ∀ d ∈ (netF P fuel q m).1, dbW d
  | 0, _, _, _, hm => hm
  | fuel + 1, q, m, hq, hm => by
    obtain ⟨hd, hcc⟩ := exL_lt q hP P (Nat.le_refl _)
    simp only [netF]
    generalize (exL q P).1 = d at *
    generalize (exL q P).2 = c at *
    split
    · exact hm
    · split
      · intro x hx; simp at hx
      · rename_i h2
        split
        · intro x hx; simp at hx
        · rename_i h3
          have qd := hq d hd
          have qc' := hq c hcc
          have ham : qOk (amtN q d c) = true := by
            unfold amtN
            split
            · exact sgQ_ok qd
            · exact qc'
          refine netF_W hP hP2 fuel _ _ (fun j hj => ?_) (fun x hx => ?_)
          · simp only [setQ]
            split
            · exact (subR_ok (by simpa using h3)).2.1
            · split
              · exact (addR_ok (by simpa using h2)).2.1
              · exact hq j hj
          · rcases List.mem_append.1 hx with hx | hx
            · exact hm x hx
            · rw [List.mem_singleton.1 hx]
              exact ⟨by simp only [inK]; omega, by simp only [inK]; omega, qOk_W ham⟩
theorem net_W {P : Nat} {l : Nat → Db} {n : Nat} : ∀ i, i < (netR P l n).1.length → dbW ((netR P l n).1.getD i default) := by
  intro i hi
  have hall : ∀ d ∈ (netR P l n).1, dbW d := by
    unfold netR
    split
    · intro d hd; simp at hd
    · rename_i h1
      have hv : netB P n l = true := by simpa using h1
      have hP := (netB_true.1 hv).1.1
      split
      · intro d hd; simp at hd
      · rename_i h2
        exact netF_W (by omega) (by omega) _ _ _ (fun j hj => (pos_ts (by simpa using h2) hj).1) (fun d hd => by simp at hd)
  rw [List.getD_eq_getElem?_getD, List.getElem?_eq_getElem hi]
  exact hall _ (List.getElem_mem hi)
theorem pairL_W {l : Nat → Db} {n a P : Nat} {S : List Db} (ha : a < P) (hP2 : P ≤ 12) (hS : ∀ d ∈ S, dbW d) : ∀ b, b ≤ P → (∀ b', a < b' → b' < b → (prR l n a b').2 = 0) → ∀ d ∈ pairL l n a S b, dbW d
  | 0, _, _ => hS
  | b + 1, hb, h => by
    have ih := pairL_W ha hP2 hS b (by omega) (fun b' h1 h2 => h b' h1 (by omega))
    simp only [pairL]
    split
    · exact ih
    · intro d hd
      rcases List.mem_append.1 hd with hd | hd
      · exact ih d hd
      · have hq := totT_qOk (h b (by omega) (by omega))
        have hq : qOk (prR l n a b).1 = true := hq
        unfold prD at hd
        split at hd
        · rw [List.mem_singleton.1 hd]
          exact ⟨by simp only [inK]; omega, by simp only [inK]; omega, qOk_W hq⟩
        · split at hd
          · rw [List.mem_singleton.1 hd]
            exact ⟨by simp only [inK]; omega, by simp only [inK]; omega, qOk_W (sgQ_ok hq)⟩
          · simp at hd
theorem allL_W {l : Nat → Db} {n P : Nat} (hP2 : P ≤ 12) (h : allE l n P P = 0) : ∀ a, a ≤ P → ∀ d ∈ allL l n P a, dbW d
  | 0, _ => fun d hd => by simp [allL] at hd
  | a + 1, ha => pairL_W (by omega) hP2 (allL_W hP2 h a (by omega)) P (Nat.le_refl _) (fun b' h1 h2 => allE_zero h a b' (by omega) h1 h2)
theorem pairs_W {P : Nat} {l : Nat → Db} {n : Nat} : ∀ i, i < (pairsR P l n).1.length → dbW ((pairsR P l n).1.getD i default) := by
  intro i hi
  have hall : ∀ d ∈ (pairsR P l n).1, dbW d := by
    unfold pairsR
    split
    · intro d hd; simp at hd
    · rename_i h1
      have hv : netB P n l = true := by simpa using h1
      have hP := (netB_true.1 hv).1.1
      split
      · intro d hd; simp at hd
      · rename_i h2
        exact allL_W (by omega) (by simpa using h2) P (Nat.le_refl _)
  rw [List.getD_eq_getElem?_getD, List.getElem?_eq_getElem hi]
  exact hall _ (List.getElem_mem hi)
end Go.Proofs.Ytiiegpjpckkohaa
end
section
/- Plain laws of TopNetted: the debts, and what they come to. -/
namespace Go.Proofs.Ytiiegpjpckkohaa
open Go.Eng
set_option maxRecDepth 10000
set_option linter.unusedSimpArgs false
set_option linter.unusedVariables false
noncomputable def dmV (k : K) (l : List Int) (t : Tm) (u : Int) (p q : Nat) : Q := (damagesR k l t p q u).1.val
theorem rowT_ts {k : K} {l : List Int} {t : Tm} {u : Int} {p : Nat} {S : List Db × Bool} (s : Db → Int) : ∀ {q : Nat}, (rowT k l t u p S q).2 = true →
    S.2 = true ∧ (∀ q', q' < q → p ≠ q' → (damagesR k l t p q' u).2 = 0) ∧
    tsL s (rowT k l t u p S q).1 = tsL s S.1 + sm (fun q' => if p = q' then 0 else (s ⟨p, q', dmV k l t u p q'⟩ : Rat) * rt (dmV k l t u p q')) q
  | 0, h => ⟨h, fun _ h => absurd h (Nat.not_lt_zero _), by simp only [rowT, sm]; grind⟩
  | q + 1, h => by
    by_cases h0 : (rowT k l t u p S q).2 = true
    · obtain ⟨i1, i2, i3⟩ := rowT_ts s h0
      have hd : dmV k l t u p q = (damagesR k l t p q u).1.val := rfl
      simp only [rowT, h0, Bool.true_eq_false, if_false, sm] at h ⊢
      by_cases hpq : p = q
      · rw [if_pos hpq] at h ⊢
        refine ⟨i1, fun q' hq' hne => i2 q' (by omega) hne, ?_⟩
        rw [i3, if_pos hpq]; grind
      · rw [if_neg hpq] at h ⊢
        by_cases he : (damagesR k l t p q u).2 = 0
        · rw [if_neg (by simpa using he)] at h ⊢
          refine ⟨i1, fun q' hq' hne => ?_, ?_⟩
          · by_cases hqq : q' = q
            · subst hqq; exact he
            · exact i2 q' (by omega) hne
          · rw [if_neg hpq, ← hd]
            split
            · simp only
              rw [tsL_snoc, i3]; grind
            · rename_i hz
              rw [i3, rt_num0 (show (dmV k l t u p q).1 = 0 by simpa using hz)]
              grind
        · rw [if_pos he] at h
          cases h
    · rw [rowT_stop (by simpa using h0) (q + 1) (by omega)] at h
      exact absurd h h0
theorem debT_ts {k : K} {l : List Int} {t : Tm} {u : Int} {P : Nat} (s : Db → Int) : ∀ {a : Nat}, (debT k l t u P a).2 = true →
    (∀ p q, p < a → q < P → p ≠ q → (damagesR k l t p q u).2 = 0) ∧
    tsL s (debT k l t u P a).1 = sm (fun p => sm (fun q => if p = q then 0 else (s ⟨p, q, dmV k l t u p q⟩ : Rat) * rt (dmV k l t u p q)) P) a
  | 0, _ => ⟨fun _ _ h => absurd h (Nat.not_lt_zero _), rfl⟩
  | a + 1, h => by
    by_cases h0 : (debT k l t u P a).2 = true
    · obtain ⟨i1, i2⟩ := debT_ts s h0
      simp only [debT, h0, Bool.true_eq_false, if_false, sm] at h ⊢
      obtain ⟨j1, j2, j3⟩ := rowT_ts s h
      refine ⟨fun p q hp hq hpq => ?_, by rw [j3, i2]⟩
      by_cases hpa : p = a
      · subst hpa; exact j2 q hq hpq
      · exact i1 p q (by omega) hq hpq
    · rw [debT_stop (by simpa using h0) (a + 1) (by omega)] at h
      exact absurd h h0
theorem rowT_all {k : K} {l : List Int} {t : Tm} {u : Int} {p : Nat} {S : List Db × Bool} {T : Db → Prop} (hS : ∀ d ∈ S.1, T d)
    (hT : ∀ q, p ≠ q → (damagesR k l t p q u).2 = 0 → (damagesR k l t p q u).1.val.1 ≠ 0 → T ⟨p, q, (damagesR k l t p q u).1.val⟩) : ∀ q, ∀ d ∈ (rowT k l t u p S q).1, T d
  | 0, d, h => hS d h
  | q + 1, d, h => by
    have ih := rowT_all hS hT q
    simp only [rowT] at h
    split at h
    · exact ih d h
    · split at h
      · exact ih d h
      · rename_i hpq
        split at h
        · simp at h
        · rename_i he
          split at h
          · rename_i hz
            rcases List.mem_append.1 h with h | h
            · exact ih d h
            · rw [List.mem_singleton.1 h]
              exact hT q hpq (by simpa using he) hz
          · exact ih d h
theorem debT_all {k : K} {l : List Int} {t : Tm} {u : Int} {P : Nat} {T : Db → Prop}
    (hT : ∀ p q : Nat, p ≠ q → (damagesR k l t p q u).2 = 0 → (damagesR k l t p q u).1.val.1 ≠ 0 → T ⟨p, q, (damagesR k l t p q u).1.val⟩) : ∀ a, ∀ d ∈ (debT k l t u P a).1, T d
  | 0, d, h => by simp [debT] at h
  | a + 1, d, h => by
    simp only [debT] at h
    split at h
    · exact debT_all hT a d h
    · exact rowT_all (debT_all hT a) (hT a) P d h
/-- The debts are valid. -/
theorem deb_valid {k : K} (hk : kW k) {l : List Int} {t : Tm} {u : Int} (hp : 1 ≤ k.parties ∧ k.parties ≤ 12) :
    netB k.parties (debT k l t u k.parties.toNat k.parties.toNat).1.length (fun i => (debT k l t u k.parties.toNat k.parties.toNat).1.getD i default) = true := by
  refine netB_true.2 ⟨⟨hp, ?_⟩, fun i hi => ?_⟩
  · have := debT_len k l t u k.parties.toNat k.parties.toNat
    have hm : k.parties.toNat * k.parties.toNat ≤ 12 * 12 := Nat.mul_le_mul (by omega) (by omega)
    omega
  · have hall := debT_all (k := k) (l := l) (t := t) (u := u) (P := k.parties.toNat) (T := fun d => dbB k.parties d = true) (fun p q hpq he hz => ?_) k.parties.toNat
    · refine hall _ ?_
      rw [List.getD_eq_getElem?_getD, List.getElem?_eq_getElem hi]
      exact List.getElem_mem hi
    · obtain ⟨_, h2, _⟩ := damages_zero he
      obtain ⟨_, _, h4, h5, h6, _⟩ := asked_valid h2
      have h7 := damages_qOk he
      have h8 := dam_nonneg hk he
      simp [dbB]
      refine ⟨by omega, h7.1, by omega⟩
theorem deb_W {k : K} {l : List Int} {t : Tm} {u : Int} {P : Nat} (ht : tmW t) (hP : P ≤ 12) (h : ∀ i, i < (debT k l t u P P).1.length → dbB P ((debT k l t u P P).1.getD i default) = true) : ∀ i, i < (debT k l t u P P).1.length → dbW ((debT k l t u P P).1.getD i default) := by
  intro i hi
  obtain ⟨h1, h2, _, h4, _⟩ := dbB_ok (h i hi)
  exact ⟨by simp only [inK]; omega, by simp only [inK]; omega, qOk_W h4⟩
theorem sgnA_pair (p q a b : Nat) (h : p ≠ q) (x : Rat) (v : Q) : (if a = b then (0 : Rat) else (sgnA p q ⟨a, b, v⟩ : Rat) * x) = (if b = q then (if a = p then x else 0) else 0) + (if b = p then (if a = q then -x else 0) else 0) := by
  by_cases h1 : a = b
  · subst h1
    rw [if_pos rfl]
    by_cases h2 : a = p
    · rw [if_neg (fun h3 => h (h2.symm.trans h3)), if_pos h2, if_neg (fun h3 => h (h2.symm.trans h3))]; grind
    · rw [if_neg h2, if_neg h2]; split <;> grind
  · rw [if_neg h1]
    unfold sgnA
    by_cases h2 : a = p ∧ b = q
    · obtain ⟨rfl, rfl⟩ := h2
      rw [if_pos ⟨rfl, rfl⟩, if_pos rfl, if_pos rfl, if_neg (fun h3 => h h3.symm)]
      simp; grind
    · rw [if_neg (by simp only; omega)]
      by_cases h3 : a = q ∧ b = p
      · obtain ⟨rfl, rfl⟩ := h3
        rw [if_pos ⟨rfl, rfl⟩, if_neg h, if_pos rfl, if_pos rfl]
        simp; grind
      · rw [if_neg (by simp only; omega)]
        by_cases h4 : b = q
        · rw [if_pos h4, if_neg (fun h5 => h2 ⟨h5, h4⟩)]
          by_cases h6 : b = p
          · exact absurd (h6.symm.trans h4) h
          · rw [if_neg h6]; simp; grind
        · rw [if_neg h4]
          by_cases h6 : b = p
          · rw [if_pos h6, if_neg (fun h5 => h3 ⟨h5, h6⟩)]; simp; grind
          · rw [if_neg h6]; simp; grind
/-- What stands between two parties: the difference of both damages. -/
theorem deb_between {k : K} {l : List Int} {t : Tm} {u : Int} {P p q : Nat} (hp : p < P) (hq : q < P) (hpq : p ≠ q) (h : (debT k l t u P P).2 = true) :
    tsL (sgnA p q) (debT k l t u P P).1 = rt (dmV k l t u p q) - rt (dmV k l t u q p) := by
  rw [(debT_ts (sgnA p q) h).2]
  have e : ∀ a, a < P → sm (fun b => if a = b then 0 else (sgnA p q ⟨a, b, dmV k l t u a b⟩ : Rat) * rt (dmV k l t u a b)) P = (if a = p then rt (dmV k l t u p q) else 0) + (if a = q then -rt (dmV k l t u q p) else 0) := by
    intro a ha
    rw [sm_congr (g := fun b => (if b = q then (if a = p then rt (dmV k l t u p q) else 0) else 0) + (if b = p then (if a = q then -rt (dmV k l t u q p) else 0) else 0)) fun b hb => ?_, sm_add, sm_one, sm_one, if_pos hq, if_pos hp]
    rw [sgnA_pair p q a b hpq]
    congr 1
    · by_cases h1 : b = q
      · rw [if_pos h1, if_pos h1]
        by_cases h2 : a = p
        · rw [if_pos h2, if_pos h2, h1, h2]
        · rw [if_neg h2, if_neg h2]
      · rw [if_neg h1, if_neg h1]
    · by_cases h1 : b = p
      · rw [if_pos h1, if_pos h1]
        by_cases h2 : a = q
        · rw [if_pos h2, if_pos h2, h1, h2]
        · rw [if_neg h2, if_neg h2]
      · rw [if_neg h1, if_neg h1]
  rw [sm_congr e, sm_add, sm_one, sm_one, if_pos hp, if_pos hq]
  grind
theorem sgnP_pair (p a b : Nat) (x : Rat) (v : Q) : (if a = b then (0 : Rat) else (sgnP p ⟨a, b, v⟩ : Rat) * x) = (if b = p then (if a = p then 0 else x) else 0) + (if a = p then (if b = p then 0 else -x) else 0) := by
  unfold sgnP
  by_cases h1 : a = b
  · subst h1
    rw [if_pos rfl]
    by_cases h2 : a = p
    · rw [if_pos h2, if_pos h2, if_pos h2, if_pos h2]; grind
    · rw [if_neg h2, if_neg h2]; grind
  · rw [if_neg h1]
    by_cases h2 : b = p
    · rw [if_pos (by simp only; omega), if_pos h2, if_neg (by omega)]; simp; grind
    · rw [if_neg (by simp only; omega), if_neg h2]
      by_cases h3 : a = p
      · rw [if_pos (by simp only; omega), if_pos h3, if_neg h2]; simp; grind
      · rw [if_neg (by simp only; omega), if_neg h3]; simp; grind
/-- A party's position: what it is owed less what it owes. -/
theorem deb_pos {k : K} {l : List Int} {t : Tm} {u : Int} {P p : Nat} (hp : p < P) (h : (debT k l t u P P).2 = true) :
    tsL (sgnP p) (debT k l t u P P).1 = -sm (fun q => if p = q then 0 else rt (dmV k l t u p q) - rt (dmV k l t u q p)) P := by
  rw [(debT_ts (sgnP p) h).2]
  have e : ∀ a, a < P → sm (fun b => if a = b then 0 else (sgnP p ⟨a, b, dmV k l t u a b⟩ : Rat) * rt (dmV k l t u a b)) P = (if a = p then 0 else rt (dmV k l t u a p)) + (if a = p then sm (fun b => if b = p then 0 else -rt (dmV k l t u p b)) P else 0) := by
    intro a ha
    rw [sm_congr (g := fun b => (if b = p then (if a = p then 0 else rt (dmV k l t u a p)) else 0) + (if a = p then (if b = p then 0 else -rt (dmV k l t u p b)) else 0)) fun b hb => ?_, sm_add, sm_one, if_pos hp]
    · congr 1
      by_cases h1 : a = p
      · rw [if_pos h1]; exact sm_congr fun b _ => if_pos h1
      · rw [if_neg h1]; exact sm_zero fun b _ => if_neg h1
    · rw [sgnP_pair p a b]
      congr 1
      · by_cases h1 : b = p
        · rw [if_pos h1, if_pos h1, h1]
        · rw [if_neg h1, if_neg h1]
      · by_cases h1 : a = p
        · rw [if_pos h1, if_pos h1, h1]
        · rw [if_neg h1, if_neg h1]
  rw [sm_congr e, sm_add, sm_one, if_pos hp, ← sm_add, ← sm_neg]
  refine sm_congr fun q hq => ?_
  by_cases h1 : p = q
  · subst h1; rw [if_pos rfl, if_pos rfl, if_pos rfl]; grind
  · rw [if_neg (fun h => h1 h.symm), if_neg (fun h => h1 h.symm), if_neg h1]; grind
theorem balance_zero {k : K} {l : List Int} {t : Tm} {p q u : Int} (h : (balanceR k l t p q u).2 = 0) : qOk (balanceR k l t p q u).1.val = true ∧ rt (balanceR k l t p q u).1.val = rt (damagesR k l t p q u).1.val - rt (damagesR k l t q p u).1.val := by
  unfold balanceR at h ⊢
  split at h
  · exact absurd h ‹_›
  · rename_i h1
    rw [if_neg h1]
    split at h
    · exact absurd h ‹_›
    · rename_i h2
      rw [if_neg h2]
      split at h
      · exact absurd h ‹_›
      · rename_i h3
        rw [if_neg h3]
        exact (subR_ok (by simpa using h3)).2
/-- The law's own sum of a party's balances, with its error. -/
noncomputable def sumB (k : K) (l : List Int) (t : Tm) (u : Int) (p : Nat) : Nat → Q × Int
  | 0 => ((0, 1), 0)
  | q + 1 => if p = q then sumB k l t u p q else if (balanceR k l t p q u).2 ≠ 0 then ((sumB k l t u p q).1, (balanceR k l t p q u).2)
      else if (sumB k l t u p q).2 = 0 then subR (sumB k l t u p q).1 (balanceR k l t p q u).1.val else sumB k l t u p q
theorem sumB_W (k : K) (l : List Int) (t : Tm) (u : Int) (p : Nat) : ∀ q, qW (sumB k l t u p q).1
  | 0 => ⟨by simp [sumB, inK], by simp [sumB, inK]⟩
  | q + 1 => by
    have ih := sumB_W k l t u p q
    simp only [sumB]
    split
    · exact ih
    · split
      · exact ih
      · split
        · exact subR_W _ _
        · exact ih
theorem sumB_ts {k : K} {l : List Int} {t : Tm} {u : Int} {p : Nat} : ∀ {q : Nat}, (sumB k l t u p q).2 = 0 → qOk (sumB k l t u p q).1 = true ∧ rt (sumB k l t u p q).1 = -sm (fun q => if p = q then 0 else rt (dmV k l t u p q) - rt (dmV k l t u q p)) q
  | 0, _ => ⟨by show qOk (0, 1) = true; decide, by show rt (0, 1) = -(0 : Rat); rw [rt_zero]; grind⟩
  | q + 1, h => by
    simp only [sumB, sm] at h ⊢
    by_cases h1 : p = q
    · rw [if_pos h1] at h ⊢
      obtain ⟨i1, i2⟩ := sumB_ts h
      exact ⟨i1, by rw [i2, if_pos h1]; grind⟩
    · rw [if_neg h1] at h ⊢
      by_cases h2 : (balanceR k l t p q u).2 = 0
      · rw [if_neg (by simpa using h2)] at h ⊢
        by_cases h3 : (sumB k l t u p q).2 = 0
        · rw [if_pos h3] at h ⊢
          obtain ⟨i1, i2⟩ := sumB_ts h3
          obtain ⟨b1, b2⟩ := balance_zero h2
          obtain ⟨_, s1, s2⟩ := subR_ok h
          refine ⟨s1, ?_⟩
          rw [s2, i2, if_neg h1, b2]
          show _ = -(_ + ((rt (dmV k l t u p q)) - rt (dmV k l t u q p)))
          unfold dmV
          grind
        · rw [if_neg h3] at h
          exact absurd h h3
      · rw [if_pos h2] at h
        exact absurd h h2
end Go.Proofs.Ytiiegpjpckkohaa
end
section
/- The law's head: w09Netted. -/
namespace Go.Proofs.Ytiiegpjpckkohaa
open Go.Eng
set_option maxRecDepth 10000
set_option linter.unusedSimpArgs false
set_option linter.unusedVariables false
def dutyK (act after : Int) : Cl := ⟨1, 0, act, 1, [], after, 0, false, true, -1, -1, (0, 1), -1, -1, false⟩
theorem w09Duty_ok (act after : Int) (h1 : inK .i64 act) (h2 : inK .i64 after) : Does Try.prog 72 [.c (.int .i64 act), .c (.int .i64 after)] (.agg (clC (dutyK act after))) := by
  refine Does.weaken (res := ?x) ?_ ?_
  rotate_left
  refine Does.mk (fun _ => false) TT_ok Try.func72 rfl (by kernel_rfl) Try.ntmps72 rfl rfl fun E hT hE hN hR => ?_
  have hm : E.P.follows .mixedOrders = true := by rw [hE]; kernel_rfl
  (repeat (first | refine XK.norm rfl rfl ?_ | refine XK.rgnA hT rfl rfl rfl ?_ | refine XK.rgnB hT hm rfl rfl rfl ?_))
  (first | refine XK.out rfl rfl rfl ?_ | refine XK.outN rfl rfl rfl ?_)
  rfl
  · refine AvS.agg ⟨AvS.refl _, AvS.refl _, AvS.refl _, AvS.refl _, AvS.nil, AvSL.refl _⟩
def owActs : List Act := [⟨1, 0, 0, -1, -1, (0, 1)⟩, ⟨1, 0, 0, -1, -1, (0, 1)⟩, ⟨1, 1, 0, -1, -1, (0, 1)⟩]
def dealC (days : Int) : List AV := [.c (.int .i64 2), .rs 1 2 (rowOf [.c (.int .i64 0), .c (.int .i64 1)] 1), .c (.slice none 0 0),
  .rs 7 3 (rowOf [.c (.int .i64 1), .c (.int .i64 0), .c (.int .i64 0), .c (.int .i64 (-1)), .c (.int .i64 (-1)), .c (.int .i64 0), .c (.int .i64 1),
    .c (.int .i64 1), .c (.int .i64 0), .c (.int .i64 0), .c (.int .i64 (-1)), .c (.int .i64 (-1)), .c (.int .i64 0), .c (.int .i64 1),
    .c (.int .i64 1), .c (.int .i64 1), .c (.int .i64 0), .c (.int .i64 (-1)), .c (.int .i64 (-1)), .c (.int .i64 0), .c (.int .i64 1)] 7), .vec 0 0, .c (.int .i64 days), .c (.slice none 0 0)]
theorem w09DealM_ok (days : Int) (hd : inK .i64 days) (n : Nat) (f : Nat → List AV) : DoesM Try.prog 71 [.c (.int .i64 days), .vec 0 0] [.vec 86 16 0 n f]
    (.agg (dealC days)) [.vec 86 16 0 n f, .cells 27 (dealC days)] := by
  refine DoesM.mk (fun _ => false) 100 TT_ok Try.func71 rfl (by kernel_rfl) Try.ntmps71 rfl rfl rfl fun E hT hE hN hR => ?_
  have hm : E.P.follows .mixedOrders = true := by rw [hE]; kernel_rfl
  (repeat (first | refine XK.norm rfl rfl ?_ | refine XK.rgnA hT rfl rfl rfl ?_ | refine XK.rgnB hT hm rfl rfl rfl ?_))
  (first | refine XK.outR [0, 104] hN rfl rfl rfl ?_ rfl rfl ?_ | refine XK.outRN [0, 104] hN rfl rfl rfl ?_ rfl rfl ?_)
  · exact ⟨⟨⟨rfl, rfl, rfl⟩, rfl, fun _ _ => rfl⟩, rfl, rfl⟩
  · exact rfl
def owK : K :=
  { parties := 2, holders := [0, 1], units := [⟨⟨#[69, 85, 82]⟩, 2, 0, (1, 1)⟩, ⟨⟨#[99, 116]⟩, 2, 0, (1, 100)⟩], acts := owActs,
    clauses := [⟨1, 0, 0, 1, [], 1, 0, false, true, -1, -1, (10, 1), 0, 1, false⟩, ⟨1, 1, 2, 1, [], 2, 0, false, true, -1, -1, (400, 1), 1, 0, false⟩], days := 9, off := [] }
theorem owK_W : kW owK := by
  simp [kW, owK, owActs, inK, uW, actW, clW, qW]
def owT : Tm := ⟨0, (1, 10), (-1, 1)⟩
theorem owT_W : tmW owT := by simp [tmW, owT, inK, qW]
theorem ow_d1 : damagesR owK [-1, -1] owT 0 1 3 = (⟨0, (12, 1)⟩, 0) := Prod.ext (A.ext2 (by decide +kernel) (by decide +kernel)) (by decide +kernel)
theorem ow_d2 : damagesR owK [-1, -1] owT 1 0 3 = (⟨0, (22, 5)⟩, 0) := Prod.ext (A.ext2 (by decide +kernel) (by decide +kernel)) (by decide +kernel)
def owD : List Db := [⟨0, 1, (12, 1)⟩, ⟨1, 0, (22, 5)⟩]
theorem ow_net : netR 2 (fun i => owD.getD i default) 2 = ([⟨0, 1, (38, 5)⟩], 0) := by kernel_rfl
theorem owing_ok : Does Try.prog 43 [] (kV owK) := by
  refine Does.weaken (res := ?x) ?_ ?_
  rotate_left
  refine Does.mk (fun d => Nat.beq d 6) TT_ok Try.func43 rfl (by kernel_rfl) Try.ntmps43 rfl rfl fun E hT hE hN hR => ?_
  have hm : E.P.follows .mixedOrders = true := by rw [hE]; kernel_rfl
  (repeat (first | refine XK.norm rfl rfl ?_ | refine XK.rgnA hT rfl rfl rfl ?_ | refine XK.rgnB hT hm rfl rfl rfl ?_)); refine XK.region ?_; refine XL.goA hT rfl rfl rfl rfl ?_
  refine XL.callKA hE rfl rfl rfl rfl trivial rfl rfl (w09Duty_ok 0 1 (by simp [inK]) (by simp [inK])) ?_
  refine XL.goA hT rfl rfl rfl rfl ?_
  refine XL.callKA hE rfl rfl rfl rfl trivial rfl rfl (w09Duty_ok 2 2 (by simp [inK]) (by simp [inK])) ?_
  refine XL.goA hT rfl rfl rfl rfl ?_
  refine XL.callMA [96, 701] hE rfl rfl rfl rfl trivial (w09DealM_ok 9 (by simp [inK]) _ _) rfl rfl rfl rfl rfl ?_
  refine XL.goA hT rfl rfl rfl rfl ?_; refine XL.fin ?_; (repeat (first | refine XK.norm rfl rfl ?_ | refine XK.rgnA hT rfl rfl rfl ?_ | refine XK.rgnB hT hm rfl rfl rfl ?_))
  refine XK.weak (Weak.frozen (k := 96) hN rfl rfl) ?_
  (repeat (first | refine XK.norm rfl rfl ?_ | refine XK.rgnA hT rfl rfl rfl ?_ | refine XK.rgnB hT hm rfl rfl rfl ?_))
  (first | refine XK.out rfl rfl rfl ?_ | refine XK.outN rfl rfl rfl ?_)
  rfl
  · refine AvS.agg ⟨AvS.refl _, AvS.rs (fun i hi => ?_), AvS.rs (fun i hi => ?_), AvS.rs (fun i hi => ?_), AvS.rs (fun i hi => ?_), AvS.refl _, AvS.nil, trivial⟩
    · rcases i with _ | _ | i <;> first | exact AvSL.refl _ | omega
    · rcases i with _ | _ | i <;> first | exact AvSL.refl _ | omega
    · rcases i with _ | _ | _ | i <;> first | exact AvSL.refl _ | omega
    · rcases i with _ | _ | i <;> first | exact AvSL.refl _ | omega
theorem netted_ok : Does Try.prog 15 [] (.c (.bool true)) := by
  refine Does.mk (fun _ => false) TT_ok Try.func15 rfl (by kernel_rfl) Try.ntmps15 rfl rfl fun E hT hE hN hR => ?_
  have hm : E.P.follows .mixedOrders = true := by rw [hE]; kernel_rfl
  (repeat (first | refine XK.norm rfl rfl ?_ | refine XK.rgnA hT rfl rfl rfl ?_ | refine XK.rgnB hT hm rfl rfl rfl ?_)); refine XK.region ?_; refine XL.goA hT rfl rfl rfl rfl ?_
  refine XL.callKA hE rfl rfl rfl rfl trivial rfl rfl (owing_ok) ?_
  refine XL.goA hT rfl rfl rfl rfl ?_; refine XL.fin ?_; (repeat (first | refine XK.norm rfl rfl ?_ | refine XK.rgnA hT rfl rfl rfl ?_ | refine XK.rgnB hT hm rfl rfl rfl ?_))
  (repeat (first | refine XK.norm rfl rfl ?_ | refine XK.rgnA hT rfl rfl rfl ?_ | refine XK.rgnB hT hm rfl rfl rfl ?_)); refine XK.region ?_; refine XL.goA hT rfl rfl rfl rfl ?_
  refine XL.callLA hE rfl rfl rfl rfl trivial rfl (damages_ok owK owK_W [-1, -1] owT owT_W 0 1 3) rfl ?_
  rw [ow_d1]
  refine XL.goA hT rfl rfl rfl rfl ?_; refine XL.fin ?_; (repeat (first | refine XK.norm rfl rfl ?_ | refine XK.rgnA hT rfl rfl rfl ?_ | refine XK.rgnB hT hm rfl rfl rfl ?_))
  (repeat (first | refine XK.norm rfl rfl ?_ | refine XK.rgnA hT rfl rfl rfl ?_ | refine XK.rgnB hT hm rfl rfl rfl ?_)); refine XK.region ?_; refine XL.goA hT rfl rfl rfl rfl ?_
  refine XL.callLA hE rfl rfl rfl rfl trivial rfl (damages_ok owK owK_W [-1, -1] owT owT_W 1 0 3) rfl ?_
  rw [ow_d2]
  refine XL.goA hT rfl rfl rfl rfl ?_; refine XL.fin ?_; (repeat (first | refine XK.norm rfl rfl ?_ | refine XK.rgnA hT rfl rfl rfl ?_ | refine XK.rgnB hT hm rfl rfl rfl ?_))
  (repeat (first | refine XK.norm rfl rfl ?_ | refine XK.rgnA hT rfl rfl rfl ?_ | refine XK.rgnB hT hm rfl rfl rfl ?_)); refine XK.region ?_; refine XL.goA hT rfl rfl rfl rfl ?_
  have nk := net_ok 2 2 (fun i => owD.getD i default) (fun i hi => by rcases i with _ | _ | i <;> first | (simp [owD, dbW, inK, qW]; done) | omega)
  rw [ow_net] at nk
  refine XL.callKA hE rfl rfl rfl rfl trivial rfl rfl (nk) ?_
  refine XL.goA hT rfl rfl rfl rfl ?_; refine XL.fin ?_; (repeat (first | refine XK.norm rfl rfl ?_ | refine XK.rgnA hT rfl rfl rfl ?_ | refine XK.rgnB hT hm rfl rfl rfl ?_))
  (repeat (first | refine XK.norm rfl rfl ?_ | refine XK.rgnA hT rfl rfl rfl ?_ | refine XK.rgnB hT hm rfl rfl rfl ?_)); refine XK.cond rfl (fun h => ?_) (fun h => ?_)
  · exact absurd h (by decide)
  · (repeat (first | refine XK.norm rfl rfl ?_ | refine XK.rgnA hT rfl rfl rfl ?_ | refine XK.rgnB hT hm rfl rfl rfl ?_))
    (first | refine XK.out rfl rfl rfl ?_ | refine XK.outN rfl rfl rfl ?_)
    refine cB ?_
    kernel_rfl
end Go.Proofs.Ytiiegpjpckkohaa
end
