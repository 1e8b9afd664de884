/- The law TopNetted: the walk. -/
import Derived.Test.YtiiegpjpckkohaaQA
namespace Go.Proofs.Ytiiegpjpckkohaa
open Go.Eng
set_option maxRecDepth 10000
set_option linter.unusedSimpArgs false
set_option linter.unusedVariables false
/-- What the law's loop compares. -/
theorem netted_facts {k : K} (hk : kW k) {l : List Int} {t : Tm} (ht : tmW t) {u : Int} {P : Nat} (hP : k.parties = P) (hP1 : 0 < P) {n : Nat} {f : Nat → Db} (hf : (debT k l t u P P).1.length = n) (hf' : (fun i => (debT k l t u P P).1.getD i default) = f)
    (hv : netB P n f = true) (hd : (debT k l t u P P).2 = true) (h1 : (pairsR P f n).2 = 0) (h2 : (netR P f n).2 = 0) (h3 : (positionsR P f n).2 = 0) :
    (∀ p q : Nat, p < P → q < P → p ≠ q → (balanceR k l t p q u).2 = 0 → (betT p q (fun i => (pairsR P f n).1.getD i default) (pairsR P f n).1.length).2 = 0 → (betT p q (fun i => (pairsR P f n).1.getD i default) (pairsR P f n).1.length).1 = (balanceR k l t p q u).1.val) ∧
    (∀ p, p < P → (sumB k l t u p P).2 = 0 → (positionsR P f n).1 p = (sumB k l t u p P).1) ∧
    ((positionsR P (fun i => (netR P f n).1.getD i default) (netR P f n).1.length).2 = 0 → ∀ p, p < P → (positionsR P (fun i => (netR P f n).1.getD i default) (netR P f n).1.length).1 p = (positionsR P f n).1 p) := by
  have hts : ∀ s, ts s f n = tsL s (debT k l t u P P).1 := fun s => by rw [← hf, ← hf']; rfl
  have hpos : positionsR P f n = (fun p => (posR f n p).1, posE f n P) := by
    unfold positionsR; rw [if_neg (by rw [hv]; simp)]
  rw [hpos] at h3 ⊢
  have h3' : posE f n P = 0 := h3
  refine ⟨fun p q hp hq hpq hb he => ?_, fun p hp hs => ?_, fun hh p hp => ?_⟩
  · obtain ⟨e1, e2⟩ := pairs_between hp hq hpq h1 he
    obtain ⟨b1, b2⟩ := balance_zero hb
    refine rt_inj e1 b1 ?_
    rw [e2, b2, hts, deb_between hp hq hpq hd]
    rfl
  · obtain ⟨e1, e2⟩ := pos_ts h3' hp
    obtain ⟨s1, s2⟩ := sumB_ts hs
    refine rt_inj e1 s1 ?_
    rw [e2, s2, hts, deb_pos hp hd]
  · have hn := (net_ps hP1 hv h3').2 h2 p hp
    have hpos2 : netB P (netR P f n).1.length (fun i => (netR P f n).1.getD i default) = true := by
      unfold positionsR at hh
      split at hh
      · cases hh
      · rename_i h; simpa using h
    have hpp : positionsR P (fun i => (netR P f n).1.getD i default) (netR P f n).1.length = (fun p => (posR (fun i => (netR P f n).1.getD i default) (netR P f n).1.length p).1, posE (fun i => (netR P f n).1.getD i default) (netR P f n).1.length P) := by
      unfold positionsR; rw [if_neg (by rw [hpos2]; simp)]
    rw [hpp] at hh ⊢
    obtain ⟨e1, e2⟩ := pos_ts hh hp
    refine rt_inj e1 (pos_ts h3' hp).1 ?_
    rw [e2, ← hn]
    rfl
theorem balanceR_W {k : K} {l : List Int} {t : Tm} {a b u : Int} : qW (balanceR k l t a b u).1.val := by
  have z : qW zA.val := ⟨by simp [inK, zA], by simp [inK, zA]⟩
  unfold balanceR
  split
  · exact z
  · split
    · exact z
    · split
      · exact z
      · exact subR_W _ _
theorem lawTN (k : K) (hk : kW k) (l : List Int) (t : Tm) (ht : tmW t) (u : Int) : Does Try.prog 3 [kV k, intsV l, tmV t, .c (.int .i64 u)] (.c (.bool true)) := by
  refine Does.mk (fun _ => false) TT_ok Try.func3 rfl (by kernel_rfl) Try.ntmps3 rfl rfl fun E hT hE hN hR => ?_
  have hm : E.P.follows .mixedOrders = true := by rw [hE]; kernel_rfl
  (repeat (first | refine XK.norm rfl rfl ?_ | refine XK.rgnA hT rfl rfl rfl ?_ | refine XK.rgnB hT hm rfl rfl rfl ?_)); refine XK.region ?_; refine XL.goA hT rfl rfl rfl rfl ?_
  refine XL.callLA hE rfl rfl rfl rfl trivial rfl (netted_ok) rfl ?_
  refine XL.goA hT rfl rfl rfl rfl ?_; refine XL.fin ?_; (repeat (first | refine XK.norm rfl rfl ?_ | refine XK.rgnA hT rfl rfl rfl ?_ | refine XK.rgnB hT hm rfl rfl rfl ?_))
  (repeat (first | refine XK.norm rfl rfl ?_ | refine XK.rgnA hT rfl rfl rfl ?_ | refine XK.rgnB hT hm rfl rfl rfl ?_)); refine XK.region ?_; refine XL.goA hT rfl rfl rfl rfl ?_
  refine XL.callLA hE rfl rfl rfl rfl trivial rfl (smallK_ok k l) rfl ?_
  refine XL.goA hT rfl rfl rfl rfl ?_; refine XL.fin ?_; (repeat (first | refine XK.norm rfl rfl ?_ | refine XK.rgnA hT rfl rfl rfl ?_ | refine XK.rgnB hT hm rfl rfl rfl ?_))
  (repeat (first | refine XK.norm rfl rfl ?_ | refine XK.rgnA hT rfl rfl rfl ?_ | refine XK.rgnB hT hm rfl rfl rfl ?_)); refine XK.cond rfl (fun h1 => ?_) (fun h1 => ?_)
  · (repeat (first | refine XK.norm rfl rfl ?_ | refine XK.rgnA hT rfl rfl rfl ?_ | refine XK.rgnB hT hm rfl rfl rfl ?_))
    (first | refine XK.out rfl rfl rfl ?_ | refine XK.outN rfl rfl rfl ?_)
    rfl
  · have hp6 : k.parties ≤ 6 := by
      simp at h1; omega
    clear h1
    have dd := debts_ok k hk l t ht u (by omega)
    have dts : (debT k l t u k.parties.toNat k.parties.toNat).2 = true → _ := fun h => debT_ts (k := k) (l := l) (t := t) (u := u) (P := k.parties.toNat) (fun _ => 0) h
    have hW : ∀ P : Nat, k.parties = P → 0 < P → netB P (debT k l t u P P).1.length (fun i => (debT k l t u P P).1.getD i default) = true := fun P hP h1 => by
      have := deb_valid hk (l := l) (t := t) (u := u) (by omega)
      rw [hP] at this; exact this
    have dw : ∀ i, i < (debT k l t u k.parties.toNat k.parties.toNat).1.length → dbW ((debT k l t u k.parties.toNat k.parties.toNat).1.getD i default) := by
      by_cases h : 0 < k.parties.toNat
      · have hv := hW k.parties.toNat (by omega) h
        exact deb_W ht (by omega) fun i hi => (netB_true.1 hv).2 i hi
      · have h0 : k.parties.toNat = 0 := by omega
        rw [h0]
        intro i hi
        exact absurd hi (Nat.not_lt_zero _)
    have hF := fun (P : Nat) (hP : k.parties = P) (h0 : 0 < P) hd h1 h2 h3 => netted_facts hk (l := l) ht (u := u) hP h0 rfl rfl (hW P hP h0) hd h1 h2 h3
    have hcd := fun (P : Nat) (hP : k.parties = P) (h0 : 0 < P) => (net_cd h0 (hW P hP h0))
    have hpc : ∀ (P : Nat) (hP : k.parties = P) (h0 : 0 < P), ((pairsR P (fun i => (debT k l t u P P).1.getD i default) (debT k l t u P P).1.length).2 = 0 ∨ (pairsR P (fun i => (debT k l t u P P).1.getD i default) (debT k l t u P P).1.length).2 = 2) ∧
        ((positionsR P (fun i => (debT k l t u P P).1.getD i default) (debT k l t u P P).1.length).2 = 0 ∨ (positionsR P (fun i => (debT k l t u P P).1.getD i default) (debT k l t u P P).1.length).2 = 2) := by
      intro P hP h0
      have hv := hW P hP h0
      have hq : ∀ i, i < (debT k l t u P P).1.length → qOk ((debT k l t u P P).1.getD i default).amt = true := fun i hi => (dbB_ok ((netB_true.1 hv).2 i hi)).2.2.2.1
      constructor
      · unfold pairsR
        rw [if_neg (by rw [hv]; simp)]
        split
        · exact allE_cd hq P
        · exact .inl rfl
      · unfold positionsR
        rw [if_neg (by rw [hv]; simp)]
        exact posE_cd hq P
    (repeat (first | refine XK.norm rfl rfl ?_ | refine XK.rgnA hT rfl rfl rfl ?_ | refine XK.rgnB hT hm rfl rfl rfl ?_)); refine XK.region ?_; refine XL.goA hT rfl rfl rfl rfl ?_
    refine XL.callKA hE rfl rfl rfl rfl trivial rfl rfl (dd) ?_
    refine XL.goA hT rfl rfl rfl rfl ?_; refine XL.fin ?_; (repeat (first | refine XK.norm rfl rfl ?_ | refine XK.rgnA hT rfl rfl rfl ?_ | refine XK.rgnB hT hm rfl rfl rfl ?_))
    (repeat (first | refine XK.norm rfl rfl ?_ | refine XK.rgnA hT rfl rfl rfl ?_ | refine XK.rgnB hT hm rfl rfl rfl ?_)); refine XK.cond rfl (fun h2 => ?_) (fun h2 => ?_) <;> (try simp at h2)
    · (repeat (first | refine XK.norm rfl rfl ?_ | refine XK.rgnA hT rfl rfl rfl ?_ | refine XK.rgnB hT hm rfl rfl rfl ?_))
      (first | refine XK.out rfl rfl rfl ?_ | refine XK.outN rfl rfl rfl ?_)
      rfl
    · have vd := netValid_ok k.parties _ _ dw
      (repeat (first | refine XK.norm rfl rfl ?_ | refine XK.rgnA hT rfl rfl rfl ?_ | refine XK.rgnB hT hm rfl rfl rfl ?_)); refine XK.region ?_; refine XL.goA hT rfl rfl rfl rfl ?_
      refine XL.callLA hE rfl rfl rfl rfl trivial rfl (vd) rfl ?_
      refine XL.goA hT rfl rfl rfl rfl ?_; refine XL.fin ?_; (repeat (first | refine XK.norm rfl rfl ?_ | refine XK.rgnA hT rfl rfl rfl ?_ | refine XK.rgnB hT hm rfl rfl rfl ?_))
      by_cases hP0 : k.parties < 1
      · have hv : netB k.parties (debT k l t u k.parties.toNat k.parties.toNat).1.length (fun i => (debT k l t u k.parties.toNat k.parties.toNat).1.getD i default) = false := by
          rw [Bool.eq_false_iff]; intro h; have := (netB_true.1 h).1.1; omega
        rw [hv]
        (repeat (first | refine XK.norm rfl rfl ?_ | refine XK.rgnA hT rfl rfl rfl ?_ | refine XK.rgnB hT hm rfl rfl rfl ?_)); refine XK.cond rfl (fun h3 => ?_) (fun h3 => ?_) <;> (try simp at h3)
        (repeat (first | refine XK.norm rfl rfl ?_ | refine XK.rgnA hT rfl rfl rfl ?_ | refine XK.rgnB hT hm rfl rfl rfl ?_))
        (first | refine XK.out rfl rfl rfl ?_ | refine XK.outN rfl rfl rfl ?_)
        refine cB ?_
        simp; omega
      · obtain ⟨P, hP⟩ : ∃ P : Nat, k.parties = P := ⟨k.parties.toNat, by omega⟩
        have hPt : k.parties.toNat = P := by omega
        have hv := hW P hP (by omega)
        have hF := hF P hP (by omega)
        have hcd := hcd P hP (by omega)
        have hpc := hpc P hP (by omega)
        rw [hPt] at h2 dw dts ⊢
        have h2 : (debT k l t u P P).2 = true := by simpa using h2
        have dts := dts h2
        have hF := hF h2
        rw [hP, hv]
        rw [← hP]
        generalize hn : (debT k l t u P P).1.length = n at *
        generalize hf : (fun i => (debT k l t u P P).1.getD i default) = f at *
        (repeat (first | refine XK.norm rfl rfl ?_ | refine XK.rgnA hT rfl rfl rfl ?_ | refine XK.rgnB hT hm rfl rfl rfl ?_)); refine XK.cond rfl (fun h3 => ?_) (fun h3 => ?_) <;> (try simp at h3)
        have hpw : ∀ i, i < n → dbW (f i) := by rw [← hf]; exact dw
        have pr := pairs_ok P n f hpw
        have nt := net_ok P n f hpw
        have ps := positions_ok P n f hpw
        have pn := positions_ok P (netR P f n).1.length (fun i => (netR P f n).1.getD i default) net_W
        have bt := fun p q : Int => between_ok (pairsR P f n).1.length (fun i => (pairsR P f n).1.getD i default) p q pairs_W
        rw [← hP] at pr nt ps pn
        clear dd hW
        generalize hz : positionsR P (fun i => (netR P f n).1.getD i default) (netR P f n).1.length = z at *
        generalize hx : pairsR P f n = x at *
        generalize hy : netR P f n = y at *
        generalize hw : positionsR P f n = w at *
        clear hx hy hw hz hn hf hv dts
        (repeat (first | refine XK.norm rfl rfl ?_ | refine XK.rgnA hT rfl rfl rfl ?_ | refine XK.rgnB hT hm rfl rfl rfl ?_)); refine XK.region ?_; refine XL.goA hT rfl rfl rfl rfl ?_
        refine XL.callKA hE rfl rfl rfl rfl trivial rfl rfl (pr) ?_
        refine XL.goA hT rfl rfl rfl rfl ?_; refine XL.fin ?_; (repeat (first | refine XK.norm rfl rfl ?_ | refine XK.rgnA hT rfl rfl rfl ?_ | refine XK.rgnB hT hm rfl rfl rfl ?_))
        (repeat (first | refine XK.norm rfl rfl ?_ | refine XK.rgnA hT rfl rfl rfl ?_ | refine XK.rgnB hT hm rfl rfl rfl ?_)); refine XK.region ?_; refine XL.goA hT rfl rfl rfl rfl ?_
        refine XL.callKA hE rfl rfl rfl rfl trivial rfl rfl (nt) ?_
        refine XL.goA hT rfl rfl rfl rfl ?_; refine XL.fin ?_; (repeat (first | refine XK.norm rfl rfl ?_ | refine XK.rgnA hT rfl rfl rfl ?_ | refine XK.rgnB hT hm rfl rfl rfl ?_))
        (repeat (first | refine XK.norm rfl rfl ?_ | refine XK.rgnA hT rfl rfl rfl ?_ | refine XK.rgnB hT hm rfl rfl rfl ?_)); refine XK.region ?_; refine XL.goA hT rfl rfl rfl rfl ?_
        refine XL.callKA hE rfl rfl rfl rfl trivial rfl rfl (ps) ?_
        refine XL.goA hT rfl rfl rfl rfl ?_; refine XL.fin ?_; (repeat (first | refine XK.norm rfl rfl ?_ | refine XK.rgnA hT rfl rfl rfl ?_ | refine XK.rgnB hT hm rfl rfl rfl ?_))
        (repeat (first | refine XK.norm rfl rfl ?_ | refine XK.rgnA hT rfl rfl rfl ?_ | refine XK.rgnB hT hm rfl rfl rfl ?_)); refine XK.cond rfl (fun h4 => ?_) (fun h4 => ?_)
        · (repeat (first | refine XK.norm rfl rfl ?_ | refine XK.rgnA hT rfl rfl rfl ?_ | refine XK.rgnB hT hm rfl rfl rfl ?_))
          (first | refine XK.out rfl rfl rfl ?_ | refine XK.outN rfl rfl rfl ?_)
          refine cB ?_
          rcases hpc.1 with e1 | e1 <;> rcases hcd with e2 | e2 <;> rcases hpc.2 with e3 | e3 <;> rw [e1, e2, e3] <;> rfl
        · have h4' : x.2 = 0 ∧ y.2 = 0 ∧ w.2 = 0 := by simpa [and_assoc] using h4
          obtain ⟨e1, e2, e3⟩ := h4'
          obtain ⟨F1, F2, F3⟩ := hF e1 e2 e3
          (repeat (first | refine XK.norm rfl rfl ?_ | refine XK.rgnA hT rfl rfl rfl ?_ | refine XK.rgnB hT hm rfl rfl rfl ?_)); refine XK.region ?_; refine XL.goA hT rfl rfl rfl rfl ?_
          refine XL.callKA hE rfl rfl rfl rfl trivial rfl rfl (pn) ?_
          refine XL.goA hT rfl rfl rfl rfl ?_; refine XL.fin ?_; (repeat (first | refine XK.norm rfl rfl ?_ | refine XK.rgnA hT rfl rfl rfl ?_ | refine XK.rgnB hT hm rfl rfl rfl ?_))
          (repeat (first | refine XK.norm rfl rfl ?_ | refine XK.rgnA hT rfl rfl rfl ?_ | refine XK.rgnB hT hm rfl rfl rfl ?_))
          generalize hm : (if z.2 = 0 then P else 0) = m at *
          have hmP : z.2 = 0 → m = P := fun h => by rw [← hm, if_pos h]
          have hw0 : (if w.2 = 0 then P else 0) = P := if_pos e3
          rw [hw0]
          clear hm hw0 hcd hpc h4 pr nt ps pn hF
          refine XK.loop (ι := Nat) (fun p => ST.of [(1, intsV l), (3, .c (.int .i64 u)), (4, .ptr 4 0), (6, .ptr 6 0), (9, .c (.bool true)), (12, dbsV x.1.length (fun i => x.1.getD i default)), (16, ratV P w.1), (18, ratV m z.1), (19, .c (.int .i64 z.2)), (20, .c (.int .i64 p))] [(4, .cells 27 (kC k)), (6, .cells 31 (tmC t))] 1000 218 (fun _ => false))
            (fun p => p ≤ P) (fun p => P - p) 0 (Nat.zero_le _) (Weak.of hN rfl rfl rfl (by (repeat' (first | exact rfl | exact AvIs.refl _ | exact trivial | exact fun _ _ => rfl | exact fun _ _ => ⟨rfl, AvIs.refl _⟩ | refine ⟨?_, ?_⟩))) (by (repeat' (first | exact rfl | exact AvIs.refl _ | exact trivial | exact fun _ _ => rfl | exact fun _ _ => ⟨rfl, AvIs.refl _⟩ | refine ⟨?_, ?_⟩)))) fun p hp => ?_
          (repeat (first | refine XK.norm rfl rfl ?_ | refine XK.rgnA hT rfl rfl rfl ?_ | refine XK.rgnB hT hm rfl rfl rfl ?_)); refine XK.cond rfl (fun hlt => ?_) (fun hlt => ?_) <;> (try simp at hlt)
          · have hpP : p < P := by omega
            have F2 := F2 p hpP
            have F1 := F1 p
            (repeat (first | refine XK.norm rfl rfl ?_ | refine XK.rgnA hT rfl rfl rfl ?_ | refine XK.rgnB hT hm rfl rfl rfl ?_))
            refine XK.loop (ι := Nat) (fun q => ST.of [(1, intsV l), (3, .c (.int .i64 u)), (4, .ptr 4 0), (6, .ptr 6 0), (9, .c (.bool true)), (12, dbsV x.1.length (fun i => x.1.getD i default)), (16, ratV P w.1), (18, ratV m z.1), (19, .c (.int .i64 z.2)), (20, .c (.int .i64 p)), (21, .ptr 1239 0), (22, .c (.int .i64 (sumB k l t u p q).2)), (23, .c (.int .i64 q))] [(4, .cells 27 (kC k)), (6, .cells 31 (tmC t)), (1239, .cells 29 (qc (sumB k l t u p q).1))] 2000 218 (fun _ => false))
              (fun q => q ≤ P) (fun q => P - q) 0 (Nat.zero_le _) (Weak.of hN rfl rfl rfl (by (repeat' (first | exact rfl | exact AvIs.refl _ | exact trivial | exact fun _ _ => rfl | exact fun _ _ => ⟨rfl, AvIs.refl _⟩ | refine ⟨?_, ?_⟩))) (by (repeat' (first | exact rfl | exact AvIs.refl _ | exact trivial | exact fun _ _ => rfl | exact fun _ _ => ⟨rfl, AvIs.refl _⟩ | refine ⟨?_, ?_⟩)))) fun q hq => ?_
            (repeat (first | refine XK.norm rfl rfl ?_ | refine XK.rgnA hT rfl rfl rfl ?_ | refine XK.rgnB hT hm rfl rfl rfl ?_)); refine XK.cond rfl (fun hlq => ?_) (fun hlq => ?_) <;> (try simp at hlq)
            · have hqP : q < P := by omega
              have F1 := F1 q hpP hqP
              have bl := balance_ok k hk l t ht p q u
              have wb := balanceR_W (k := k) (l := l) (t := t) (a := p) (b := q) (u := u)
              have bt := bt p q
              have hS : sumB k l t u p (q + 1) = if p = q then sumB k l t u p q else if (balanceR k l t p q u).2 ≠ 0 then ((sumB k l t u p q).1, (balanceR k l t p q u).2)
                else if (sumB k l t u p q).2 = 0 then subR (sumB k l t u p q).1 (balanceR k l t p q u).1.val else sumB k l t u p q := rfl
              have sb := sub_ok (sumB k l t u p q).1 (balanceR k l t p q u).1.val (sumB_W k l t u p q) wb
              generalize balanceR k l t p q u = b at *
              generalize betT p q (fun i => x.1.getD i default) x.1.length = e at *
              generalize hs : sumB k l t u p q = s at *
              generalize subR s.1 b.1.val = r at *
              (repeat (first | refine XK.norm rfl rfl ?_ | refine XK.rgnA hT rfl rfl rfl ?_ | refine XK.rgnB hT hm rfl rfl rfl ?_)); refine XK.cond rfl (fun h5 => ?_) (fun h5 => ?_) <;> (try simp at h5)
              · have h5 : p = q := by omega
                rw [if_pos h5] at hS
                (repeat (first | refine XK.norm rfl rfl ?_ | refine XK.rgnA hT rfl rfl rfl ?_ | refine XK.rgnB hT hm rfl rfl rfl ?_))
                refine XK.inv ⟨q + 1, hqP, ?_, by omega⟩
                rw [hS]
                exact (Weak.of hN rfl rfl rfl (by (repeat' (first | exact rfl | exact AvIs.refl _ | exact trivial | exact fun _ _ => rfl | exact fun _ _ => ⟨rfl, AvIs.refl _⟩ | refine ⟨?_, ?_⟩))) (by (repeat' (first | exact rfl | exact AvIs.refl _ | exact trivial | exact fun _ _ => rfl | exact fun _ _ => ⟨rfl, AvIs.refl _⟩ | refine ⟨?_, ?_⟩))))
              · have h5 : ¬ p = q := by omega
                rw [if_neg h5] at hS
                have F1 := F1 h5
                (repeat (first | refine XK.norm rfl rfl ?_ | refine XK.rgnA hT rfl rfl rfl ?_ | refine XK.rgnB hT hm rfl rfl rfl ?_)); refine XK.region ?_; refine XL.goA hT rfl rfl rfl rfl ?_
                refine XL.callLA hE rfl rfl rfl rfl trivial rfl (bl) rfl ?_
                refine XL.goA hT rfl rfl rfl rfl ?_; refine XL.fin ?_; (repeat (first | refine XK.norm rfl rfl ?_ | refine XK.rgnA hT rfl rfl rfl ?_ | refine XK.rgnB hT hm rfl rfl rfl ?_))
                (repeat (first | refine XK.norm rfl rfl ?_ | refine XK.rgnA hT rfl rfl rfl ?_ | refine XK.rgnB hT hm rfl rfl rfl ?_)); refine XK.region ?_; refine XL.goA hT rfl rfl rfl rfl ?_
                refine XL.callLA hE rfl rfl rfl rfl trivial rfl (bt) rfl ?_
                refine XL.goA hT rfl rfl rfl rfl ?_; refine XL.fin ?_; (repeat (first | refine XK.norm rfl rfl ?_ | refine XK.rgnA hT rfl rfl rfl ?_ | refine XK.rgnB hT hm rfl rfl rfl ?_))
                (repeat (first | refine XK.norm rfl rfl ?_ | refine XK.rgnA hT rfl rfl rfl ?_ | refine XK.rgnB hT hm rfl rfl rfl ?_)); refine XK.cond rfl (fun h6 => ?_) (fun h6 => ?_)
                · exfalso
                  simp at h6
                  obtain ⟨⟨g1, g2⟩, g3⟩ := h6
                  have := F1 g1 g2
                  rw [this] at g3
                  simp at g3
                · (repeat (first | refine XK.norm rfl rfl ?_ | refine XK.rgnA hT rfl rfl rfl ?_ | refine XK.rgnB hT hm rfl rfl rfl ?_)); refine XK.cond rfl (fun h7 => ?_) (fun h7 => ?_) <;> (try simp at h7)
                  · rw [if_pos h7] at hS
                    (repeat (first | refine XK.norm rfl rfl ?_ | refine XK.rgnA hT rfl rfl rfl ?_ | refine XK.rgnB hT hm rfl rfl rfl ?_))
                    refine XK.inv ⟨q + 1, hqP, ?_, by omega⟩
                    rw [hS]
                    exact (Weak.of hN rfl rfl rfl (by (repeat' (first | exact rfl | exact AvIs.refl _ | exact trivial | exact fun _ _ => rfl | exact fun _ _ => ⟨rfl, AvIs.refl _⟩ | refine ⟨?_, ?_⟩))) (by (repeat' (first | exact rfl | exact AvIs.refl _ | exact trivial | exact fun _ _ => rfl | exact fun _ _ => ⟨rfl, AvIs.refl _⟩ | refine ⟨?_, ?_⟩))))
                  · rw [if_neg (by simpa using h7)] at hS
                    (repeat (first | refine XK.norm rfl rfl ?_ | refine XK.rgnA hT rfl rfl rfl ?_ | refine XK.rgnB hT hm rfl rfl rfl ?_)); refine XK.cond rfl (fun h8 => ?_) (fun h8 => ?_) <;> (try simp at h8)
                    · rw [if_pos h8] at hS
                      (repeat (first | refine XK.norm rfl rfl ?_ | refine XK.rgnA hT rfl rfl rfl ?_ | refine XK.rgnB hT hm rfl rfl rfl ?_)); refine XK.region ?_; refine XL.goA hT rfl rfl rfl rfl ?_
                      refine XL.callLA hE rfl rfl rfl rfl trivial rfl (sb) rfl ?_
                      refine XL.goA hT rfl rfl rfl rfl ?_; refine XL.fin ?_; (repeat (first | refine XK.norm rfl rfl ?_ | refine XK.rgnA hT rfl rfl rfl ?_ | refine XK.rgnB hT hm rfl rfl rfl ?_))
                      refine XK.inv ⟨q + 1, hqP, ?_, by omega⟩
                      rw [hS]
                      exact (Weak.of hN rfl rfl rfl (by (repeat' (first | exact rfl | exact AvIs.refl _ | exact trivial | exact fun _ _ => rfl | exact fun _ _ => ⟨rfl, AvIs.refl _⟩ | refine ⟨?_, ?_⟩))) (by (repeat' (first | exact rfl | exact AvIs.refl _ | exact trivial | exact fun _ _ => rfl | exact fun _ _ => ⟨rfl, AvIs.refl _⟩ | refine ⟨?_, ?_⟩))))
                    · rw [if_neg h8] at hS
                      (repeat (first | refine XK.norm rfl rfl ?_ | refine XK.rgnA hT rfl rfl rfl ?_ | refine XK.rgnB hT hm rfl rfl rfl ?_))
                      refine XK.inv ⟨q + 1, hqP, ?_, by omega⟩
                      rw [hS]
                      exact (Weak.of hN rfl rfl rfl (by (repeat' (first | exact rfl | exact AvIs.refl _ | exact trivial | exact fun _ _ => rfl | exact fun _ _ => ⟨rfl, AvIs.refl _⟩ | refine ⟨?_, ?_⟩))) (by (repeat' (first | exact rfl | exact AvIs.refl _ | exact trivial | exact fun _ _ => rfl | exact fun _ _ => ⟨rfl, AvIs.refl _⟩ | refine ⟨?_, ?_⟩))))
            · have hqe : q = P := by omega
              subst hqe
              generalize sumB k l t u p q = s at *
              have fp : w.1 (p : Int).toNat = w.1 p := rfl
              have fz : z.1 (p : Int).toNat = z.1 p := rfl
              (repeat (first | refine XK.norm rfl rfl ?_ | refine XK.rgnA hT rfl rfl rfl ?_ | refine XK.rgnB hT hm rfl rfl rfl ?_)); refine XK.cond rfl (fun h9 => ?_) (fun h9 => ?_)
              · exfalso
                rw [fp] at h9
                simp [hP] at h9
                have := F2 h9.1
                rw [this] at h9
                simp at h9
              · (repeat (first | refine XK.norm rfl rfl ?_ | refine XK.rgnA hT rfl rfl rfl ?_ | refine XK.rgnB hT hm rfl rfl rfl ?_)); refine XK.cond rfl (fun h10 => ?_) (fun h10 => ?_)
                · exfalso
                  rw [fp, fz] at h10
                  simp [hP] at h10
                  have h11 := hmP h10.1
                  have := F3 h10.1 p hpP
                  rw [this, h11] at h10
                  simp at h10
                · (repeat (first | refine XK.norm rfl rfl ?_ | refine XK.rgnA hT rfl rfl rfl ?_ | refine XK.rgnB hT hm rfl rfl rfl ?_))
                  refine XK.inv ⟨p + 1, by omega, (Weak.of hN rfl rfl rfl (by (repeat' (first | exact rfl | exact AvIs.refl _ | exact trivial | exact fun _ _ => rfl | exact fun _ _ => ⟨rfl, AvIs.refl _⟩ | refine ⟨?_, ?_⟩))) (by (repeat' (first | exact rfl | exact AvIs.refl _ | exact trivial | exact fun _ _ => rfl | exact fun _ _ => ⟨rfl, AvIs.refl _⟩ | refine ⟨?_, ?_⟩)))), by omega⟩
          · (repeat (first | refine XK.norm rfl rfl ?_ | refine XK.rgnA hT rfl rfl rfl ?_ | refine XK.rgnB hT hm rfl rfl rfl ?_))
            (first | refine XK.out rfl rfl rfl ?_ | refine XK.outN rfl rfl rfl ?_)
            rfl
end Go.Proofs.Ytiiegpjpckkohaa
