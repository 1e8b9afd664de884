import Derived.Test.YtbheoblmfjjaaaaS6
section
/- The law SystemNoReturn. -/
namespace Go.Proofs.Ytbheoblmfjjaaaa
open Go.Eng
set_option maxRecDepth 10000
set_option linter.unusedSimpArgs false
set_option linter.unusedVariables false
theorem endedM_iff {m : Mk} : endedM m = true ↔ m.status = 3 ∨ m.status = 4 ∨ m.status = 5 := by simp [endedM, or_assoc]
/-- What a step that is executed answers. -/
theorem stepS_go {k : K} (hk : kW k) {s : St} {t : Int} (h : (stepS k s t).2 = 0) : (validS k s = true ∧ -1 ≤ t ∧ t < k.acts.length) ∧ s.day ≠ k.days ∧ stepS k s t = (outS k (stepW k s.wk t), 0) ∧ WOk k (stepW k s.wk t) := by
  rcases stepS_cases hk s t with ⟨_, e⟩ | ⟨_, _, e⟩ | h
  · rw [e] at h; cases h
  · rw [e] at h; cases h
  · exact h
theorem stepS_no {k : K} (hk : kW k) {s : St} {t : Int} (h : (stepS k s t).2 ≠ 0) : (stepS k s t).1 = zS := by
  rcases stepS_cases hk s t with ⟨_, e⟩ | ⟨_, _, e⟩ | ⟨_, _, e, _⟩
  · rw [e]
  · rw [e]
  · rw [e] at h; exact absurd rfl h
theorem lawSN (k : K) (hk : kW k) (s : St) (t : Int) : Does Try.prog 5 [kV k, stV s, .c (.int .i64 t)] (.c (.bool true)) := by
  refine Does.mk (fun _ => false) TT_ok Try.func5 rfl (by kernel_rfl) Try.ntmps5 rfl rfl fun E hT hE hN hR => ?_
  have hm : E.P.follows .mixedOrders = true := by rw [hE]; kernel_rfl
  (repeat (first | refine XK.norm rfl rfl ?_ | refine XK.rgnA hT rfl rfl rfl ?_ | refine XK.rgnB hT hm rfl rfl rfl ?_)); refine XK.region ?_; refine XL.goA hT rfl rfl rfl rfl ?_
  refine XL.callLA hE rfl rfl rfl rfl trivial rfl (head15_ok) rfl ?_
  refine XL.goA hT rfl rfl rfl rfl ?_; refine XL.fin ?_; (repeat (first | refine XK.norm rfl rfl ?_ | refine XK.rgnA hT rfl rfl rfl ?_ | refine XK.rgnB hT hm rfl rfl rfl ?_))
  (repeat (first | refine XK.norm rfl rfl ?_ | refine XK.rgnA hT rfl rfl rfl ?_ | refine XK.rgnB hT hm rfl rfl rfl ?_)); refine XK.region ?_; refine XL.goA hT rfl rfl rfl rfl ?_
  refine XL.callLA hE rfl rfl rfl rfl trivial rfl (smallQ_ok k 40) rfl ?_
  refine XL.goA hT rfl rfl rfl rfl ?_
  refine XL.callGA hE rfl rfl rfl rfl rfl rfl rfl rfl (fewS_ok s) rfl ?_
  refine XL.goA hT rfl rfl rfl rfl ?_; refine XL.fin ?_; (repeat (first | refine XK.norm rfl rfl ?_ | refine XK.rgnA hT rfl rfl rfl ?_ | refine XK.rgnB hT hm rfl rfl rfl ?_))
  (repeat (first | refine XK.norm rfl rfl ?_ | refine XK.rgnA hT rfl rfl rfl ?_ | refine XK.rgnB hT hm rfl rfl rfl ?_)); refine XK.cond rfl (fun h0 => ?_) (fun h0 => ?_) <;> (try simp at h0)
  · (repeat (first | refine XK.norm rfl rfl ?_ | refine XK.rgnA hT rfl rfl rfl ?_ | refine XK.rgnB hT hm rfl rfl rfl ?_))
    (first | refine XK.out rfl rfl rfl ?_ | refine XK.outN rfl rfl rfl ?_)
    rfl
  · have hgo := fun h => stepS_go hk (k := k) (s := s) (t := t) h
    have hno := fun h => stepS_no hk (k := k) (s := s) (t := t) h
    have d2 := stepS_ok k hk s t
    generalize hst : stepS k s t = q at *
    (repeat (first | refine XK.norm rfl rfl ?_ | refine XK.rgnA hT rfl rfl rfl ?_ | refine XK.rgnB hT hm rfl rfl rfl ?_)); refine XK.region ?_; refine XL.goA hT rfl rfl rfl rfl ?_
    refine XL.callKA hE rfl rfl rfl rfl trivial rfl rfl (d2) ?_
    refine XL.goA hT rfl rfl rfl rfl ?_; refine XL.fin ?_; (repeat (first | refine XK.norm rfl rfl ?_ | refine XK.rgnA hT rfl rfl rfl ?_ | refine XK.rgnB hT hm rfl rfl rfl ?_))
    (repeat (first | refine XK.norm rfl rfl ?_ | refine XK.rgnA hT rfl rfl rfl ?_ | refine XK.rgnB hT hm rfl rfl rfl ?_)); refine XK.cond rfl (fun h1 => ?_) (fun h1 => ?_) <;> (try simp at h1)
    · rw [hno h1]
      (repeat (first | refine XK.norm rfl rfl ?_ | refine XK.rgnA hT rfl rfl rfl ?_ | refine XK.rgnB hT hm rfl rfl rfl ?_))
      (first | refine XK.out rfl rfl rfl ?_ | refine XK.outN rfl rfl rfl ?_)
      rfl
    · obtain ⟨⟨hv, ht1, ht2⟩, hd, hq, hw⟩ := hgo h1
      subst hq
      have hl := validS_len hv
      have hF := (show kOk k from ⟨hk, hl.1⟩).facts
      have hday := step_day k s.wk t
      have e1 : (outS k (stepW k s.wk t)).marks.length = k.clauses.length := by simp [outS]
      have e2 : s.marks.length = k.clauses.length := hl.2.2.2.1
      have b3 := hF.nc
      have hdd := hF.days
      have hsd := hl.2.2.2.2.1
      have hmk : ∀ i, i < k.clauses.length → (outS k (stepW k s.wk t)).marks.getD i default = (stepW k s.wk t).mark i := fun i hi => outS_mark hi
      have hwd : (outS k (stepW k s.wk t)).day = (stepW k s.wk t).day := rfl
      have hA : ∀ i, endedM (s.wk.mark i) = true → (stepW k s.wk t).mark i = s.wk.mark i := fun i h => by
        have := endedM_iff.1 h
        exact step_ended (by omega) (Bool.eq_false_iff.2 fun h2 => by have := runsM_iff.1 h2; omega)
      have hB : ∀ i, _ := fun i => step_noReturn (k := k) (w := s.wk) (s := t) (i := i)
      generalize stepW k s.wk t = w' at *
      generalize outS k w' = o at *
      dsimp only at *
      (repeat (first | refine XK.norm rfl rfl ?_ | refine XK.rgnA hT rfl rfl rfl ?_ | refine XK.rgnB hT hm rfl rfl rfl ?_)); refine XK.cond rfl (fun h2 => ?_) (fun h2 => ?_)
      · exfalso
        have h2 : ((o.marks.length : Int) != s.marks.length || t == -1 && o.day != s.day + 1 || t != -1 && o.day != s.day) = true := h2
        have hds : s.wk.day = s.day := rfl
        rw [hds] at hday
        rw [hwd, hday, e1, e2] at h2
        by_cases h3 : t = -1 <;> simp [h3] at h2
      · clear h2
        (repeat (first | refine XK.norm rfl rfl ?_ | refine XK.rgnA hT rfl rfl rfl ?_ | refine XK.rgnB hT hm rfl rfl rfl ?_))
        refine XK.loop (ι := Nat) (fun i => ST.of [(4, .ptr 4 0), (7, .c (.bool true)), (8, .ptr 350 0), (10, .c (.int .i64 i))] [(4, .cells 57 (stC s)), (350, .cells 57 (stC o))] 1000 114 (fun _ => false))
          (fun i => i ≤ s.marks.length) (fun i => s.marks.length - i) 0 (Nat.zero_le _)
          (Weak.of hN rfl rfl rfl (by (repeat' (first | exact rfl | exact AvIs.refl _ | exact trivial | exact fun _ _ => rfl | exact fun _ _ => ⟨rfl, AvIs.refl _⟩ | refine ⟨?_, ?_⟩))) (by (repeat' (first | exact rfl | exact AvIs.refl _ | exact trivial | exact fun _ _ => rfl | exact fun _ _ => ⟨rfl, AvIs.refl _⟩ | refine ⟨?_, ?_⟩)))) fun i hi => ?_
        (repeat (first | refine XK.norm rfl rfl ?_ | refine XK.rgnA hT rfl rfl rfl ?_ | refine XK.rgnB hT hm rfl rfl rfl ?_)); refine XK.cond rfl (fun hlt => ?_) (fun hlt => ?_) <;> (try simp at hlt)
        · have hic : i < k.clauses.length := by omega
          have ho := hmk i hic
          have fa : s.marks.getD (i : Int).toNat default = s.wk.mark i := rfl
          have fb : o.marks.getD (i : Int).toNat default = w'.mark i := ho
          have hA := hA i
          have hB := hB i
          have hio : i < o.marks.length := by omega
          (repeat (first | refine XK.norm rfl rfl ?_ | refine XK.rgnA hT rfl rfl rfl ?_ | refine XK.rgnB hT hm rfl rfl rfl ?_))
          rw [fa, fb]
          generalize s.wk.mark i = a at *
          generalize w'.mark i = b at *
          (repeat (first | refine XK.norm rfl rfl ?_ | refine XK.rgnA hT rfl rfl rfl ?_ | refine XK.rgnB hT hm rfl rfl rfl ?_)); refine XK.region ?_; refine XL.goA hT rfl rfl rfl rfl ?_
          refine XL.callLA hE rfl rfl rfl rfl trivial rfl (ended_ok a) rfl ?_
          refine XL.goA hT rfl rfl rfl rfl ?_; refine XL.fin ?_; (repeat (first | refine XK.norm rfl rfl ?_ | refine XK.rgnA hT rfl rfl rfl ?_ | refine XK.rgnB hT hm rfl rfl rfl ?_))
          (repeat (first | refine XK.norm rfl rfl ?_ | refine XK.rgnA hT rfl rfl rfl ?_ | refine XK.rgnB hT hm rfl rfl rfl ?_)); refine XK.cond rfl (fun h4 => ?_) (fun h4 => ?_)
          · exfalso
            obtain ⟨hB1, hB2⟩ := hB
            cases hea : endedM a with
            | true =>
              have hs := endedM_iff.1 hea
              rw [hA hea] at h4
              simp at h4
              omega
            | false =>
              rw [hea] at h4
              simp at h4
              omega
          · (repeat (first | refine XK.norm rfl rfl ?_ | refine XK.rgnA hT rfl rfl rfl ?_ | refine XK.rgnB hT hm rfl rfl rfl ?_))
            exact XK.inv ⟨i + 1, hlt, (Weak.of hN rfl rfl rfl (by (repeat' (first | exact rfl | exact AvIs.refl _ | exact trivial | exact fun _ _ => rfl | exact fun _ _ => ⟨rfl, AvIs.refl _⟩ | refine ⟨?_, ?_⟩))) (by (repeat' (first | exact rfl | exact AvIs.refl _ | exact trivial | exact fun _ _ => rfl | exact fun _ _ => ⟨rfl, AvIs.refl _⟩ | refine ⟨?_, ?_⟩)))), by omega⟩
        · (repeat (first | refine XK.norm rfl rfl ?_ | refine XK.rgnA hT rfl rfl rfl ?_ | refine XK.rgnB hT hm rfl rfl rfl ?_))
          (first | refine XK.out rfl rfl rfl ?_ | refine XK.outN rfl rfl rfl ?_)
          rfl
end Go.Proofs.Ytbheoblmfjjaaaa
end
section
/- The law SystemStarts. -/
namespace Go.Proofs.Ytbheoblmfjjaaaa
open Go.Eng
set_option maxRecDepth 10000
set_option linter.unusedSimpArgs false
set_option linter.unusedVariables false
theorem lawSA (k : K) (hk : kW k) (s : St) (t : Int) : Does Try.prog 6 [kV k, stV s, .c (.int .i64 t)] (.c (.bool true)) := by
  refine Does.mk (fun _ => false) TT_ok Try.func6 rfl (by kernel_rfl) Try.ntmps6 rfl rfl fun E hT hE hN hR => ?_
  have hm : E.P.follows .mixedOrders = true := by rw [hE]; kernel_rfl
  (repeat (first | refine XK.norm rfl rfl ?_ | refine XK.rgnA hT rfl rfl rfl ?_ | refine XK.rgnB hT hm rfl rfl rfl ?_)); refine XK.region ?_; refine XL.goA hT rfl rfl rfl rfl ?_
  refine XL.callLA hE rfl rfl rfl rfl trivial rfl (head15_ok) rfl ?_
  refine XL.goA hT rfl rfl rfl rfl ?_; refine XL.fin ?_; (repeat (first | refine XK.norm rfl rfl ?_ | refine XK.rgnA hT rfl rfl rfl ?_ | refine XK.rgnB hT hm rfl rfl rfl ?_))
  (repeat (first | refine XK.norm rfl rfl ?_ | refine XK.rgnA hT rfl rfl rfl ?_ | refine XK.rgnB hT hm rfl rfl rfl ?_)); refine XK.region ?_; refine XL.goA hT rfl rfl rfl rfl ?_
  refine XL.callLA hE rfl rfl rfl rfl trivial rfl (smallQ_ok k 40) rfl ?_
  refine XL.goA hT rfl rfl rfl rfl ?_
  refine XL.callGA hE rfl rfl rfl rfl rfl rfl rfl rfl (fewS_ok s) rfl ?_
  refine XL.goA hT rfl rfl rfl rfl ?_; refine XL.fin ?_; (repeat (first | refine XK.norm rfl rfl ?_ | refine XK.rgnA hT rfl rfl rfl ?_ | refine XK.rgnB hT hm rfl rfl rfl ?_))
  (repeat (first | refine XK.norm rfl rfl ?_ | refine XK.rgnA hT rfl rfl rfl ?_ | refine XK.rgnB hT hm rfl rfl rfl ?_)); refine XK.cond rfl (fun h0 => ?_) (fun h0 => ?_) <;> (try simp at h0)
  · (repeat (first | refine XK.norm rfl rfl ?_ | refine XK.rgnA hT rfl rfl rfl ?_ | refine XK.rgnB hT hm rfl rfl rfl ?_))
    (first | refine XK.out rfl rfl rfl ?_ | refine XK.outN rfl rfl rfl ?_)
    rfl
  · have hgo := fun h => stepS_go hk (k := k) (s := s) (t := t) h
    have hno := fun h => stepS_no hk (k := k) (s := s) (t := t) h
    have d2 := stepS_ok k hk s t
    generalize hst : stepS k s t = q at *
    (repeat (first | refine XK.norm rfl rfl ?_ | refine XK.rgnA hT rfl rfl rfl ?_ | refine XK.rgnB hT hm rfl rfl rfl ?_)); refine XK.region ?_; refine XL.goA hT rfl rfl rfl rfl ?_
    refine XL.callKA hE rfl rfl rfl rfl trivial rfl rfl (d2) ?_
    refine XL.goA hT rfl rfl rfl rfl ?_; refine XL.fin ?_; (repeat (first | refine XK.norm rfl rfl ?_ | refine XK.rgnA hT rfl rfl rfl ?_ | refine XK.rgnB hT hm rfl rfl rfl ?_))
    (repeat (first | refine XK.norm rfl rfl ?_ | refine XK.rgnA hT rfl rfl rfl ?_ | refine XK.rgnB hT hm rfl rfl rfl ?_)); refine XK.cond rfl (fun h1 => ?_) (fun h1 => ?_) <;> (try simp at h1)
    · (repeat (first | refine XK.norm rfl rfl ?_ | refine XK.rgnA hT rfl rfl rfl ?_ | refine XK.rgnB hT hm rfl rfl rfl ?_))
      (first | refine XK.out rfl rfl rfl ?_ | refine XK.outN rfl rfl rfl ?_)
      rfl
    · obtain ⟨⟨hv, ht1, ht2⟩, hd, hq, hw⟩ := hgo h1
      subst hq
      have hl := validS_len hv
      have hF := (show kOk k from ⟨hk, hl.1⟩).facts
      have hday := step_day k s.wk t
      have e1 : (outS k (stepW k s.wk t)).marks.length = k.clauses.length := by simp [outS]
      have e2 : s.marks.length = k.clauses.length := hl.2.2.2.1
      have b3 := hF.nc
      have hdd := hF.days
      have hsd := hl.2.2.2.2.1
      have hmk : ∀ i, i < k.clauses.length → (outS k (stepW k s.wk t)).marks.getD i default = (stepW k s.wk t).mark i := fun i hi => outS_mark hi
      have hwd : (outS k (stepW k s.wk t)).day = (stepW k s.wk t).day := rfl
      have hA : ∀ i, (s.wk.mark i).status = 0 → ((stepW k s.wk t).mark i).status ≠ 0 → (stepW k s.wk t).mark i = liveM k (stepW k s.wk t).hold i ∧ ∀ c ∈ (clAt k i).start, condHB (stepW k s.wk t).mark c = true := fun i h h' => step_starts h h'
      have hho : ∀ i, i < k.holders.length → (outS k (stepW k s.wk t)).holders.getD i default = (stepW k s.wk t).hold i := fun i hi => outS_hold hi
      have hfit : fitsB k s (outS k (stepW k s.wk t)) = true := by simp [fitsB, outS, hl.2.1, hl.2.2.1, hl.2.2.2.1]
      have hlh : (outS k (stepW k s.wk t)).holders.length = k.holders.length := by simp [outS]
      generalize stepW k s.wk t = w' at *
      generalize outS k w' = o at *
      dsimp only at *
      have df := fits_ok k s o
      rw [hfit] at df
      (repeat (first | refine XK.norm rfl rfl ?_ | refine XK.rgnA hT rfl rfl rfl ?_ | refine XK.rgnB hT hm rfl rfl rfl ?_)); refine XK.region ?_; refine XL.goA hT rfl rfl rfl rfl ?_
      refine XL.callLA hE rfl rfl rfl rfl trivial rfl (df) rfl ?_
      refine XL.goA hT rfl rfl rfl rfl ?_; refine XL.fin ?_; (repeat (first | refine XK.norm rfl rfl ?_ | refine XK.rgnA hT rfl rfl rfl ?_ | refine XK.rgnB hT hm rfl rfl rfl ?_))
      (repeat (first | refine XK.norm rfl rfl ?_ | refine XK.rgnA hT rfl rfl rfl ?_ | refine XK.rgnB hT hm rfl rfl rfl ?_)); refine XK.cond rfl (fun h2 => ?_) (fun h2 => ?_)
      · exact absurd h2 (by simp)
      · clear h2
        (repeat (first | refine XK.norm rfl rfl ?_ | refine XK.rgnA hT rfl rfl rfl ?_ | refine XK.rgnB hT hm rfl rfl rfl ?_))
        refine XK.loop (ι := Nat) (fun i => ST.of [(3, .ptr 3 0), (4, .ptr 4 0), (7, .c (.bool true)), (8, .ptr 317 0), (10, .c (.int .i64 i))] [(3, .cells 54 (kC k)), (4, .cells 57 (stC s)), (317, .cells 57 (stC o))] 1000 103 (fun _ => false))
          (fun i => i ≤ s.marks.length) (fun i => s.marks.length - i) 0 (Nat.zero_le _)
          (Weak.of hN rfl rfl rfl (by (repeat' (first | exact rfl | exact AvIs.refl _ | exact trivial | exact fun _ _ => rfl | exact fun _ _ => ⟨rfl, AvIs.refl _⟩ | refine ⟨?_, ?_⟩))) (by (repeat' (first | exact rfl | exact AvIs.refl _ | exact trivial | exact fun _ _ => rfl | exact fun _ _ => ⟨rfl, AvIs.refl _⟩ | refine ⟨?_, ?_⟩)))) fun i hi => ?_
        (repeat (first | refine XK.norm rfl rfl ?_ | refine XK.rgnA hT rfl rfl rfl ?_ | refine XK.rgnB hT hm rfl rfl rfl ?_)); refine XK.cond rfl (fun hlt => ?_) (fun hlt => ?_) <;> (try simp at hlt)
        · have hic : i < k.clauses.length := by omega
          have ho := hmk i hic
          have fa : s.marks.getD (i : Int).toNat default = s.wk.mark i := rfl
          have fb : o.marks.getD (i : Int).toNat default = w'.mark i := ho
          have fc : k.clauses.getD (i : Int).toNat default = clAt k i := rfl
          have hA := hA i
          have hio : i < o.marks.length := by omega
          have hkf := kindW (hF.clB hic).2.2.1
          have hcd := fun j (hj : j < (clAt k i).start.length) => hF.cond hic (s := (clAt k i).start.getD j default) (getD_memW hj)
          have hcm := fun j (hj : j < (clAt k i).start.length) => getD_memW hj
          have hst8 := (hF.clB hic).2.2.2.1
          (repeat (first | refine XK.norm rfl rfl ?_ | refine XK.rgnA hT rfl rfl rfl ?_ | refine XK.rgnB hT hm rfl rfl rfl ?_))
          rw [fa, fb]
          (repeat (first | refine XK.norm rfl rfl ?_ | refine XK.rgnA hT rfl rfl rfl ?_ | refine XK.rgnB hT hm rfl rfl rfl ?_)); refine XK.cond rfl (fun h4 => ?_) (fun h4 => ?_)
          · (repeat (first | refine XK.norm rfl rfl ?_ | refine XK.rgnA hT rfl rfl rfl ?_ | refine XK.rgnB hT hm rfl rfl rfl ?_))
            exact XK.inv ⟨i + 1, hlt, (Weak.of hN rfl rfl rfl (by (repeat' (first | exact rfl | exact AvIs.refl _ | exact trivial | exact fun _ _ => rfl | exact fun _ _ => ⟨rfl, AvIs.refl _⟩ | refine ⟨?_, ?_⟩))) (by (repeat' (first | exact rfl | exact AvIs.refl _ | exact trivial | exact fun _ _ => rfl | exact fun _ _ => ⟨rfl, AvIs.refl _⟩ | refine ⟨?_, ?_⟩)))), by omega⟩
          · have h4 : ((s.wk.mark i).status != 0 || (w'.mark i).status == 0) = false := h4
            simp only [Bool.or_eq_false_iff, bne_eq_false_iff_eq, beq_eq_false_iff_ne] at h4
            obtain ⟨hmm, hcs⟩ := hA h4.1 h4.2
            (repeat (first | refine XK.norm rfl rfl ?_ | refine XK.rgnA hT rfl rfl rfl ?_ | refine XK.rgnB hT hm rfl rfl rfl ?_))
            rw [fc]
            (repeat (first | refine XK.norm rfl rfl ?_ | refine XK.rgnA hT rfl rfl rfl ?_ | refine XK.rgnB hT hm rfl rfl rfl ?_)); refine XK.join (ST.of [(3, .ptr 3 0), (4, .ptr 4 0), (7, .c (.bool true)), (8, .ptr 317 0), (10, .c (.int .i64 i)), (11, .ptr 1217 0), (12, .c (.int .i64 (liveM k w'.hold i).bearer))] [(3, .cells 54 (kC k)), (4, .cells 57 (stC s)), (317, .cells 57 (stC o)), (1217, .cells 71 (clC (clAt k i)))] 3000 103 (fun _ => false)) rfl (fun h5 => ?_) (fun h5 => ?_) ?_
            · have h5 : (clAt k i).kind ≠ 4 := by simpa using h5
              have hro : 0 ≤ (clAt k i).role ∧ (clAt k i).role < k.holders.length := by
                rcases hkf with h | h
                · exact absurd h.1 h5
                · exact h.1
              have fh : o.holders.getD (clAt k i).role.toNat default = w'.hold (clAt k i).role.toNat := hho _ (by omega)
              have e : (liveM k w'.hold i).bearer = w'.hold (clAt k i).role.toNat := by simp [liveM, h5]
              rw [e]
              (repeat (first | refine XK.norm rfl rfl ?_ | refine XK.rgnA hT rfl rfl rfl ?_ | refine XK.rgnB hT hm rfl rfl rfl ?_))
              rw [fh]
              exact XK.inv (Weak.of hN rfl rfl rfl (by (repeat' (first | exact rfl | exact AvIs.refl _ | exact trivial | exact fun _ _ => rfl | exact fun _ _ => ⟨rfl, AvIs.refl _⟩ | refine ⟨?_, ?_⟩))) (by (repeat' (first | exact rfl | exact AvIs.refl _ | exact trivial | exact fun _ _ => rfl | exact fun _ _ => ⟨rfl, AvIs.refl _⟩ | refine ⟨?_, ?_⟩))))
            · have h5 : (clAt k i).kind = 4 := by simpa using h5
              have e : (liveM k w'.hold i).bearer = -1 := by simp [liveM, h5]
              rw [e]
              (repeat (first | refine XK.norm rfl rfl ?_ | refine XK.rgnA hT rfl rfl rfl ?_ | refine XK.rgnB hT hm rfl rfl rfl ?_))
              exact XK.inv (Weak.of hN rfl rfl rfl (by (repeat' (first | exact rfl | exact AvIs.refl _ | exact trivial | exact fun _ _ => rfl | exact fun _ _ => ⟨rfl, AvIs.refl _⟩ | refine ⟨?_, ?_⟩))) (by (repeat' (first | exact rfl | exact AvIs.refl _ | exact trivial | exact fun _ _ => rfl | exact fun _ _ => ⟨rfl, AvIs.refl _⟩ | refine ⟨?_, ?_⟩))))
            (repeat (first | refine XK.norm rfl rfl ?_ | refine XK.rgnA hT rfl rfl rfl ?_ | refine XK.rgnB hT hm rfl rfl rfl ?_))
            rw [fb, hmm]
            (repeat (first | refine XK.norm rfl rfl ?_ | refine XK.rgnA hT rfl rfl rfl ?_ | refine XK.rgnB hT hm rfl rfl rfl ?_)); refine XK.cond rfl (fun h6 => ?_) (fun h6 => ?_)
            · exfalso
              revert h6
              simp [liveM]
            · clear h6
              (repeat (first | refine XK.norm rfl rfl ?_ | refine XK.rgnA hT rfl rfl rfl ?_ | refine XK.rgnB hT hm rfl rfl rfl ?_))
              refine XK.loop (ι := Nat) (fun j => ST.of [(3, .ptr 3 0), (4, .ptr 4 0), (7, .c (.bool true)), (8, .ptr 317 0), (10, .c (.int .i64 i)), (11, .ptr 1217 0), (13, .c (.int .i64 j))] [(3, .cells 54 (kC k)), (4, .cells 57 (stC s)), (317, .cells 57 (stC o)), (1217, .cells 71 (clC (clAt k i)))] 4000 103 (fun _ => false))
                (fun j => j ≤ (clAt k i).start.length) (fun j => (clAt k i).start.length - j) 0 (Nat.zero_le _)
                (Weak.of hN rfl rfl rfl (by (repeat' (first | exact rfl | exact AvIs.refl _ | exact trivial | exact fun _ _ => rfl | exact fun _ _ => ⟨rfl, AvIs.refl _⟩ | refine ⟨?_, ?_⟩))) (by (repeat' (first | exact rfl | exact AvIs.refl _ | exact trivial | exact fun _ _ => rfl | exact fun _ _ => ⟨rfl, AvIs.refl _⟩ | refine ⟨?_, ?_⟩)))) fun j hj => ?_
              (repeat (first | refine XK.norm rfl rfl ?_ | refine XK.rgnA hT rfl rfl rfl ?_ | refine XK.rgnB hT hm rfl rfl rfl ?_)); refine XK.cond rfl (fun hlj => ?_) (fun hlj => ?_) <;> (try simp at hlj)
              · have hc1 := hcd j hlj
                have hc2 := hcs _ (hcm j hlj)
                have f1 : (clAt k i).start.getD (j : Int).toNat default = (clAt k i).start.getD j default := rfl
                generalize (clAt k i).start.getD j default = c at hc1 hc2 f1
                have hh := holdsR_ok o.marks c (by omega) ⟨hc1.2.2.2.1, hc1.2.2.2.2⟩
                have he : condHB (fun i => o.marks.getD i default) c = condHB w'.mark c := by
                  unfold condHB
                  dsimp only
                  rw [hmk c.clause.toNat (by omega)]
                rw [he, hc2] at hh
                (repeat (first | refine XK.norm rfl rfl ?_ | refine XK.rgnA hT rfl rfl rfl ?_ | refine XK.rgnB hT hm rfl rfl rfl ?_)); refine XK.drawn hm ?_; refine XD.goA hT rfl rfl rfl rfl ?_
                rw [f1]
                refine XD.callLA hE rfl rfl rfl rfl trivial rfl (hh) rfl ?_
                refine XD.goA hT rfl rfl rfl rfl ?_; refine XD.fin (by kernel_rfl) ?_; (repeat (first | refine XK.norm rfl rfl ?_ | refine XK.rgnA hT rfl rfl rfl ?_ | refine XK.rgnB hT hm rfl rfl rfl ?_))
                (repeat (first | refine XK.norm rfl rfl ?_ | refine XK.rgnA hT rfl rfl rfl ?_ | refine XK.rgnB hT hm rfl rfl rfl ?_)); refine XK.cond rfl (fun h7 => ?_) (fun h7 => ?_)
                · exact absurd h7 (by simp)
                · (repeat (first | refine XK.norm rfl rfl ?_ | refine XK.rgnA hT rfl rfl rfl ?_ | refine XK.rgnB hT hm rfl rfl rfl ?_))
                  exact XK.inv ⟨j + 1, hlj, (Weak.of hN rfl rfl rfl (by (repeat' (first | exact rfl | exact AvIs.refl _ | exact trivial | exact fun _ _ => rfl | exact fun _ _ => ⟨rfl, AvIs.refl _⟩ | refine ⟨?_, ?_⟩))) (by (repeat' (first | exact rfl | exact AvIs.refl _ | exact trivial | exact fun _ _ => rfl | exact fun _ _ => ⟨rfl, AvIs.refl _⟩ | refine ⟨?_, ?_⟩)))), by omega⟩
              · (repeat (first | refine XK.norm rfl rfl ?_ | refine XK.rgnA hT rfl rfl rfl ?_ | refine XK.rgnB hT hm rfl rfl rfl ?_))
                exact XK.inv ⟨i + 1, hlt, (Weak.of hN rfl rfl rfl (by (repeat' (first | exact rfl | exact AvIs.refl _ | exact trivial | exact fun _ _ => rfl | exact fun _ _ => ⟨rfl, AvIs.refl _⟩ | refine ⟨?_, ?_⟩))) (by (repeat' (first | exact rfl | exact AvIs.refl _ | exact trivial | exact fun _ _ => rfl | exact fun _ _ => ⟨rfl, AvIs.refl _⟩ | refine ⟨?_, ?_⟩)))), by omega⟩
        · (repeat (first | refine XK.norm rfl rfl ?_ | refine XK.rgnA hT rfl rfl rfl ?_ | refine XK.rgnB hT hm rfl rfl rfl ?_))
          (first | refine XK.out rfl rfl rfl ?_ | refine XK.outN rfl rfl rfl ?_)
          rfl
end Go.Proofs.Ytbheoblmfjjaaaa
end
section
/- The law SystemBreach. -/
namespace Go.Proofs.Ytbheoblmfjjaaaa
open Go.Eng
set_option maxRecDepth 10000
set_option linter.unusedSimpArgs false
set_option linter.unusedVariables false
theorem breachS_iff {k : K} {s : St} {p : Int} (hv : validS k s = true) : breachS k s p = true ↔ (0 ≤ p ∧ p < k.parties) ∧ ∃ i, i < s.marks.length ∧ (clAt k i).final = true ∧ (s.marks.getD i default).status = 4 ∧ (s.marks.getD i default).bearer = p := by
  unfold breachS
  split
  · rename_i h
    simp only [Bool.or_eq_true, decide_eq_true_eq, hv, Bool.not_true, Bool.false_eq_true, or_false] at h
    constructor
    · intro h2; cases h2
    · rintro ⟨h2, _⟩; omega
  · rename_i h
    simp only [Bool.or_eq_true, decide_eq_true_eq, hv, Bool.not_true, Bool.false_eq_true, or_false, not_or] at h
    rw [List.any_eq_true]
    constructor
    · rintro ⟨i, hi, h2⟩
      simp only [Bool.and_eq_true, beq_iff_eq] at h2
      exact ⟨by omega, i, by simpa using hi, h2.1.1, h2.1.2, h2.2⟩
    · rintro ⟨_, i, hi, h2, h3, h4⟩
      exact ⟨i, by simpa using hi, by simp only [Bool.and_eq_true, beq_iff_eq]; exact ⟨⟨h2, h3⟩, h4⟩⟩
theorem breach_keep {k : K} (hk : kW k) {s : St} {t p : Int} (h : (stepS k s t).2 = 0) : (breachS k s p = true → breachS k (stepS k s t).1 p = true) ∧ (breachS k (stepS k s t).1 p = true → breachS k s p = false → t ≠ -1 → doerS k s t = p) := by
  obtain ⟨⟨hv, ht1, ht2⟩, hd, hq, hw⟩ := stepS_go hk h
  rw [hq]
  have hl := validS_len hv
  have hvo := validS_of hk hl.1 hw
  have e1 : (outS k (stepW k s.wk t)).marks.length = k.clauses.length := by simp [outS]
  have e2 : s.marks.length = k.clauses.length := hl.2.2.2.1
  have hst : ∀ i, (s.wk.mark i).status = 4 → (stepW k s.wk t).mark i = s.wk.mark i := fun i h => step_ended (by omega) (Bool.eq_false_iff.2 fun h2 => by have := runsM_iff.1 h2; omega)
  rw [breachS_iff hv, breachS_iff hvo]
  refine ⟨?_, ?_⟩
  · rintro ⟨hp, i, hi, h1, h2, h3⟩
    refine ⟨hp, i, by omega, h1, ?_⟩
    rw [outS_mark (by omega), hst i h2]
    exact ⟨h2, h3⟩
  · rintro ⟨hp, i, hi, h1, h2, h3⟩ hA ht
    rw [outS_mark (by omega)] at h2 h3
    have hne : (s.wk.mark i).status ≠ 4 := fun h4 => by
      have e := hst i h4
      have : breachS k s p = true := (breachS_iff hv).2 ⟨hp, i, by omega, h1, h4, by rw [e] at h3; exact h3⟩
      rw [hA] at this; cases this
    have hs : stepW k s.wk t = actW' k s.wk t.toNat := by unfold stepW; rw [if_neg ht]
    rw [hs] at h2 h3
    have hb := act_breach hne h2
    unfold doerS
    rw [if_neg (by simp [hv]; omega), ← hb, h3]
theorem lawSB (k : K) (hk : kW k) (s : St) (t p : Int) : Does Try.prog 7 [kV k, stV s, .c (.int .i64 t), .c (.int .i64 p)] (.c (.bool true)) := by
  refine Does.mk (fun _ => false) TT_ok Try.func7 rfl (by kernel_rfl) Try.ntmps7 rfl rfl fun E hT hE hN hR => ?_
  have hm : E.P.follows .mixedOrders = true := by rw [hE]; kernel_rfl
  (repeat (first | refine XK.norm rfl rfl ?_ | refine XK.rgnA hT rfl rfl rfl ?_ | refine XK.rgnB hT hm rfl rfl rfl ?_)); refine XK.region ?_; refine XL.goA hT rfl rfl rfl rfl ?_
  refine XL.callLA hE rfl rfl rfl rfl trivial rfl (head15_ok) rfl ?_
  refine XL.goA hT rfl rfl rfl rfl ?_; refine XL.fin ?_; (repeat (first | refine XK.norm rfl rfl ?_ | refine XK.rgnA hT rfl rfl rfl ?_ | refine XK.rgnB hT hm rfl rfl rfl ?_))
  (repeat (first | refine XK.norm rfl rfl ?_ | refine XK.rgnA hT rfl rfl rfl ?_ | refine XK.rgnB hT hm rfl rfl rfl ?_)); refine XK.region ?_; refine XL.goA hT rfl rfl rfl rfl ?_
  refine XL.callLA hE rfl rfl rfl rfl trivial rfl (smallQ_ok k 40) rfl ?_
  refine XL.goA hT rfl rfl rfl rfl ?_
  refine XL.callGA hE rfl rfl rfl rfl rfl rfl rfl rfl (fewS_ok s) rfl ?_
  refine XL.goA hT rfl rfl rfl rfl ?_; refine XL.fin ?_; (repeat (first | refine XK.norm rfl rfl ?_ | refine XK.rgnA hT rfl rfl rfl ?_ | refine XK.rgnB hT hm rfl rfl rfl ?_))
  (repeat (first | refine XK.norm rfl rfl ?_ | refine XK.rgnA hT rfl rfl rfl ?_ | refine XK.rgnB hT hm rfl rfl rfl ?_)); refine XK.cond rfl (fun h0 => ?_) (fun h0 => ?_) <;> (try simp at h0)
  · (repeat (first | refine XK.norm rfl rfl ?_ | refine XK.rgnA hT rfl rfl rfl ?_ | refine XK.rgnB hT hm rfl rfl rfl ?_))
    (first | refine XK.out rfl rfl rfl ?_ | refine XK.outN rfl rfl rfl ?_)
    rfl
  · have hgo := fun h => stepS_go hk (k := k) (s := s) (t := t) h
    have hno := fun h => stepS_no hk (k := k) (s := s) (t := t) h
    have d2 := stepS_ok k hk s t
    have hbk := fun h => breach_keep hk (k := k) (s := s) (t := t) (p := p) h
    generalize hst : stepS k s t = q at *
    (repeat (first | refine XK.norm rfl rfl ?_ | refine XK.rgnA hT rfl rfl rfl ?_ | refine XK.rgnB hT hm rfl rfl rfl ?_)); refine XK.region ?_; refine XL.goA hT rfl rfl rfl rfl ?_
    refine XL.callKA hE rfl rfl rfl rfl trivial rfl rfl (d2) ?_
    refine XL.goA hT rfl rfl rfl rfl ?_; refine XL.fin ?_; (repeat (first | refine XK.norm rfl rfl ?_ | refine XK.rgnA hT rfl rfl rfl ?_ | refine XK.rgnB hT hm rfl rfl rfl ?_))
    (repeat (first | refine XK.norm rfl rfl ?_ | refine XK.rgnA hT rfl rfl rfl ?_ | refine XK.rgnB hT hm rfl rfl rfl ?_)); refine XK.cond rfl (fun h1 => ?_) (fun h1 => ?_) <;> (try simp at h1)
    · (repeat (first | refine XK.norm rfl rfl ?_ | refine XK.rgnA hT rfl rfl rfl ?_ | refine XK.rgnB hT hm rfl rfl rfl ?_))
      (first | refine XK.out rfl rfl rfl ?_ | refine XK.outN rfl rfl rfl ?_)
      rfl
    · obtain ⟨b1, b2⟩ := hbk h1
      have v1 := breachS_ok k hk s p
      have v2 := breachS_ok k hk q.1 p
      have v3 := doerS_ok k hk s t
      generalize breachS k s p = A at *
      generalize breachS k q.1 p = B at *
      generalize doerS k s t = D at *
      (repeat (first | refine XK.norm rfl rfl ?_ | refine XK.rgnA hT rfl rfl rfl ?_ | refine XK.rgnB hT hm rfl rfl rfl ?_)); refine XK.drawn hm ?_; refine XD.goA hT rfl rfl rfl rfl ?_
      refine XD.callLA hE rfl rfl rfl rfl trivial rfl (v1) rfl ?_
      refine XD.goA hT rfl rfl rfl rfl ?_
      refine XD.callLA hE rfl rfl rfl rfl trivial rfl (v2) rfl ?_
      refine XD.goA hT rfl rfl rfl rfl ?_; refine XD.fin (by kernel_rfl) ?_; (repeat (first | refine XK.norm rfl rfl ?_ | refine XK.rgnA hT rfl rfl rfl ?_ | refine XK.rgnB hT hm rfl rfl rfl ?_))
      (repeat (first | refine XK.norm rfl rfl ?_ | refine XK.rgnA hT rfl rfl rfl ?_ | refine XK.rgnB hT hm rfl rfl rfl ?_)); refine XK.cond rfl (fun h2 => ?_) (fun h2 => ?_)
      · have h2 : A = true := h2
        rw [b1 h2]
        (repeat (first | refine XK.norm rfl rfl ?_ | refine XK.rgnA hT rfl rfl rfl ?_ | refine XK.rgnB hT hm rfl rfl rfl ?_))
        (first | refine XK.out rfl rfl rfl ?_ | refine XK.outN rfl rfl rfl ?_)
        rfl
      · have h2 : A = false := h2
        (repeat (first | refine XK.norm rfl rfl ?_ | refine XK.rgnA hT rfl rfl rfl ?_ | refine XK.rgnB hT hm rfl rfl rfl ?_)); refine XK.region ?_; refine XL.goA hT rfl rfl rfl rfl ?_
        refine XL.callGA hE rfl rfl rfl rfl rfl rfl rfl rfl (v3) rfl ?_
        refine XL.goA hT rfl rfl rfl rfl ?_; refine XL.fin ?_; (repeat (first | refine XK.norm rfl rfl ?_ | refine XK.rgnA hT rfl rfl rfl ?_ | refine XK.rgnB hT hm rfl rfl rfl ?_))
        (first | refine XK.out rfl rfl rfl ?_ | refine XK.outN rfl rfl rfl ?_)
        refine cB ?_
        cases hB : B with
        | false => simp
        | true =>
          by_cases ht : t = -1
          · simp [ht]
          · rw [b2 hB h2 ht]; simp
end Go.Proofs.Ytbheoblmfjjaaaa
end
section
/- The law SystemActs. -/
namespace Go.Proofs.Ytbheoblmfjjaaaa
open Go.Eng
set_option maxRecDepth 10000
set_option linter.unusedSimpArgs false
set_option linter.unusedVariables false
theorem eqIS_iff {l r : List Int} : eqIS l r = true ↔ l.length = r.length ∧ ∀ i, i < l.length → l.getD i default = r.getD i default := by
  simp only [eqIS, Bool.and_eq_true, beq_iff_eq, rall]
theorem eqBS_iff {l r : List Bool} : eqBS l r = true ↔ l.length = r.length ∧ ∀ i, i < l.length → l.getD i default = r.getD i default := by
  simp only [eqBS, Bool.and_eq_true, beq_iff_eq, rall]
theorem eqMS_iff {l r : List Mk} : eqMS l r = true ↔ l.length = r.length ∧ ∀ i, i < l.length → l.getD i default = r.getD i default := by
  simp only [eqMS, Bool.and_eq_true, beq_iff_eq, rall, eqMk_iff]
theorem sameS_iff {a b : St} : sameS a b = true ↔ a.day = b.day ∧ eqIS a.holders b.holders = true ∧ eqBS a.used b.used = true ∧ eqMS a.marks b.marks = true := by
  simp only [sameS, Bool.and_eq_true, beq_iff_eq, and_assoc]
theorem same_out {k : K} {o : St} (h1 : o.holders.length = k.holders.length) (h2 : o.used.length = k.acts.length) (h3 : o.marks.length = k.clauses.length) : sameS o (outS k o.wk) = true := by
  rw [sameS_iff]
  refine ⟨rfl, eqIS_iff.2 ⟨by simp [outS, h1], fun i hi => ?_⟩, eqBS_iff.2 ⟨by simp [outS, h2], fun i hi => ?_⟩, eqMS_iff.2 ⟨by simp [outS, h3], fun i hi => ?_⟩⟩
  · rw [outS_hold (by omega)]; rfl
  · rw [outS_used (by omega)]; rfl
  · rw [outS_mark (by omega)]; rfl
/-- The same act again. -/
theorem act_twice {k : K} (hk : kW k) {s : St} {n : Nat} (h : (stepS k s n).2 = 0) (hn : (acAt k n).kind ≠ 1) : (stepS k (stepS k s n).1 n).2 = 0 ∧ sameS (stepS k s n).1 (stepS k (stepS k s n).1 n).1 = true ∧ (stepS k s n).1.used.getD n default = true := by
  obtain ⟨⟨hv, ht1, ht2⟩, hd, hq, hw⟩ := stepS_go hk h
  have hl := validS_len hv
  have hst : ∀ w : Wk, stepW k w (n : Int) = actW' k w n := fun w => by unfold stepW; rw [if_neg (by omega)]; rfl
  rw [hq]
  have hvo := validS_of hk hl.1 hw
  have hday : (outS k (stepW k s.wk n)).day = s.day := by
    show (stepW k s.wk n).day = s.day
    rw [step_day, if_neg (by omega)]; rfl
  have hus : (outS k (stepW k s.wk n)).used.getD n default = true := by
    rw [outS_used (by omega), hst, act_used hn]
  have e : stepS k (outS k (stepW k s.wk n)) n = (outS k (outS k (stepW k s.wk n)).wk, 0) := by
    unfold stepS
    rw [if_neg (by simp [hvo]; omega), if_neg (by rw [hday]; exact hd), hst (outS k (stepW k s.wk n)).wk, actW', if_pos ⟨hn, hus⟩]
  rw [e]
  exact ⟨rfl, same_out (by simp [outS]) (by simp [outS]) (by simp [outS]), hus⟩
theorem lawSC (k : K) (hk : kW k) (s : St) (t : Int) : Does Try.prog 8 [kV k, stV s, .c (.int .i64 t)] (.c (.bool true)) := by
  refine Does.mk (fun _ => false) TT_ok Try.func8 rfl (by kernel_rfl) Try.ntmps8 rfl rfl fun E hT hE hN hR => ?_
  have hm : E.P.follows .mixedOrders = true := by rw [hE]; kernel_rfl
  (repeat (first | refine XK.norm rfl rfl ?_ | refine XK.rgnA hT rfl rfl rfl ?_ | refine XK.rgnB hT hm rfl rfl rfl ?_)); refine XK.region ?_; refine XL.goA hT rfl rfl rfl rfl ?_
  refine XL.callLA hE rfl rfl rfl rfl trivial rfl (head15_ok) rfl ?_
  refine XL.goA hT rfl rfl rfl rfl ?_; refine XL.fin ?_; (repeat (first | refine XK.norm rfl rfl ?_ | refine XK.rgnA hT rfl rfl rfl ?_ | refine XK.rgnB hT hm rfl rfl rfl ?_))
  (repeat (first | refine XK.norm rfl rfl ?_ | refine XK.rgnA hT rfl rfl rfl ?_ | refine XK.rgnB hT hm rfl rfl rfl ?_)); refine XK.region ?_; refine XL.goA hT rfl rfl rfl rfl ?_
  refine XL.callLA hE rfl rfl rfl rfl trivial rfl (smallQ_ok k 40) rfl ?_
  refine XL.goA hT rfl rfl rfl rfl ?_
  refine XL.callGA hE rfl rfl rfl rfl rfl rfl rfl rfl (fewS_ok s) rfl ?_
  refine XL.goA hT rfl rfl rfl rfl ?_; refine XL.fin ?_; (repeat (first | refine XK.norm rfl rfl ?_ | refine XK.rgnA hT rfl rfl rfl ?_ | refine XK.rgnB hT hm rfl rfl rfl ?_))
  (repeat (first | refine XK.norm rfl rfl ?_ | refine XK.rgnA hT rfl rfl rfl ?_ | refine XK.rgnB hT hm rfl rfl rfl ?_)); refine XK.cond rfl (fun h0 => ?_) (fun h0 => ?_) <;> (try simp at h0)
  · (repeat (first | refine XK.norm rfl rfl ?_ | refine XK.rgnA hT rfl rfl rfl ?_ | refine XK.rgnB hT hm rfl rfl rfl ?_))
    (first | refine XK.out rfl rfl rfl ?_ | refine XK.outN rfl rfl rfl ?_)
    rfl
  · obtain ⟨n, rfl⟩ : ∃ n : Nat, t = (n : Int) := ⟨t.toNat, by omega⟩
    have d2 := stepS_ok k hk s n
    have d3 := stepS_ok k hk (stepS k s n).1 n
    have hgo := fun h => stepS_go hk (k := k) (s := s) (t := n) h
    have htw := fun h h2 => act_twice hk (k := k) (s := s) (n := n) h h2
    generalize stepS k s (n : Int) = q at *
    (repeat (first | refine XK.norm rfl rfl ?_ | refine XK.rgnA hT rfl rfl rfl ?_ | refine XK.rgnB hT hm rfl rfl rfl ?_)); refine XK.region ?_; refine XL.goA hT rfl rfl rfl rfl ?_
    refine XL.callKA hE rfl rfl rfl rfl trivial rfl rfl (d2) ?_
    refine XL.goA hT rfl rfl rfl rfl ?_; refine XL.fin ?_; (repeat (first | refine XK.norm rfl rfl ?_ | refine XK.rgnA hT rfl rfl rfl ?_ | refine XK.rgnB hT hm rfl rfl rfl ?_))
    (repeat (first | refine XK.norm rfl rfl ?_ | refine XK.rgnA hT rfl rfl rfl ?_ | refine XK.rgnB hT hm rfl rfl rfl ?_)); refine XK.cond rfl (fun h1 => ?_) (fun h1 => ?_) <;> (try simp at h1)
    · (repeat (first | refine XK.norm rfl rfl ?_ | refine XK.rgnA hT rfl rfl rfl ?_ | refine XK.rgnB hT hm rfl rfl rfl ?_))
      (first | refine XK.out rfl rfl rfl ?_ | refine XK.outN rfl rfl rfl ?_)
      rfl
    · obtain ⟨⟨hv, ht1, ht2⟩, hd, hq, hw⟩ := hgo h1
      have htw := htw h1
      have hst : stepW k s.wk (n : Int) = actW' k s.wk n := by unfold stepW; rw [if_neg (by omega)]; rfl
      rw [hst] at hq
      have hl := validS_len hv
      have hF := (show kOk k from ⟨hk, hl.1⟩).facts
      have b1 := hF.nh
      have b2 := hF.na
      have b3 := hF.nc
      have lm : q.1.marks.length = k.clauses.length := by rw [hq]; simp [outS]
      have lh : q.1.holders.length = k.holders.length := by rw [hq]; simp [outS]
      have lu : q.1.used.length = k.acts.length := by rw [hq]; simp [outS]
      have hmk : ∀ i, i < k.clauses.length → q.1.marks.getD i default = (actW' k s.wk n).mark i := fun i hi => by rw [hq]; exact outS_mark hi
      have hho : ∀ i, i < k.holders.length → q.1.holders.getD i default = (actW' k s.wk n).hold i := fun i hi => by rw [hq]; exact outS_hold hi
      have hfit : fitsB k s q.1 = true := by simp [fitsB, lm, lh, lu, hl.2.1, hl.2.2.1, hl.2.2.2.1]
      have hNm := fun i h a b c d => act_named (k := k) (w := s.wk) (a := n) (i := i) h a b c d
      have hH := fun j h => act_hold (k := k) (w := s.wk) (a := n) (j := j) h
      have hx := actF (hF.act n (by omega))
      have fa : k.acts.getD (n : Int).toNat default = acAt k n := rfl
      clear hq hst hgo
      generalize actW' k s.wk n = w' at *
      generalize hr : stepS k q.1 (n : Int) = r at *
      have df := fits_ok k s q.1
      rw [hfit] at df
      obtain ⟨-, l2, l3, l4, -⟩ := hl
      (repeat (first | refine XK.norm rfl rfl ?_ | refine XK.rgnA hT rfl rfl rfl ?_ | refine XK.rgnB hT hm rfl rfl rfl ?_)); refine XK.region ?_; refine XL.goA hT rfl rfl rfl rfl ?_
      refine XL.callLA hE rfl rfl rfl rfl trivial rfl (df) rfl ?_
      refine XL.goA hT rfl rfl rfl rfl ?_; refine XL.fin ?_; (repeat (first | refine XK.norm rfl rfl ?_ | refine XK.rgnA hT rfl rfl rfl ?_ | refine XK.rgnB hT hm rfl rfl rfl ?_))
      (repeat (first | refine XK.norm rfl rfl ?_ | refine XK.rgnA hT rfl rfl rfl ?_ | refine XK.rgnB hT hm rfl rfl rfl ?_)); refine XK.cond rfl (fun h2 => ?_) (fun h2 => ?_)
      · exact absurd h2 (by simp)
      · clear h2
        (repeat (first | refine XK.norm rfl rfl ?_ | refine XK.rgnA hT rfl rfl rfl ?_ | refine XK.rgnB hT hm rfl rfl rfl ?_))
        rw [fa]
        refine XK.loop (ι := Nat) (fun i => ST.of [(2, .c (.int .i64 (n : Nat))), (3, .ptr 3 0), (4, .ptr 4 0), (7, .c (.bool true)), (8, .ptr 551 0), (10, .ptr 1096 0), (11, .c (.int .i64 i))] [(3, .cells 54 (kC k)), (4, .cells 57 (stC s)), (551, .cells 57 (stC q.1)), (1096, .cells 78 (actC (acAt k n)))] 2000 181 (fun _ => false))
          (fun i => i ≤ s.marks.length) (fun i => s.marks.length - i) 0 (Nat.zero_le _)
          (Weak.of hN rfl rfl rfl (by (repeat' (first | exact rfl | exact AvIs.refl _ | exact trivial | exact fun _ _ => rfl | exact fun _ _ => ⟨rfl, AvIs.refl _⟩ | refine ⟨?_, ?_⟩))) (by (repeat' (first | exact rfl | exact AvIs.refl _ | exact trivial | exact fun _ _ => rfl | exact fun _ _ => ⟨rfl, AvIs.refl _⟩ | refine ⟨?_, ?_⟩)))) fun i hi => ?_
        (repeat (first | refine XK.norm rfl rfl ?_ | refine XK.rgnA hT rfl rfl rfl ?_ | refine XK.rgnB hT hm rfl rfl rfl ?_)); refine XK.cond rfl (fun hlt => ?_) (fun hlt => ?_) <;> (try simp at hlt)
        · have hic : i < k.clauses.length := by omega
          have fm : s.marks.getD (i : Int).toNat default = s.wk.mark i := rfl
          have fb : q.1.marks.getD (i : Int).toNat default = w'.mark i := hmk i hic
          have fc : k.clauses.getD (i : Int).toNat default = clAt k i := rfl
          have hNm := hNm i
          have hio : i < q.1.marks.length := by omega
          (repeat (first | refine XK.norm rfl rfl ?_ | refine XK.rgnA hT rfl rfl rfl ?_ | refine XK.rgnB hT hm rfl rfl rfl ?_))
          rw [fc]
          (repeat (first | refine XK.norm rfl rfl ?_ | refine XK.rgnA hT rfl rfl rfl ?_ | refine XK.rgnB hT hm rfl rfl rfl ?_)); refine XK.drawn hm ?_; refine XD.goA hT rfl rfl rfl rfl ?_
          rw [fm]
          refine XD.callLA hE rfl rfl rfl rfl trivial rfl (runsR_ok (s.wk.mark i)) rfl ?_
          refine XD.goA hT rfl rfl rfl rfl ?_; refine XD.fin (by kernel_rfl) ?_; (repeat (first | refine XK.norm rfl rfl ?_ | refine XK.rgnA hT rfl rfl rfl ?_ | refine XK.rgnB hT hm rfl rfl rfl ?_))
          rw [fm, fb]
          generalize s.wk.mark i = x at *
          generalize w'.mark i = y at *
          (repeat (first | refine XK.norm rfl rfl ?_ | refine XK.rgnA hT rfl rfl rfl ?_ | refine XK.rgnB hT hm rfl rfl rfl ?_)); refine XK.cond rfl (fun h4 => ?_) (fun h4 => ?_)
          · exfalso
            rw [Bool.and_eq_true, Bool.and_eq_true] at h4
            obtain ⟨⟨g1, g2⟩, g3⟩ := h4
            simp only [Bool.not_eq_true', Bool.or_eq_false_iff, beq_eq_false_iff_ne, Bool.and_eq_false_iff] at g3
            have he := hNm g1 g3.1.1.1 g3.1.1.2 g3.1.2 (fun h => by
              rcases g3.2 with g | g
              · exact g h.1
              · exact g h.2)
            rw [he] at g2
            simp at g2
          · (repeat (first | refine XK.norm rfl rfl ?_ | refine XK.rgnA hT rfl rfl rfl ?_ | refine XK.rgnB hT hm rfl rfl rfl ?_))
            exact XK.inv ⟨i + 1, hlt, (Weak.of hN rfl rfl rfl (by (repeat' (first | exact rfl | exact AvIs.refl _ | exact trivial | exact fun _ _ => rfl | exact fun _ _ => ⟨rfl, AvIs.refl _⟩ | refine ⟨?_, ?_⟩))) (by (repeat' (first | exact rfl | exact AvIs.refl _ | exact trivial | exact fun _ _ => rfl | exact fun _ _ => ⟨rfl, AvIs.refl _⟩ | refine ⟨?_, ?_⟩)))), by omega⟩
        · (repeat (first | refine XK.norm rfl rfl ?_ | refine XK.rgnA hT rfl rfl rfl ?_ | refine XK.rgnB hT hm rfl rfl rfl ?_))
          refine XK.loop (ι := Nat) (fun i => ST.of [(2, .c (.int .i64 (n : Nat))), (3, .ptr 3 0), (4, .ptr 4 0), (7, .c (.bool true)), (8, .ptr 551 0), (10, .ptr 1096 0), (14, .c (.int .i64 i))] [(3, .cells 54 (kC k)), (4, .cells 57 (stC s)), (551, .cells 57 (stC q.1)), (1096, .cells 78 (actC (acAt k n)))] 3000 181 (fun _ => false))
            (fun i => i ≤ s.holders.length) (fun i => s.holders.length - i) 0 (Nat.zero_le _)
            (Weak.of hN rfl rfl rfl (by (repeat' (first | exact rfl | exact AvIs.refl _ | exact trivial | exact fun _ _ => rfl | exact fun _ _ => ⟨rfl, AvIs.refl _⟩ | refine ⟨?_, ?_⟩))) (by (repeat' (first | exact rfl | exact AvIs.refl _ | exact trivial | exact fun _ _ => rfl | exact fun _ _ => ⟨rfl, AvIs.refl _⟩ | refine ⟨?_, ?_⟩)))) fun i hi => ?_
          (repeat (first | refine XK.norm rfl rfl ?_ | refine XK.rgnA hT rfl rfl rfl ?_ | refine XK.rgnB hT hm rfl rfl rfl ?_)); refine XK.cond rfl (fun hlt2 => ?_) (fun hlt2 => ?_) <;> (try simp at hlt2)
          · have fm : s.holders.getD (i : Int).toNat default = s.wk.hold i := rfl
            have fb : q.1.holders.getD (i : Int).toNat default = w'.hold i := hho i (by omega)
            have hH := hH i
            have hio : i < q.1.holders.length := by omega
            (repeat (first | refine XK.norm rfl rfl ?_ | refine XK.rgnA hT rfl rfl rfl ?_ | refine XK.rgnB hT hm rfl rfl rfl ?_))
            rw [fm, fb]
            (repeat (first | refine XK.norm rfl rfl ?_ | refine XK.rgnA hT rfl rfl rfl ?_ | refine XK.rgnB hT hm rfl rfl rfl ?_)); refine XK.cond rfl (fun h4 => ?_) (fun h4 => ?_)
            · exfalso
              rw [Bool.and_eq_true] at h4
              obtain ⟨g1, g2⟩ := h4
              have g1 : s.wk.hold i ≠ w'.hold i := by simpa using g1
              obtain ⟨c1, c2, c3⟩ := hH (Ne.symm g1)
              simp only [Bool.or_eq_true, beq_iff_eq, bne_iff_ne, ne_eq] at g2
              rcases g2 with (g2 | g2) | g2
              · exact c1 g2
              · omega
              · exact g2 c3
            · (repeat (first | refine XK.norm rfl rfl ?_ | refine XK.rgnA hT rfl rfl rfl ?_ | refine XK.rgnB hT hm rfl rfl rfl ?_))
              exact XK.inv ⟨i + 1, hlt2, (Weak.of hN rfl rfl rfl (by (repeat' (first | exact rfl | exact AvIs.refl _ | exact trivial | exact fun _ _ => rfl | exact fun _ _ => ⟨rfl, AvIs.refl _⟩ | refine ⟨?_, ?_⟩))) (by (repeat' (first | exact rfl | exact AvIs.refl _ | exact trivial | exact fun _ _ => rfl | exact fun _ _ => ⟨rfl, AvIs.refl _⟩ | refine ⟨?_, ?_⟩)))), by omega⟩
          · (repeat (first | refine XK.norm rfl rfl ?_ | refine XK.rgnA hT rfl rfl rfl ?_ | refine XK.rgnB hT hm rfl rfl rfl ?_)); refine XK.cond rfl (fun h5 => ?_) (fun h5 => ?_) <;> (try simp at h5)
            · (repeat (first | refine XK.norm rfl rfl ?_ | refine XK.rgnA hT rfl rfl rfl ?_ | refine XK.rgnB hT hm rfl rfl rfl ?_))
              (first | refine XK.out rfl rfl rfl ?_ | refine XK.outN rfl rfl rfl ?_)
              rfl
            · obtain ⟨y1, y2, y3⟩ := htw h5
              have hln : n < q.1.used.length := by omega
              have fu : q.1.used.getD (n : Int).toNat default = q.1.used.getD n default := rfl
              have ds := sameS_ok q.1 r.1
              rw [y2] at ds
              (repeat (first | refine XK.norm rfl rfl ?_ | refine XK.rgnA hT rfl rfl rfl ?_ | refine XK.rgnB hT hm rfl rfl rfl ?_)); refine XK.region ?_; refine XL.goA hT rfl rfl rfl rfl ?_
              refine XL.callKA hE rfl rfl rfl rfl trivial rfl rfl (d3) ?_
              refine XL.goA hT rfl rfl rfl rfl ?_; refine XL.fin ?_; (repeat (first | refine XK.norm rfl rfl ?_ | refine XK.rgnA hT rfl rfl rfl ?_ | refine XK.rgnB hT hm rfl rfl rfl ?_))
              (repeat (first | refine XK.norm rfl rfl ?_ | refine XK.rgnA hT rfl rfl rfl ?_ | refine XK.rgnB hT hm rfl rfl rfl ?_)); refine XK.region ?_; refine XL.goA hT rfl rfl rfl rfl ?_
              refine XL.callGA hE rfl rfl rfl rfl rfl rfl rfl rfl (ds) rfl ?_
              refine XL.goA hT rfl rfl rfl rfl ?_; refine XL.fin ?_; (repeat (first | refine XK.norm rfl rfl ?_ | refine XK.rgnA hT rfl rfl rfl ?_ | refine XK.rgnB hT hm rfl rfl rfl ?_))
              (first | refine XK.out rfl rfl rfl ?_ | refine XK.outN rfl rfl rfl ?_)
              rw [fu, y3, y1]
              rfl
end Go.Proofs.Ytbheoblmfjjaaaa
end
section
/- The law SystemTicks. -/
namespace Go.Proofs.Ytbheoblmfjjaaaa
open Go.Eng
set_option maxRecDepth 10000
set_option linter.unusedSimpArgs false
set_option linter.unusedVariables false
theorem any_and {l : List Int} {d : Int} {b : Bool} : l.any (fun x => x == d && b) = (b && l.any (fun x => x == d)) := by
  cases b <;> simp
theorem counts_run {k : K} {i : Nat} {m : Mk} {d : Int} (h : runsM m = true) : countsB k (clAt k i) m d = !(m.paused || (clAt k i).business && offD k d) := by
  unfold countsB offD
  rw [any_and, h]
  cases m.paused <;> simp
theorem lawST (k : K) (hk : kW k) (s : St) : Does Try.prog 9 [kV k, stV s] (.c (.bool true)) := by
  refine Does.mk (fun _ => false) TT_ok Try.func9 rfl (by kernel_rfl) Try.ntmps9 rfl rfl fun E hT hE hN hR => ?_
  have hm : E.P.follows .mixedOrders = true := by rw [hE]; kernel_rfl
  (repeat (first | refine XK.norm rfl rfl ?_ | refine XK.rgnA hT rfl rfl rfl ?_ | refine XK.rgnB hT hm rfl rfl rfl ?_)); refine XK.region ?_; refine XL.goA hT rfl rfl rfl rfl ?_
  refine XL.callLA hE rfl rfl rfl rfl trivial rfl (head15_ok) rfl ?_
  refine XL.goA hT rfl rfl rfl rfl ?_; refine XL.fin ?_; (repeat (first | refine XK.norm rfl rfl ?_ | refine XK.rgnA hT rfl rfl rfl ?_ | refine XK.rgnB hT hm rfl rfl rfl ?_))
  (repeat (first | refine XK.norm rfl rfl ?_ | refine XK.rgnA hT rfl rfl rfl ?_ | refine XK.rgnB hT hm rfl rfl rfl ?_)); refine XK.region ?_; refine XL.goA hT rfl rfl rfl rfl ?_
  refine XL.callLA hE rfl rfl rfl rfl trivial rfl (smallQ_ok k 40) rfl ?_
  refine XL.goA hT rfl rfl rfl rfl ?_
  refine XL.callGA hE rfl rfl rfl rfl rfl rfl rfl rfl (fewS_ok s) rfl ?_
  refine XL.goA hT rfl rfl rfl rfl ?_; refine XL.fin ?_; (repeat (first | refine XK.norm rfl rfl ?_ | refine XK.rgnA hT rfl rfl rfl ?_ | refine XK.rgnB hT hm rfl rfl rfl ?_))
  (repeat (first | refine XK.norm rfl rfl ?_ | refine XK.rgnA hT rfl rfl rfl ?_ | refine XK.rgnB hT hm rfl rfl rfl ?_)); refine XK.cond rfl (fun h0 => ?_) (fun h0 => ?_) <;> (try simp at h0)
  · (repeat (first | refine XK.norm rfl rfl ?_ | refine XK.rgnA hT rfl rfl rfl ?_ | refine XK.rgnB hT hm rfl rfl rfl ?_))
    (first | refine XK.out rfl rfl rfl ?_ | refine XK.outN rfl rfl rfl ?_)
    rfl
  · have d2 := stepS_ok k hk s (-1)
    have hgo := fun h => stepS_go hk (k := k) (s := s) (t := -1) h
    generalize stepS k s (-1) = q at *
    (repeat (first | refine XK.norm rfl rfl ?_ | refine XK.rgnA hT rfl rfl rfl ?_ | refine XK.rgnB hT hm rfl rfl rfl ?_)); refine XK.region ?_; refine XL.goA hT rfl rfl rfl rfl ?_
    refine XL.callKA hE rfl rfl rfl rfl trivial rfl rfl (d2) ?_
    refine XL.goA hT rfl rfl rfl rfl ?_; refine XL.fin ?_; (repeat (first | refine XK.norm rfl rfl ?_ | refine XK.rgnA hT rfl rfl rfl ?_ | refine XK.rgnB hT hm rfl rfl rfl ?_))
    (repeat (first | refine XK.norm rfl rfl ?_ | refine XK.rgnA hT rfl rfl rfl ?_ | refine XK.rgnB hT hm rfl rfl rfl ?_)); refine XK.cond rfl (fun h1 => ?_) (fun h1 => ?_) <;> (try simp at h1)
    · (repeat (first | refine XK.norm rfl rfl ?_ | refine XK.rgnA hT rfl rfl rfl ?_ | refine XK.rgnB hT hm rfl rfl rfl ?_))
      (first | refine XK.out rfl rfl rfl ?_ | refine XK.outN rfl rfl rfl ?_)
      rfl
    · obtain ⟨⟨hv, ht1, ht2⟩, hd, hq, hw⟩ := hgo h1
      have hst : stepW k s.wk (-1) = tickW k s.wk := by unfold stepW; rw [if_pos rfl]
      rw [hst] at hq
      have hl := validS_len hv
      have hF := (show kOk k from ⟨hk, hl.1⟩).facts
      have b1 := hF.nh
      have b2 := hF.na
      have b3 := hF.nc
      have lm : q.1.marks.length = k.clauses.length := by rw [hq]; simp [outS]
      have lh : q.1.holders.length = k.holders.length := by rw [hq]; simp [outS]
      have lu : q.1.used.length = k.acts.length := by rw [hq]; simp [outS]
      have hmk : ∀ i, i < k.clauses.length → runsM (s.wk.mark i) = true → q.1.marks.getD i default = tickM k (offD k s.day) i (s.wk.mark i) := fun i hi hr => by rw [hq, outS_mark hi, tick_mark hi hr]; rfl
      have hho : ∀ i, i < k.holders.length → q.1.holders.getD i default = s.holders.getD i default := fun i hi => by rw [hq, outS_hold hi, (tick_hold k s.wk).1]; rfl
      have huu : ∀ i, i < k.acts.length → q.1.used.getD i default = s.used.getD i default := fun i hi => by rw [hq, outS_used hi, (tick_hold k s.wk).2]; rfl
      have hfit : fitsB k s q.1 = true := by simp [fitsB, lm, lh, lu, hl.2.1, hl.2.2.1, hl.2.2.2.1]
      clear hq hst hgo
      have df := fits_ok k s q.1
      rw [hfit] at df
      obtain ⟨-, l2, l3, l4, -⟩ := hl
      (repeat (first | refine XK.norm rfl rfl ?_ | refine XK.rgnA hT rfl rfl rfl ?_ | refine XK.rgnB hT hm rfl rfl rfl ?_)); refine XK.region ?_; refine XL.goA hT rfl rfl rfl rfl ?_
      refine XL.callLA hE rfl rfl rfl rfl trivial rfl (df) rfl ?_
      refine XL.goA hT rfl rfl rfl rfl ?_; refine XL.fin ?_; (repeat (first | refine XK.norm rfl rfl ?_ | refine XK.rgnA hT rfl rfl rfl ?_ | refine XK.rgnB hT hm rfl rfl rfl ?_))
      (repeat (first | refine XK.norm rfl rfl ?_ | refine XK.rgnA hT rfl rfl rfl ?_ | refine XK.rgnB hT hm rfl rfl rfl ?_)); refine XK.cond rfl (fun h2 => ?_) (fun h2 => ?_)
      · exact absurd h2 (by simp)
      · clear h2
        (repeat (first | refine XK.norm rfl rfl ?_ | refine XK.rgnA hT rfl rfl rfl ?_ | refine XK.rgnB hT hm rfl rfl rfl ?_))
        refine XK.loop (ι := Nat) (fun i => ST.of [(2, .ptr 2 0), (3, .ptr 3 0), (5, .c (.bool true)), (6, .ptr 270 0), (8, .c (.int .i64 i))] [(2, .cells 54 (kC k)), (3, .cells 57 (stC s)), (270, .cells 57 (stC q.1))] 2000 88 (fun _ => false))
          (fun i => i ≤ s.marks.length) (fun i => s.marks.length - i) 0 (Nat.zero_le _)
          (Weak.of hN rfl rfl rfl (by (repeat' (first | exact rfl | exact AvIs.refl _ | exact trivial | exact fun _ _ => rfl | exact fun _ _ => ⟨rfl, AvIs.refl _⟩ | refine ⟨?_, ?_⟩))) (by (repeat' (first | exact rfl | exact AvIs.refl _ | exact trivial | exact fun _ _ => rfl | exact fun _ _ => ⟨rfl, AvIs.refl _⟩ | refine ⟨?_, ?_⟩)))) fun i hi => ?_
        (repeat (first | refine XK.norm rfl rfl ?_ | refine XK.rgnA hT rfl rfl rfl ?_ | refine XK.rgnB hT hm rfl rfl rfl ?_)); refine XK.cond rfl (fun hlt => ?_) (fun hlt => ?_) <;> (try simp at hlt)
        · have hic : i < k.clauses.length := by omega
          have fm : s.marks.getD (i : Int).toNat default = s.wk.mark i := rfl
          have fb : q.1.marks.getD (i : Int).toNat default = q.1.marks.getD i default := rfl
          have fc : k.clauses.getD (i : Int).toNat default = clAt k i := rfl
          have hm2 := hmk i hic
          have hio : i < q.1.marks.length := by omega
          (repeat (first | refine XK.norm rfl rfl ?_ | refine XK.rgnA hT rfl rfl rfl ?_ | refine XK.rgnB hT hm rfl rfl rfl ?_)); refine XK.drawn hm ?_; refine XD.goA hT rfl rfl rfl rfl ?_
          rw [fm]
          refine XD.callLA hE rfl rfl rfl rfl trivial rfl (runsR_ok (s.wk.mark i)) rfl ?_
          refine XD.goA hT rfl rfl rfl rfl ?_
          rw [fm, fb, fc]
          refine XD.callGA hE rfl rfl rfl rfl rfl rfl rfl rfl rfl (counts_ok' k (clAt k i) (s.wk.mark i) s.day) rfl ?_
          refine XD.goA hT rfl rfl rfl rfl ?_; refine XD.fin (by kernel_rfl) ?_; (repeat (first | refine XK.norm rfl rfl ?_ | refine XK.rgnA hT rfl rfl rfl ?_ | refine XK.rgnB hT hm rfl rfl rfl ?_))
          generalize q.1.marks.getD i default = y at *
          (repeat (first | refine XK.norm rfl rfl ?_ | refine XK.rgnA hT rfl rfl rfl ?_ | refine XK.rgnB hT hm rfl rfl rfl ?_)); refine XK.cond rfl (fun h4 => ?_) (fun h4 => ?_)
          · exfalso
            rw [Bool.and_eq_true] at h4
            obtain ⟨g1, g2⟩ := h4
            have g2 : (!((!(eqMk (s.wk.mark i) y)) == countsB k (clAt k i) (s.wk.mark i) s.day)) = true := g2
            have hy := hm2 g1
            have ht := tickM_eq (k := k) (free := offD k s.day) (i := i) g1
            rw [counts_run g1] at g2
            cases hP : ((s.wk.mark i).paused || (clAt k i).business && offD k s.day) with
            | true =>
              have e : y = s.wk.mark i := hy.trans (ht.2 hP)
              have : eqMk (s.wk.mark i) y = true := eqMk_iff.2 e.symm
              rw [hP, this] at g2
              cases g2
            | false =>
              have e : eqMk (s.wk.mark i) y = false := by
                rw [Bool.eq_false_iff]
                intro h
                have h := eqMk_iff.1 h
                have := ht.1 (hy.symm.trans h.symm)
                rw [hP] at this
                cases this
              rw [hP, e] at g2
              cases g2
          · (repeat (first | refine XK.norm rfl rfl ?_ | refine XK.rgnA hT rfl rfl rfl ?_ | refine XK.rgnB hT hm rfl rfl rfl ?_))
            exact XK.inv ⟨i + 1, hlt, (Weak.of hN rfl rfl rfl (by (repeat' (first | exact rfl | exact AvIs.refl _ | exact trivial | exact fun _ _ => rfl | exact fun _ _ => ⟨rfl, AvIs.refl _⟩ | refine ⟨?_, ?_⟩))) (by (repeat' (first | exact rfl | exact AvIs.refl _ | exact trivial | exact fun _ _ => rfl | exact fun _ _ => ⟨rfl, AvIs.refl _⟩ | refine ⟨?_, ?_⟩)))), by omega⟩
        · have hsm : sameS s ⟨s.day, q.1.holders, q.1.used, s.marks⟩ = true := by
            rw [sameS_iff]
            exact ⟨rfl, eqIS_iff.2 ⟨by show _ = q.1.holders.length; omega, fun i hi => (hho i (by omega)).symm⟩, eqBS_iff.2 ⟨by show _ = q.1.used.length; omega, fun i hi => (huu i (by omega)).symm⟩, eqMS_iff.2 ⟨rfl, fun i hi => rfl⟩⟩
          have ds := sameS_ok s ⟨s.day, q.1.holders, q.1.used, s.marks⟩
          rw [hsm] at ds
          (repeat (first | refine XK.norm rfl rfl ?_ | refine XK.rgnA hT rfl rfl rfl ?_ | refine XK.rgnB hT hm rfl rfl rfl ?_))
          (repeat (first | refine XK.norm rfl rfl ?_ | refine XK.rgnA hT rfl rfl rfl ?_ | refine XK.rgnB hT hm rfl rfl rfl ?_)); refine XK.region ?_; refine XL.goA hT rfl rfl rfl rfl ?_
          refine XL.callGA hE rfl rfl rfl rfl rfl rfl rfl rfl (ds) rfl ?_
          refine XL.goA hT rfl rfl rfl rfl ?_; refine XL.fin ?_; (repeat (first | refine XK.norm rfl rfl ?_ | refine XK.rgnA hT rfl rfl rfl ?_ | refine XK.rgnB hT hm rfl rfl rfl ?_))
          (first | refine XK.out rfl rfl rfl ?_ | refine XK.outN rfl rfl rfl ?_)
          rfl
end Go.Proofs.Ytbheoblmfjjaaaa
end
