import Derived.Test.YtlcfoelfcnhenaaGreatDoorZz14
import Derived.Test.YtlcfoelfcnhenaaGreatDoorZz22
import Derived.Test.YtlcfoelfcnhenaaGreatDoorZz21
import Derived.Test.YtlcfoelfcnhenaaGreatDoorZz17
set_option linter.unusedSimpArgs false
set_option linter.unusedVariables false
set_option maxRecDepth 10000
namespace Go.Proofs.YtlcfoelfcnhenaaGreatDoor
section
open Go.Eng
theorem migS_is (k : K) (p : Pt) (s : St) : AvS (.agg [.c (.int .i64 s.day), intsV s.holders, boolsV s.used, .rs 5 (applyR k p).1.clauses.length (fun i => mkC ((migW k p s).mark i))]) (stV (migS k p s)) := by
  refine AvS.agg ⟨AvS.refl _, AvS.refl _, AvS.refl _, ?_, trivial⟩
  have rs {sz n m : Nat} {f g : Nat → List AV} (h : m = n) (h2 : ∀ i, i < n → f i = g i) : AvS (.rs sz n f) (.rs sz m g) := by
    subst h
    exact AvS.rs fun i hi => by rw [h2 i hi]; exact AvSL.refl _
  refine rs (by simp [migS]) fun i hi => ?_
  show _ = mkC (((List.range (applyR k p).1.clauses.length).map (migW k p s).mark).getD i default)
  rw [map_getD _ hi]
theorem nilS_is : AvS nilS (stV zS) := AvS.agg ⟨AvS.refl _, AvS.nil, AvS.nil, AvS.nil, trivial⟩
theorem nilK_is : AvS nilK (kV zeroK) := AvS.agg ⟨AvS.refl _, AvS.nil, AvS.nil, AvS.nil, AvS.nil, AvS.refl _, AvS.nil, trivial⟩
theorem migrated_ok (k : K) (hk : kW k) (p : Pt) (hp : ptW p) (hc : p.clauses.length ≤ 1000000) (hs : p.new.start.length ≤ 1000000) (s : St) (hv : validS k s = true) :
    Does Tryz.prog 66 [kV k, ptV p, stV s] (.tup [kV (migR k p s).1.1, stV (migR k p s).1.2, .c (.int .i64 (migR k p s).2)]) := by
  by_cases h : (applyR k p).2 = 0
  · unfold migR
    rw [if_neg (by simpa using h)]
    exact (migratedGo_ok k hk p hp hc hs s hv h).weaken (AvS.tup ⟨AvS.refl _, migS_is k p s, AvS.refl _, trivial⟩)
  · unfold migR
    rw [if_pos h]
    exact (migratedErr_ok k hk p hp hc hs s h).weaken (AvS.tup ⟨nilK_is, nilS_is, AvS.refl _, trivial⟩)
end
section
open Go.Eng
theorem setRow_sameG {cs : List Cl} {i off : Nat} {c : List AV} (hc : setL (clC (cs.getD i default)) off c = clC (cs.getD i default)) : ∀ j, clC (cs.getD j default) = setRowF (fun i => clC (cs.getD i default)) i off c j := by
  intro j
  unfold setRowF
  by_cases h : j = i
  · subst h; rw [show Nat.beq j j = true by simp]; exact hc.symm
  · rw [beq_false h]; rfl
theorem copiedC_ok (k : K) (h1 : (kValid k).1 = 0) (hk : kW k) : Does Tryz.prog 33 [kV k] (kV k) := by
  have hF := (show kOk k from ⟨hk, h1⟩).facts
  have hnc := hF.nc
  have hnh := hF.nh
  have hna := hF.na
  have hnu := units_len h1
  have hno := off_len hF
  refine Does.mk (fun _ => false) TT_ok Tryz.func33 rfl (by kernel_rfl) Tryz.ntmps33 rfl rfl fun E hT hE hN hR => ?_
  have hm := mixO hE
  (repeat (first | refine XK.n ?_ | refine XK.a ?_ | refine XK.b ?_)); refine XK.region ?_; refine XL.g ?_
  refine XL.callKA hE rfl rfl rfl rfl trivial rfl rfl (cln_ints k.holders (by omega)) ?_
  refine XL.g ?_; refine XL.fin ?_; (repeat (first | refine XK.n ?_ | refine XK.a ?_ | refine XK.b ?_))
  (repeat (first | refine XK.n ?_ | refine XK.a ?_ | refine XK.b ?_)); refine XK.region ?_; refine XL.g ?_
  refine XL.callKA hE rfl rfl rfl rfl trivial rfl rfl (cln_units k.units (by omega)) ?_
  refine XL.g ?_; refine XL.fin ?_; (repeat (first | refine XK.n ?_ | refine XK.a ?_ | refine XK.b ?_))
  (repeat (first | refine XK.n ?_ | refine XK.a ?_ | refine XK.b ?_)); refine XK.region ?_; refine XL.g ?_
  refine XL.callKA hE rfl rfl rfl rfl trivial rfl rfl (cln_acts k.acts (by omega)) ?_
  refine XL.g ?_; refine XL.fin ?_; (repeat (first | refine XK.n ?_ | refine XK.a ?_ | refine XK.b ?_))
  (repeat (first | refine XK.n ?_ | refine XK.a ?_ | refine XK.b ?_)); refine XK.region ?_; refine XL.g ?_
  refine XL.callKA hE rfl rfl rfl rfl trivial rfl rfl (cln_ints k.off (by omega)) ?_
  refine XL.g ?_; refine XL.fin ?_; (repeat (first | refine XK.n ?_ | refine XK.a ?_ | refine XK.b ?_))
  by_cases h0 : k.clauses.length = 0
  · (repeat (first | refine XK.n ?_ | refine XK.a ?_ | refine XK.b ?_)); refine XK.region ?_; refine XL.g ?_
    refine XL.callKA hE rfl rfl rfl rfl trivial rfl rfl (cln_cls k.clauses (by omega)) ?_
    refine XL.g ?_; refine XL.fin ?_; (repeat (first | refine XK.n ?_ | refine XK.a ?_ | refine XK.b ?_))
    refine XK.loop (ι := Nat) (fun i => ST.of [(1, .ptr 1 0), (2, .ptr 2 0), (27, .c (.int .i64 k.clauses.length)), (28, .c (.int .i64 0))] [(1, .cells 27 (kC k)), (2, .cells 27 [.c (.int .i64 0), .c (.slice none 0 0), .c (.slice none 0 0), .c (.slice none 0 0), .c (.slice none 0 0), .c (.int .i64 0), .c (.slice none 0 0)])] 1000 43 (fun _ => false))
      (fun i => i = 0) (fun i => 0) 0 rfl (Weak.of hN rfl rfl rfl frI frI) fun i hi => ?_
    (repeat (first | refine XK.n ?_ | refine XK.a ?_ | refine XK.b ?_)); refine XK.cond rfl (fun hlt => ?_) (fun hlt => ?_) <;> (try simp at hlt)
    · omega
    · (repeat (first | refine XK.n ?_ | refine XK.a ?_ | refine XK.b ?_))
      (first | refine XK.o ?_ | refine XK.p ?_)
      rfl
  · (repeat (first | refine XK.n ?_ | refine XK.a ?_ | refine XK.b ?_)); refine XK.region ?_; refine XL.g ?_
    refine XL.callMA [700] hE rfl rfl rfl rfl trivial (clnM_cls k.clauses (by omega) (by omega)) rfl rfl rfl rfl rfl ?_
    refine XL.g ?_; refine XL.fin ?_; (repeat (first | refine XK.n ?_ | refine XK.a ?_ | refine XK.b ?_))
    refine XK.loop (ι := Nat) (fun i => ST.of [(1, .ptr 1 0), (2, .ptr 2 0), (26, .vec 700 0), (27, .c (.int .i64 k.clauses.length)), (28, .c (.int .i64 i))]
      [(1, .cells 27 [.c (.int .i64 k.parties), intsV k.holders, unitsV k.units, actsV k.acts, .vec 700 0, .c (.int .i64 k.days), intsV k.off]), (2, .cells 27 [.c (.int .i64 0), .c (.slice none 0 0), .c (.slice none 0 0), .c (.slice none 0 0), .c (.slice none 0 0), .c (.int .i64 0), .c (.slice none 0 0)]), (700, clsO 0 k.clauses)] 1000 43 (fun _ => false))
      (fun i => i ≤ k.clauses.length) (fun i => k.clauses.length - i) 0 (Nat.zero_le _) (Weak.of hN rfl rfl rfl frI frI) fun i hi => ?_
    unfold clsO
    (repeat (first | refine XK.n ?_ | refine XK.a ?_ | refine XK.b ?_)); refine XK.cond rfl (fun hlt => ?_) (fun hlt => ?_) <;> (try simp at hlt)
    · have fx : k.clauses.getD (i : Int).toNat default = k.clauses.getD i default := rfl
      have hst : (k.clauses.getD i default).start.length ≤ 8 := (hF.clB hlt).2.2.2.1
      have cc := cln_cnds (k.clauses.getD i default).start (by omega)
      (repeat (first | refine XK.n ?_ | refine XK.a ?_ | refine XK.b ?_))
      (repeat (first | refine XK.n ?_ | refine XK.a ?_ | refine XK.b ?_)); refine XK.drawn hm ?_; refine XD.goA hT rfl rfl rfl rfl ?_
      rw [fx]
      refine XD.callKA hE rfl rfl rfl rfl trivial rfl rfl (cc) ?_
      refine XD.goA hT rfl rfl rfl rfl ?_; refine XD.fin (by kernel_rfl) ?_; (repeat (first | refine XK.n ?_ | refine XK.a ?_ | refine XK.b ?_))
      refine XK.inv ⟨i + 1, hlt, Weak.of hN rfl rfl rfl frV ⟨frI, frI, ⟨rfl, rfl, rfl⟩, rfl, fun j hj => setRow_sameG rfl j⟩, by omega⟩
    · (repeat (first | refine XK.n ?_ | refine XK.a ?_ | refine XK.b ?_))
      refine XK.weak (Weak.frozen (k := 700) hN rfl rfl) ?_
      (repeat (first | refine XK.n ?_ | refine XK.a ?_ | refine XK.b ?_))
      (first | refine XK.o ?_ | refine XK.p ?_)
      rfl
end
section
open Go.Eng
theorem mark_st {k : K} {i : Nat} {m : Mk} (h : markB k i m = true) : m.status = 0 ∨ m.status = 1 ∨ m.status = 2 ∨ m.status = 3 ∨ m.status = 4 ∨ m.status = 5 := by
  unfold markB at h
  repeat (split at h; · omega)
  cases h
theorem mark_end {k : K} {i : Nat} {m : Mk} (hs : m.status = 3 ∨ m.status = 4 ∨ m.status = 5) : markB k i m = endB k m := by
  unfold markB
  rw [if_neg (by omega), if_neg (by omega), if_neg (by omega), if_pos hs]
theorem endB_par {k k' : K} (hp : k'.parties = k.parties) (m : Mk) : endB k' m = endB k m := by unfold endB; rw [hp]
theorem idle_eq {m : Mk} (h : idleB m = true) : m = idleMk := by
  obtain ⟨a, b, c, d, e⟩ := m
  simp only [idleB, Bool.and_eq_true, beq_iff_eq, Bool.not_eq_true'] at h
  obtain ⟨⟨⟨⟨rfl, rfl⟩, rfl⟩, rfl⟩, rfl⟩ := h
  rfl
theorem mark_idle {k : K} {i : Nat} {m : Mk} (h : markB k i m = true) (hs : m.status = 0) : m = idleMk ∧ (clAt k i).waived = false := by
  unfold markB at h
  rw [if_pos hs] at h
  simp only [Bool.and_eq_true, Bool.not_eq_true'] at h
  exact ⟨idle_eq h.2, h.1⟩
theorem end_idle {k : K} (hp : 0 ≤ k.parties) (hp2 : 1 ≤ k.parties) (i : Nat) (s : Int) (hs : s = 3 ∨ s = 4 ∨ s = 5) : markB k i (endM idleMk s) = true :=
  endF ⟨by decide, by decide⟩ ⟨by decide, by show (-1 : Int) < k.parties; omega⟩ hs
theorem void_keep {k k' : K} (hk : KFacts k) (hp : k'.parties = k.parties) {i : Nat} (hi : i < k.clauses.length) {m : Mk} (h : markB k i m = true) : markB k' i (voidM m) = true := by
  have hpar := hk.parties
  unfold voidM
  by_cases hc : (m.status == 0 || runsM m) = true
  · rw [if_pos hc]
    rcases mark_st h with h0 | h1 | h1 | h3
    · rw [(mark_idle h h0).1]
      exact end_idle (by omega) (by omega) i 5 (by omega)
    · have hr := (markB_run (k := k) (i := i) (m := m) (runsM_iff.2 (by omega))).1 h
      have hb := run_bd hk hi hr
      exact endF hb.1 (by rw [hp]; exact hb.2.1) (by omega)
    · have hr := (markB_run (k := k) (i := i) (m := m) (runsM_iff.2 (by omega))).1 h
      have hb := run_bd hk hi hr
      exact endF hb.1 (by rw [hp]; exact hb.2.1) (by omega)
    · simp only [Bool.or_eq_true, beq_iff_eq, runsM_iff] at hc
      omega
  · rw [if_neg hc]
    simp only [Bool.or_eq_true, beq_iff_eq, runsM_iff] at hc
    have hs : m.status = 3 ∨ m.status = 4 ∨ m.status = 5 := by have := mark_st h; omega
    rw [mark_end hs] at h ⊢
    rw [endB_par hp]; exact h
end
section
open Go.Eng
theorem mark_kept {k k' : K} (hp : k'.parties = k.parties) {i : Nat} {m : Mk} (h : markB k i m = true) (hr : runsM m = false) (hw : m.status = 0 → (clAt k' i).waived = false) : markB k' i m = true := by
  rcases mark_st h with h0 | h1 | h1 | h3
  · obtain ⟨e, _⟩ := mark_idle h h0
    subst e
    unfold markB
    rw [if_pos h0, hw h0]
    rfl
  · have : runsM m = true := runsM_iff.2 (by omega)
    rw [this] at hr; cases hr
  · have : runsM m = true := runsM_iff.2 (by omega)
    rw [this] at hr; cases hr
  · rw [mark_end h3] at h ⊢
    rw [endB_par hp]; exact h
theorem span_keep {k k' : K} (hp : k'.parties = k.parties) {i : Nat} {d : Int} (hd : 1 ≤ d) (hc : clAt k' i = { clAt k i with after := d }) {m : Mk} (h : markB k i m = true) : markB k' i (spanM d (clAt k i) m) = true := by
  by_cases hr : runsM m = true
  · have hR := (markB_run hr).1 h
    obtain ⟨r1, r2, r3, r4, r5, r6⟩ := hR
    have hR' : RunF k' (clAt k' i) (spanM d (clAt k i) m) := by
      rw [hc]
      unfold spanM
      split
      · refine ⟨r1, ?_, r3, r4, by rw [hp]; exact r5, .inl ⟨by assumption, ?_⟩⟩
        · show 1 ≤ max 1 _; omega
        · show max 1 (m.left + d - (clAt k i).after) ≤ d; omega
      · refine ⟨r1, r2, r3, r4, by rw [hp]; exact r5, ?_⟩
        rcases r6 with r6 | r6
        · exact absurd r6.1 (by assumption)
        · exact .inr r6
    exact (markB_run hR'.runs).2 hR'
  · have hr : runsM m = false := by simpa using hr
    have he : spanM d (clAt k i) m = m := by
      unfold spanM
      rw [if_neg fun e => by rw [runsM_iff.2 (.inl e)] at hr; cases hr]
    rw [he]
    exact mark_kept hp h hr fun h0 => by rw [hc]; exact (mark_idle h h0).2
theorem repl_keep {k k' : K} (hk : KFacts k) (hk' : KFacts k') (hp : k'.parties = k.parties) {i : Nat} (hi : i < k.clauses.length) (hi' : i < k'.clauses.length) {new : Cl} (hc : clAt k' i = new) {hold : List Int} (hh : hold.length = k'.holders.length)
    (hd : ∀ j, j < hold.length → 0 ≤ hold.getD j default ∧ hold.getD j default < k.parties) {m : Mk} (h : markB k i m = true) : markB k' i (replM new (clAt k i) m hold) = true := by
  have hcb := hk'.clB hi'
  have hkw := kindW hcb.2.2.1
  have haf := hcb.2.1
  rw [hc] at hkw haf
  clear hcb
  unfold replM
  split
  · exact void_keep hk hp hi h
  · rename_i hw
    have hw : new.waived = false := by simpa using hw
    split
    · rename_i hr
      exact mark_kept hp h hr fun _ => by rw [hc]; exact hw
    · rename_i hr
      have hr : runsM m = true := by simpa using hr
      have hR := (markB_run hr).1 h
      have hbd := run_bd hk hi hR
      obtain ⟨r1, r2, r3, r4, r5, r6⟩ := hR
      split
      · rename_i hkk
        unfold contM
        split
        · exact endF (m := contP new m) hbd.1 (by rw [hp]; exact hbd.2.1) (by omega)
        · rename_i hne
          have hg : m.got = 0 ∨ (new.kind = 1 ∧ 0 ≤ m.got ∧ m.got < new.need) := by
            rcases r4 with r4 | r4
            · exact .inl r4
            · exact .inr ⟨by omega, r4.2.1, by omega⟩
          have hpa : (m.paused && (new.pause != -1)) = true → new.pause ≠ -1 := fun e => by
            simp only [Bool.and_eq_true, bne_iff_ne, ne_eq] at e; exact e.2
          have hbe : new.kind = 4 ∧ m.bearer = -1 ∨ new.kind ≠ 4 ∧ 0 ≤ m.bearer ∧ m.bearer < k'.parties := by rw [hp, hkk]; exact r5
          split
          · rename_i h1
            have hR' : RunF k' (clAt k' i) ⟨m.status, max 1 (m.left + new.after - (clAt k i).after), m.got, m.bearer, m.paused && (new.pause != -1)⟩ := by
              rw [hc]
              exact ⟨hw, by show 1 ≤ max 1 _; omega, hpa, hg, hbe, .inl ⟨h1, by show max 1 (m.left + new.after - (clAt k i).after) ≤ new.after; omega⟩⟩
            exact (markB_run hR'.runs).2 hR'
          · split
            · have hR' : RunF k' (clAt k' i) ⟨1, 1, m.got, m.bearer, m.paused && (new.pause != -1)⟩ := by
                rw [hc]
                exact ⟨hw, Int.le_refl _, hpa, hg, hbe, .inl ⟨rfl, haf.1⟩⟩
              exact (markB_run hR'.runs).2 hR'
            · rename_i h1 h2
              have hR' : RunF k' (clAt k' i) ⟨m.status, max 1 (m.left + new.grace - (clAt k i).grace), m.got, m.bearer, m.paused && (new.pause != -1)⟩ := by
                rw [hc]
                refine ⟨hw, by show 1 ≤ max 1 _; omega, hpa, hg, hbe, .inr ?_⟩
                rcases r6 with r6 | r6
                · exact absurd r6.1 h1
                · refine ⟨r6.1, by omega, ?_⟩
                  show max 1 (m.left + new.grace - (clAt k i).grace) ≤ new.grace
                  rcases hkw with hkw | ⟨_, _, hkw | hkw | hkw⟩ <;> omega
              exact (markB_run hR'.runs).2 hR'
      · rename_i hkk
        have hR' : RunF k' (clAt k' i) (restM (clAt k i) new m hold) := by
          rw [hc]
          refine ⟨hw, haf.1, fun e => (nomatch e), .inl rfl, ?_, .inl ⟨rfl, Int.le_refl _⟩⟩
          show new.kind = 4 ∧ (if new.kind = 4 then _ else _) = _ ∨ new.kind ≠ 4 ∧ 0 ≤ (if new.kind = 4 then _ else _) ∧ (if new.kind = 4 then _ else _) < _
          by_cases h4 : new.kind = 4
          · exact .inl ⟨h4, if_pos h4⟩
          · refine .inr ⟨h4, ?_⟩
            rw [if_neg h4]
            rcases hkw with hkw | hkw
            · exact absurd hkw.1 h4
            · split
              · rw [hp]; exact hd _ (by omega)
              · rename_i h5
                rcases r5 with r5 | r5
                · exact absurd r5.1 h5
                · rw [hp]; exact r5.2
        exact (markB_run hR'.runs).2 hR'
end
section
open Go.Eng
theorem foldSet_getD (f : Cl → Cl) (hf : ∀ x, f (f x) = f x) : ∀ (l : List Int) (cs : List Cl) (j : Nat), j < cs.length →
    ((∃ q, q < l.length ∧ (l.getD q default).toNat = j) → (l.foldl (fun cs i => cs.set i.toNat (f (cs.getD i.toNat default))) cs).getD j default = f (cs.getD j default)) ∧
    ((∀ q, q < l.length → (l.getD q default).toNat ≠ j) → (l.foldl (fun cs i => cs.set i.toNat (f (cs.getD i.toNat default))) cs).getD j default = cs.getD j default)
  | [], cs, j, hj => ⟨fun ⟨q, hq, _⟩ => absurd hq (Nat.not_lt_zero _), fun _ => rfl⟩
  | a :: l, cs, j, hj => by
    have hj' : j < (cs.set a.toNat (f (cs.getD a.toNat default))).length := by rw [List.length_set]; exact hj
    obtain ⟨h1, h2⟩ := foldSet_getD f hf l (cs.set a.toNat (f (cs.getD a.toNat default))) j hj'
    have hs : (cs.set a.toNat (f (cs.getD a.toNat default))).getD j default = if a.toNat = j then f (cs.getD j default) else cs.getD j default := by
      by_cases e : a.toNat = j
      · subst e; rw [if_pos rfl]; simp [List.getD, hj]
      · rw [if_neg e]; simp [List.getD, List.getElem?_set_ne e]
    rw [hs] at h1 h2
    refine ⟨fun ⟨q, hq, e⟩ => ?_, fun h => ?_⟩
    · rw [List.foldl_cons]
      by_cases hex : ∃ q, q < l.length ∧ (l.getD q default).toNat = j
      · rw [h1 hex]
        split
        · rw [hf]
        · rfl
      · have hne : ∀ q, q < l.length → (l.getD q default).toNat ≠ j := fun q hq e => hex ⟨q, hq, e⟩
        cases q with
        | zero =>
          have e : a.toNat = j := e
          rw [h2 hne, if_pos e]
        | succ q => exact absurd ⟨q, by simpa using hq, e⟩ hex
    · rw [List.foldl_cons]
      have ha : a.toNat ≠ j := h 0 (by simp)
      rw [h2 fun q hq => h (q + 1) (by simpa using hq), if_neg ha]
theorem waiveL_getD (cs : List Cl) (l : List Int) (j : Nat) (hj : j < cs.length) :
    ((∃ q, q < l.length ∧ (l.getD q default).toNat = j) → (waiveL cs l).getD j default = { cs.getD j default with waived := true }) ∧ ((∀ q, q < l.length → (l.getD q default).toNat ≠ j) → (waiveL cs l).getD j default = cs.getD j default) :=
  foldSet_getD (fun x => { x with waived := true }) (fun _ => rfl) l cs j hj
theorem spanL_getD (d : Int) (cs : List Cl) (l : List Int) (j : Nat) (hj : j < cs.length) :
    ((∃ q, q < l.length ∧ (l.getD q default).toNat = j) → (spanL d cs l).getD j default = { cs.getD j default with after := d }) ∧ ((∀ q, q < l.length → (l.getD q default).toNat ≠ j) → (spanL d cs l).getD j default = cs.getD j default) :=
  foldSet_getD (fun x => { x with after := d }) (fun _ => rfl) l cs j hj
theorem PFacts.stay {k : K} {p : Pt} (h : PFacts k p) {i : Nat} (hi : i < k.clauses.length) (hn : ∀ q, q < (listP k p).length → ((listP k p).getD q default).toNat ≠ i) : clAt (applyR k p).1 i = clAt k i := by
  unfold clAt
  rw [h.eq]
  show (doP k.clauses p).getD i default = _
  unfold doP
  unfold listP at hn
  split
  · simp [List.getD, List.getElem?_append_left hi]
  · rename_i h1
    rw [if_neg h1] at hn
    split
    · rename_i h2
      obtain ⟨x, hx, _⟩ := h.one h2
      rw [hx] at hn ⊢
      have : x.toNat ≠ i := hn 0 (by simp)
      show (k.clauses.set x.toNat p.new).getD i default = _
      simp [List.getD, List.getElem?_set_ne this]
    · split
      · exact (spanL_getD p.days k.clauses p.clauses i hi).2 hn
      · exact (waiveL_getD k.clauses p.clauses i hi).2 hn
theorem markB_same {k k' : K} (hp : k'.parties = k.parties) {i : Nat} (hc : clAt k' i = clAt k i) (m : Mk) : markB k' i m = markB k i m := by
  unfold markB runB endB
  rw [hp, hc]
theorem mig_mark {k : K} {p : Pt} (h : PFacts k p) {s : St} (hv : validS k s = true) {i : Nat} (hi : i < (applyR k p).1.clauses.length) : markB (applyR k p).1 i (migM k p s i) = true := by
  obtain ⟨l0, l1, l2, l3, l4, l5, l6, l7⟩ := validS_len hv
  have hpar : (applyR k p).1.parties = k.parties := by rw [h.eq]
  have hhold : s.holders.length = (applyR k p).1.holders.length := by rw [h.eq]; exact l1
  have hlen := h.len
  have hpp := h.kk.parties
  by_cases hex : ∃ q, q < (listP k p).length ∧ ((listP k p).getD q default).toNat = i
  · obtain ⟨q, hq, e⟩ := hex
    have hm : migM k p s i = chgM k p s.holders i (padM s.marks i) := by
      unfold migM
      have := h.lok.in (k := k) (p := p) (hold := s.holders) (m0 := padM s.marks) hq
      rwa [e] at this
    rw [hm]
    by_cases k1 : p.kind = 1
    · have hin : i = k.clauses.length := by
        unfold listP at hq e
        rw [if_pos k1] at hq e
        have : q = 0 := by simpa using hq
        subst this
        exact e.symm
      have hpad : padM s.marks i = idleMk := by unfold padM; rw [if_neg (by omega)]
      have hcl := (h.add k1).2
      rw [← hin] at hcl
      unfold chgM
      rw [if_neg (by omega), if_neg (by omega), if_pos k1, hpad]
      unfold addM
      split
      · show markB _ i (voidM idleMk) = true
        exact end_idle (by omega) (by omega) i 5 (by omega)
      · rename_i hw
        unfold markB
        rw [if_pos (show idleMk.status = 0 from rfl), hcl]
        have hw : p.new.waived = false := by simpa using hw
        rw [hw]; rfl
    · have hik : i < k.clauses.length := by rw [hlen, if_neg k1] at hi; exact hi
      have hpad : padM s.marks i = s.marks.getD i default := by unfold padM; rw [if_pos (by omega)]
      have hmk := l7 i (by omega)
      simp only [Bool.and_eq_true] at hmk
      have hmk := hmk.1
      rw [hpad]
      have hLp : listP k p = p.clauses := if_neg k1
      rw [hLp] at hq e
      unfold chgM
      split
      · rename_i k5
        have hd := h.days k5
        refine span_keep hpar hd.1 ?_ hmk
        unfold clAt
        rw [h.eq]
        show (doP k.clauses p).getD i default = _
        unfold doP
        rw [if_neg k1, if_neg (by omega), if_pos k5]
        exact (spanL_getD p.days k.clauses p.clauses i hik).1 ⟨q, hq, e⟩
      · split
        · rename_i k2
          obtain ⟨x, hx, hx1, hx2, hx3⟩ := h.one k2
          have hxi : x.toNat = i := by
            rw [hx] at hq e
            have : q = 0 := by simpa using hq
            subst this
            exact e
          rw [hxi] at hx3
          exact repl_keep h.kk h.kn hpar hik hi hx3 hhold l5 hmk
        · exact void_keep h.kk hpar hik hmk
  · have hne : ∀ q, q < (listP k p).length → ((listP k p).getD q default).toNat ≠ i := fun q hq e => hex ⟨q, hq, e⟩
    have hm : migM k p s i = padM s.marks i := mkTo_keep hne
    have hik : i < k.clauses.length := by
      rw [hlen] at hi
      split at hi
      · rename_i k1
        have h0 := hne 0 (by unfold listP; rw [if_pos k1]; simp)
        unfold listP at h0
        rw [if_pos k1] at h0
        have h0 : k.clauses.length ≠ i := h0
        omega
      · exact hi
    have hpad : padM s.marks i = s.marks.getD i default := by unfold padM; rw [if_pos (by omega)]
    have hmk := l7 i (by omega)
    simp only [Bool.and_eq_true] at hmk
    rw [hm, hpad, markB_same hpar (h.stay hik hne)]
    exact hmk.1
theorem mig_WOk {k : K} {p : Pt} (h : PFacts k p) {s : St} (hv : validS k s = true) : WOk (applyR k p).1 (migW k p s) := by
  obtain ⟨l0, l1, l2, l3, l4, l5, l6, l7⟩ := validS_len hv
  unfold migW
  refine startW_keep h.kn ⟨?_, fun i hi => ?_, fun i hi hu => ?_, fun i hi => mig_mark h hv hi⟩
  · rw [h.eq]; exact l4
  · rw [h.eq] at hi ⊢
    have hi : i < k.holders.length := hi
    exact l5 i (by omega)
  · rw [h.eq] at hi ⊢
    have hi : i < k.acts.length := hi
    exact (validS_W hv).used i hi hu
end
section
open Go.Eng
section
variable {k : K} {w : Wk} {i : Nat}
theorem outS_mark (hi : i < k.clauses.length) : (outS k w).marks.getD i default = w.mark i := map_getD _ hi
theorem outS_hold (hi : i < k.holders.length) : (outS k w).holders.getD i default = w.hold i := map_getD _ hi
theorem outS_used (hi : i < k.acts.length) : (outS k w).used.getD i default = w.used i := map_getD _ hi
end
theorem rdyB_congr {k : K} (hk : KFacts k) {mk mk' : Nat → Mk} (h : ∀ j, j < k.clauses.length → mk j = mk' j) {i : Nat} (hi : i < k.clauses.length) : rdyB k mk i = rdyB k mk' i := by
  unfold rdyB
  rw [h i hi]
  have : (clAt k i).start.all (condHB mk) = (clAt k i).start.all (condHB mk') := by
    rw [Bool.eq_iff_iff, List.all_eq_true, List.all_eq_true]
    have key : ∀ c ∈ (clAt k i).start, condHB mk c = condHB mk' c := fun c hc => by
      have := hk.cond hi hc
      unfold condHB
      rw [h c.clause.toNat (by omega)]
    constructor <;> intro h c hc
    · rw [← key c hc]; exact h c hc
    · rw [key c hc]; exact h c hc
  rw [this]
theorem validS_of {k : K} (hk : kW k) (h0 : (kValid k).1 = 0) {w : Wk} (hw : WOk k w) : validS k (outS k w) = true := by
  have hF := (show kOk k from ⟨hk, h0⟩).facts
  unfold validS
  rw [if_neg (by simpa using h0), if_neg (by rw [show decide ((outS k w).day < 0) = false from decide_eq_false (by show ¬ w.day < 0; have := hw.day; omega), show decide (k.days < (outS k w).day) = false from decide_eq_false (by show ¬ k.days < w.day; have := hw.day; omega)]; simp [outS]), if_neg, if_neg]
  · refine rall.2 fun i hi => ?_
    have hi : i < k.clauses.length := by simpa [outS] using hi
    rw [outS_mark hi, hw.mark i hi, rdyB_congr hF (mk := (outS k w).wk.mark) (mk' := w.mark) (fun j hj => outS_mark hj) hi, hw.rdy i hi]
    rfl
  · rw [Bool.not_eq_false]
    refine rall.2 fun i hi => ?_
    have hi : i < k.acts.length := by simpa [outS] using hi
    rw [outS_used hi]
    cases hu : w.used i with
    | false => rfl
    | true => have := hw.used i hi hu; simpa using this
  · rw [Bool.not_eq_false]
    refine all_at.2 fun i hi => ?_
    have hi : i < k.holders.length := by simpa [outS] using hi
    rw [outS_hold hi]
    have := hw.hold i hi
    simp; omega
theorem held_at {k : K} (hk : KFacts k) : ∀ i, i < k.holders.length → 0 ≤ k.holders.getD i default ∧ k.holders.getD i default < k.parties := fun i hi => by
  have := all_at.1 hk.held i hi
  simp only [Bool.and_eq_true, decide_eq_true_eq] at this
  exact this
theorem startS_zero {k : K} (hk : kW k) (h : (startS k).2 = 0) : (kValid k).1 = 0 ∧ validS k (startS k).1 = true ∧ (startS k).1.day = 0 := by
  unfold startS at h ⊢
  split at h
  · cases h
  · rename_i h1
    have h1 : (kValid k).1 = 0 := by simpa using h1
    have hF := (show kOk k from ⟨hk, h1⟩).facts
    rw [if_neg (by simpa using h1)]
    exact ⟨h1, validS_of hk h1 (initW_keep hF (held_at hF)), (startW_spec k (initW k)).1.day⟩
theorem stepS_cases {k : K} (hk : kW k) (s : St) (t : Int) : ((validS k s = false ∨ t < -1 ∨ (k.acts.length : Int) ≤ t) ∧ stepS k s t = (zS, 1)) ∨
    ((validS k s = true ∧ -1 ≤ t ∧ t < k.acts.length) ∧ s.day = k.days ∧ stepS k s t = (zS, 13)) ∨
    ((validS k s = true ∧ -1 ≤ t ∧ t < k.acts.length) ∧ s.day ≠ k.days ∧ stepS k s t = (outS k (stepW k s.wk t), 0) ∧ WOk k (stepW k s.wk t)) := by
  unfold stepS
  split
  · rename_i h
    simp only [Bool.or_eq_true, Bool.not_eq_true', decide_eq_true_eq] at h
    exact .inl ⟨by rcases h with (h | h) | h <;> simp [h], rfl⟩
  · rename_i h
    simp only [Bool.or_eq_true, Bool.not_eq_true', decide_eq_true_eq, not_or, Bool.not_eq_false] at h
    obtain ⟨⟨h1, h2⟩, h3⟩ := h
    split
    · rename_i h4
      exact .inr (.inl ⟨⟨h1, by omega, by omega⟩, h4, rfl⟩)
    · rename_i h4
      have hl := validS_len h1
      have hF := (show kOk k from ⟨hk, hl.1⟩).facts
      exact .inr (.inr ⟨⟨h1, by omega, by omega⟩, h4, rfl, stepW_keep hF (validS_W h1) ⟨by omega, by omega⟩ (by show s.day < k.days; omega)⟩)
end
section
open Go.Eng
theorem range_getD {α : Type} [Inhabited α] (l : List α) (f : Nat → α) (n : Nat) (hn : l.length = n) (hf : ∀ i, f i = l.getD i default) : (List.range n).map f = l := by
  apply List.ext_getElem?
  intro i
  rw [List.getElem?_map]
  by_cases h : i < n
  · rw [List.getElem?_range h, Option.map_some, hf, List.getD_eq_getElem?_getD, List.getElem?_eq_getElem (by omega)]
    rfl
  · rw [List.getElem?_eq_none (by simp; omega), List.getElem?_eq_none (by omega)]; rfl
theorem migW_rel {k : K} {p : Pt} {s : St} : SRel (applyR k p).1 ⟨s.day, fun i => s.holders.getD i default, fun i => s.used.getD i default, migM k p s⟩ (migW k p s) := (startW_spec _ _).1
theorem migS_eq {k : K} {p : Pt} (h : PFacts k p) {s : St} (hv : validS k s = true) : migS k p s = outS (applyR k p).1 (migW k p s) := by
  obtain ⟨l0, l1, l2, l3, -⟩ := validS_len hv
  have hr := migW_rel (k := k) (p := p) (s := s)
  have h1 : (List.range (applyR k p).1.holders.length).map (migW k p s).hold = s.holders := range_getD _ _ _ (by rw [h.eq]; exact l1) fun i => by rw [hr.hold]
  have h2 : (List.range (applyR k p).1.acts.length).map (migW k p s).used = s.used := range_getD _ _ _ (by rw [h.eq]; exact l2) fun i => by rw [hr.used]
  unfold migS outS
  rw [h1, h2, hr.day]
theorem migS_valid {k : K} {p : Pt} (hk : kW k) (hp : ptW p) (h0 : (applyR k p).2 = 0) {s : St} (hv : validS k s = true) : validS (applyR k p).1 (migS k p s) = true := by
  have h := patch_facts hk hp h0
  rw [migS_eq h hv]
  have hkk : kW (applyR k p).1 ∧ (kValid (applyR k p).1).1 = 0 := by
    refine ⟨applyR_W hk hp, ?_⟩
    rcases applyR_cases k p with ⟨h2, _⟩ | ⟨_, _, _, h2, _⟩
    · exact absurd h0 h2
    · exact h2
  exact validS_of hkk.1 hkk.2 (mig_WOk h hv)
end
section
open Go.Eng
def amGd (l : List Am) : Prop := ∀ a ∈ l, amW a ∧ a.patch.clauses.length ≤ 1000000 ∧ a.patch.new.start.length ≤ 1000000
theorem amGd.at {l : List Am} (h : amGd l) {i : Nat} (hi : i < l.length) : amW (l.getD i default) ∧ (l.getD i default).patch.clauses.length ≤ 1000000 ∧ (l.getD i default).patch.new.start.length ≤ 1000000 := h _ (getD_memW hi)
noncomputable def preTo (k : K) (l : List Am) : Nat → K
  | 0 => k
  | i + 1 => if 0 < (l.getD i default).day then preTo k l i else if (applyR (preTo k l i) (l.getD i default).patch).2 = 0 then (applyR (preTo k l i) (l.getD i default).patch).1 else preTo k l i
noncomputable def todTo (l : List Am) (c : K × St) : Nat → K × St
  | 0 => c
  | i + 1 => if (l.getD i default).day ≠ (todTo l c i).2.day then todTo l c i else if (migR (todTo l c i).1 (l.getD i default).patch (todTo l c i).2).2 = 0 then (migR (todTo l c i).1 (l.getD i default).patch (todTo l c i).2).1 else todTo l c i
noncomputable def nextS (l : List Am) (c : K × St) (t : Int) : (K × St) × Int :=
  if (stepS c.1 c.2 t).2 = 0 ∧ t = -1 then (todTo l (c.1, (stepS c.1 c.2 t).1) l.length, 0) else ((c.1, (stepS c.1 c.2 t).1), (stepS c.1 c.2 t).2)
noncomputable def stgTo (k : K) (l : List Am) (tr : List Int) : Nat → (K × St) × Int
  | 0 => ((preTo k l l.length, (startS (preTo k l l.length)).1), (startS (preTo k l l.length)).2)
  | i + 1 => if (stgTo k l tr i).2 ≠ 0 then stgTo k l tr i else nextS l (stgTo k l tr i).1 (tr.getD i default)
def kGd (k : K) : Prop := kW k ∧ (kValid k).1 = 0
def cGd (c : K × St) : Prop := kW c.1 ∧ validS c.1 c.2 = true
theorem cGd.kv {c : K × St} (h : cGd c) : kGd c.1 := ⟨h.1, (validS_len h.2).1⟩
theorem apply_gd {k : K} (h : kGd k) {p : Pt} (hp : ptW p) (h0 : (applyR k p).2 = 0) : kGd (applyR k p).1 := by
  refine ⟨applyR_W h.1 hp, ?_⟩
  rcases applyR_cases k p with ⟨h2, _⟩ | ⟨_, _, _, h2, _⟩
  · exact absurd h0 h2
  · exact h2
theorem preTo_gd {k : K} (h : kGd k) {l : List Am} (hl : amGd l) : ∀ {i : Nat}, i ≤ l.length → kGd (preTo k l i)
  | 0, _ => h
  | i + 1, hi => by
    have ih := preTo_gd h hl (show i ≤ l.length by omega)
    rw [preTo]
    split
    · exact ih
    · split
      · rename_i h0
        exact apply_gd ih (hl.at (show i < l.length by omega)).1.2.2.2 h0
      · exact ih
theorem mig_gd {c : K × St} (h : cGd c) {p : Pt} (hp : ptW p) (h0 : (migR c.1 p c.2).2 = 0) : cGd (migR c.1 p c.2).1 := by
  unfold migR at h0 ⊢
  split at h0
  · exact absurd h0 (by assumption)
  · rename_i h1
    have h1 : (applyR c.1 p).2 = 0 := by simpa using h1
    rw [if_neg (by simpa using h1)]
    exact ⟨applyR_W h.1 hp, migS_valid h.1 hp h1 h.2⟩
theorem todTo_gd {l : List Am} (hl : amGd l) {c : K × St} (h : cGd c) : ∀ {i : Nat}, i ≤ l.length → cGd (todTo l c i)
  | 0, _ => h
  | i + 1, hi => by
    have ih := todTo_gd hl h (show i ≤ l.length by omega)
    rw [todTo]
    split
    · exact ih
    · split
      · rename_i h0
        exact mig_gd ih (hl.at (show i < l.length by omega)).1.2.2.2 h0
      · exact ih
theorem step_gd {c : K × St} (h : cGd c) {t : Int} (h0 : (stepS c.1 c.2 t).2 = 0) : cGd (c.1, (stepS c.1 c.2 t).1) := by
  rcases stepS_cases h.1 c.2 t with ⟨_, e⟩ | ⟨_, _, e⟩ | ⟨_, _, e, hw⟩
  · rw [e] at h0; cases h0
  · rw [e] at h0; cases h0
  · refine ⟨h.1, ?_⟩
    show validS c.1 (stepS c.1 c.2 t).1 = true
    rw [e]
    exact validS_of h.1 h.kv.2 hw
theorem stgTo_gd {k : K} (h : kGd k) {l : List Am} (hl : amGd l) {tr : List Int} : ∀ {i : Nat}, (stgTo k l tr i).2 = 0 → cGd (stgTo k l tr i).1
  | 0, h0 => by
    have hp := preTo_gd h hl (Nat.le_refl _)
    rw [stgTo] at h0 ⊢
    exact ⟨hp.1, (startS_zero hp.1 h0).2.1⟩
  | i + 1, h0 => by
    rw [stgTo] at h0 ⊢
    by_cases he : (stgTo k l tr i).2 = 0
    · have ih := stgTo_gd h hl he
      rw [if_neg (by simpa using he)] at h0 ⊢
      unfold nextS at h0 ⊢
      split at h0
      · rename_i h1
        rw [if_pos h1]
        exact todTo_gd hl (step_gd ih h1.1) (Nat.le_refl _)
      · rename_i h1
        rw [if_neg h1]
        exact step_gd ih h0
    · rw [if_pos he] at h0
      exact absurd h0 he
theorem stg_kGd {k : K} (h : kGd k) {l : List Am} (hl : amGd l) {tr : List Int} : ∀ {i : Nat}, kGd (stgTo k l tr i).1.1
  | 0 => preTo_gd h hl (Nat.le_refl _)
  | i + 1 => by
    have ih := stg_kGd h hl (tr := tr) (i := i)
    rw [stgTo]
    by_cases he : (stgTo k l tr i).2 = 0
    · have hg := stgTo_gd h hl he
      rw [if_neg (by simpa using he)]
      unfold nextS
      split
      · rename_i h1
        exact (todTo_gd hl (step_gd hg h1.1) (Nat.le_refl _)).kv
      · exact ih
    · rw [if_pos he]; exact ih
theorem stg_stop {k : K} {l : List Am} {tr : List Int} {i : Nat} (h : (stgTo k l tr i).2 ≠ 0) : ∀ m, i ≤ m → stgTo k l tr m = stgTo k l tr i := by
  intro m hm
  induction m with
  | zero => have : i = 0 := by omega
            rw [this]
  | succ m ih =>
    by_cases h1 : i = m + 1
    · rw [h1]
    · have h2 := ih (by omega)
      rw [stgTo, if_pos (by rw [h2]; exact h), h2]
end
section
open Go.Eng
instance : Inhabited K := ⟨zeroK⟩
instance : Inhabited St := ⟨zS⟩
def runO (e : Int) (cs : List K) (ss : List St) : List Ob := [.cells 38 [.c (.slice none 0 0)], .cells 39 [.c (.slice none 0 0)], .cells 35 [.c (.int .i64 e)],
  .cells 38 [.vec 5 (2 * cs.length)], .vec 27 7 (2 * cs.length) cs.length (fun i => kC (cs.getD i default)), .cells 39 [.vec 7 (2 * ss.length)], .vec 45 4 (2 * ss.length) ss.length (fun i => stC (ss.getD i default))]
def runN (e : Int) (cs : List K) (ss : List St) : List (Nat × Ob) := [(1, .cells 38 [.c (.slice none 0 0)]), (2, .cells 39 [.c (.slice none 0 0)]), (3, .cells 35 [.c (.int .i64 e)]),
  (4, .cells 38 [.vec 5 (2 * cs.length)]), (5, .vec 27 7 (2 * cs.length) cs.length (fun i => kC (cs.getD i default))), (6, .cells 39 [.vec 7 (2 * ss.length)]), (7, .vec 45 4 (2 * ss.length) ss.length (fun i => stC (ss.getD i default)))]
abbrev RnS := Int × List K × List St
def csR : List AV := frL 79 [(8, .ptr 1 0), (9, .ptr 2 0), (10, .ptr 3 0), (16, .ptr 4 0), (17, .ptr 6 0)]
set_option maxHeartbeats 1000000 in
theorem stages_ok (k : K) (hk : kGd k) (l : List Am) (hl : amGd l) (hln : l.length ≤ 1000000) (tr : List Int) (htn : tr.length ≤ 1000000) (L b : Nat) (mk : LoopState → Option Code → Array Value → Obj) (jmp : Code) (mkE : Array Value → Obj) (st : Nat → RnS)
    (hS : ∀ i, i ≤ tr.length → (stgTo k l tr i).2 ≠ 0 → ∀ m, i + 1 ≤ m → st m = st (i + 1))
    (hY : ∀ i, i ≤ tr.length → (∀ j, j < i → (stgTo k l tr j).2 = 0) →
      DoesR Tryz.prog L [.agg (kC (stgTo k l tr i).1.1 ++ stC (stgTo k l tr i).1.2), .c (.int .i64 (stgTo k l tr i).2)] (.lrec (mk .ready none) b csR :: runO (st i).1 (st i).2.1 (st i).2.2) (.c (.bool ((stgTo k l tr i).2 == 0))) (.lrec (if (stgTo k l tr i).2 = 0 then mk .ready none else mk .done (some jmp)) b csR :: runO (st (i + 1)).1 (st (i + 1)).2.1 (st (i + 1)).2.2))
    (hE : (if (stgTo k l tr tr.length).2 = 0 then mk .ready none else mk .done (some jmp)) = mkE) :
    DoesM Tryz.prog 65 [.fn (.yield L) [] [], .rptr (kC k), .rptr [amsV l], .rptr [intsV tr]] (.lrec (mk .ready none) b csR :: runO (st 0).1 (st 0).2.1 (st 0).2.2) (.tup []) (.lrec mkE b csR :: runO (st (tr.length + 1)).1 (st (tr.length + 1)).2.1 (st (tr.length + 1)).2.2) := by
  subst hE
  refine DoesM.mk (fun _ => false) 100 TT_ok Tryz.func65 rfl (by kernel_rfl) Tryz.ntmps65 rfl rfl rfl fun E hT hE hN hR => ?_
  have hm := mixO hE
  (repeat (first | refine XK.n ?_ | refine XK.a ?_ | refine XK.b ?_))
  refine XK.loop (ι := Nat) (fun i => ST.of [(0, .fn (.yield L) [] []), (1, .rptr (kC k)), (2, .rptr [amsV l]), (3, .rptr [intsV tr]), (5, .ptr 105 0), (20, amsV l), (21, .c (.int .i64 l.length)), (22, .c (.int .i64 i))]
      ((0, .lrec (mk .ready none) b csR) :: (105, .cells 27 (kC (preTo k l i))) :: runN (st 0).1 (st 0).2.1 (st 0).2.2) 1000 112 (fun _ => false))
    (fun i => i ≤ l.length) (fun i => l.length - i) 0 (Nat.zero_le _) (Weak.of hN rfl rfl rfl frI frI) fun i hi => ?_
  (repeat (first | refine XK.n ?_ | refine XK.a ?_ | refine XK.b ?_)); refine XK.cond rfl (fun hlt => ?_) (fun hlt => ?_) <;> (try simp at hlt)
  · have fx : l.getD (i : Int).toNat default = l.getD i default := rfl
    have hp := preTo_gd hk hl (i := i) (by omega)
    have ha := hl.at hlt
    have ap := apply_ok (preTo k l i) hp.1 (l.getD i default).patch ha.1.2.2.2 ha.2.1 ha.2.2
    have hn : preTo k l (i + 1) = if 0 < (l.getD i default).day then preTo k l i else if (applyR (preTo k l i) (l.getD i default).patch).2 = 0 then (applyR (preTo k l i) (l.getD i default).patch).1 else preTo k l i := rfl
    generalize applyR (preTo k l i) (l.getD i default).patch = r at *
    generalize preTo k l i = k1 at *
    (repeat (first | refine XK.n ?_ | refine XK.a ?_ | refine XK.b ?_))
    rw [fx]
    generalize l.getD i default = a at *
    (repeat (first | refine XK.n ?_ | refine XK.a ?_ | refine XK.b ?_)); refine XK.cond rfl (fun h1 => ?_) (fun h1 => ?_) <;> (try simp at h1)
    · rw [if_pos h1] at hn
      (repeat (first | refine XK.n ?_ | refine XK.a ?_ | refine XK.b ?_))
      refine XK.inv ⟨i + 1, hlt, ?_, by omega⟩
      rw [hn]
      exact (Weak.of hN rfl rfl rfl frI frI)
    rw [if_neg (by omega)] at hn
    (repeat (first | refine XK.n ?_ | refine XK.a ?_ | refine XK.b ?_)); refine XK.region ?_; refine XL.g ?_
    refine XL.callKA hE rfl rfl rfl rfl trivial rfl rfl (ap) ?_
    refine XL.g ?_; refine XL.fin ?_; (repeat (first | refine XK.n ?_ | refine XK.a ?_ | refine XK.b ?_))
    (repeat (first | refine XK.n ?_ | refine XK.a ?_ | refine XK.b ?_)); refine XK.cond rfl (fun h2 => ?_) (fun h2 => ?_) <;> (try simp at h2)
    · rw [if_pos h2] at hn
      (repeat (first | refine XK.n ?_ | refine XK.a ?_ | refine XK.b ?_))
      refine XK.inv ⟨i + 1, hlt, ?_, by omega⟩
      rw [hn]
      exact (Weak.of hN rfl rfl rfl frI frI)
    · rw [if_neg h2] at hn
      (repeat (first | refine XK.n ?_ | refine XK.a ?_ | refine XK.b ?_))
      refine XK.inv ⟨i + 1, hlt, ?_, by omega⟩
      rw [hn]
      exact (Weak.of hN rfl rfl rfl frI frI)
  have hie : i = l.length := by omega
  subst hie
  clear hlt hi
  have hp := preTo_gd hk hl (Nat.le_refl _)
  have hs := startS_ok (preTo k l l.length) hp.1
  have h0 : stgTo k l tr 0 = ((preTo k l l.length, (startS (preTo k l l.length)).1), (startS (preTo k l l.length)).2) := rfl
  have hY0 := hY 0 (Nat.zero_le _) (fun j hj => absurd hj (Nat.not_lt_zero _))
  rw [h0] at hY0
  generalize hk1 : preTo k l l.length = k1 at *
  generalize hs1 : startS k1 = s1 at *
  (repeat (first | refine XK.n ?_ | refine XK.a ?_ | refine XK.b ?_))
  (repeat (first | refine XK.n ?_ | refine XK.a ?_ | refine XK.b ?_)); refine XK.region ?_; refine XL.g ?_
  refine XL.callKA hE rfl rfl rfl rfl trivial rfl rfl (hs) ?_
  refine XL.g ?_; refine XL.fin ?_; (repeat (first | refine XK.n ?_ | refine XK.a ?_ | refine XK.b ?_))
  (repeat (first | refine XK.n ?_ | refine XK.a ?_ | refine XK.b ?_))
  (repeat (first | refine XK.n ?_ | refine XK.a ?_ | refine XK.b ?_)); refine XK.region ?_; refine XL.g ?_
  ((refine XL.yieldM [0, 1, 2, 3, 4, 5, 6, 7] hE rfl rfl rfl rfl trivial (hY0) rfl ?_ rfl ?_ rfl rfl rfl ?_); (focus (repeat' (first | exact rfl | exact AvIs.refl _ | exact trivial | (intro i hi; rfl) | exact fun _ _ => ⟨rfl, AvIs.refl _⟩ | (intro i hi; rcases i with _ | _ | _ | _ | _ | _ | _ | i <;> first | rfl | exact absurd hi (by simp; done) | (simp at hi; omega)) | refine ⟨?_, ?_⟩))); (focus (repeat' (first | exact rfl | exact AvIs.refl _ | exact trivial | (intro i hi; rfl) | exact fun _ _ => ⟨rfl, AvIs.refl _⟩ | (intro i hi; rcases i with _ | _ | _ | _ | _ | _ | _ | i <;> first | rfl | exact absurd hi (by simp; done) | (simp at hi; omega)) | refine ⟨?_, ?_⟩))))
  refine XL.g ?_; refine XL.fin ?_; (repeat (first | refine XK.n ?_ | refine XK.a ?_ | refine XK.b ?_))
  by_cases hz : s1.2 = 0
  rotate_left
  · have hlast := hS 0 (Nat.zero_le _) (by rw [h0]; exact hz) (tr.length + 1) (by omega)
    have hstop := stg_stop (k := k) (l := l) (tr := tr) (i := 0) (by rw [h0]; exact hz) tr.length (Nat.zero_le _)
    rw [hlast, hstop, h0]
    (repeat (first | refine XK.n ?_ | refine XK.a ?_ | refine XK.b ?_)); refine XK.cond rfl (fun h5 => ?_) (fun h5 => ?_)
    · (repeat (first | refine XK.n ?_ | refine XK.a ?_ | refine XK.b ?_))
      (first | refine XK.outR [0, 1, 2, 3, 4, 5, 6, 7] hN rfl rfl rfl ?_ rfl rfl ?_ | refine XK.outRN [0, 1, 2, 3, 4, 5, 6, 7] hN rfl rfl rfl ?_ rfl rfl ?_)
      · exact frI
      · exact frI
    · exfalso; simp [hz] at h5
  (repeat (first | refine XK.n ?_ | refine XK.a ?_ | refine XK.b ?_)); refine XK.cond rfl (fun h5 => ?_) (fun h5 => ?_)
  · exfalso; simp [hz] at h5
  clear h5
  (repeat (first | refine XK.n ?_ | refine XK.a ?_ | refine XK.b ?_))
  have hrc : (if ((k1, s1.1), s1.2).2 = 0 then mk LoopState.ready none else mk LoopState.done (some jmp)) = mk .ready none := if_pos hz
  rw [hrc]
  refine XK.loop (ι := Nat) (fun i => ST.of [(0, .fn (.yield L) [] []), (1, .rptr (kC k)), (2, .rptr [amsV l]), (3, .rptr [intsV tr]), (5, .ptr 105 0), (10, .ptr 1122 0), (56, intsV tr), (57, .c (.int .i64 tr.length)), (58, .c (.int .i64 i))]
      ((0, .lrec (mk .ready none) b csR) :: (105, .cells 27 (kC (stgTo k l tr i).1.1)) :: (1122, .cells 45 (stC (stgTo k l tr i).1.2)) :: runN (st (i + 1)).1 (st (i + 1)).2.1 (st (i + 1)).2.2) 2000 112 (fun _ => false))
    (fun i => i ≤ tr.length ∧ ∀ j, j ≤ i → (stgTo k l tr j).2 = 0) (fun i => tr.length - i) 0 ⟨Nat.zero_le _, fun j hj => by rw [show j = 0 by omega, h0]; exact hz⟩ (by rw [h0]; exact (Weak.of hN rfl rfl rfl frI frI)) fun i hi => ?_
  obtain ⟨hi, hz0⟩ := hi
  (repeat (first | refine XK.n ?_ | refine XK.a ?_ | refine XK.b ?_)); refine XK.cond rfl (fun hlt => ?_) (fun hlt => ?_) <;> (try simp at hlt)
  · have fx : tr.getD (i : Int).toNat default = tr.getD i default := rfl
    have hg := stgTo_gd hk hl (hz0 i (Nat.le_refl _))
    have hYi := hY (i + 1) hlt (fun j hj => hz0 j (by omega))
    have hSi := hS (i + 1) hlt
    have hnx : stgTo k l tr (i + 1) = nextS l (stgTo k l tr i).1 (tr.getD i default) := by rw [stgTo, if_neg (by simpa using hz0 i (Nat.le_refl _))]
    have hstop := stg_stop (k := k) (l := l) (tr := tr) (i := i + 1)
    have hzn : (stgTo k l tr (i + 1)).2 = 0 → ∀ j, j ≤ i + 1 → (stgTo k l tr j).2 = 0 := fun h j hj => by
      by_cases e : j = i + 1
      · subst e; exact h
      · exact hz0 j (by omega)
    generalize hnxe : stgTo k l tr (i + 1) = nx at *
    generalize (stgTo k l tr i).1 = c at *
    have hs := stepS_ok c.1 hg.1 c.2 (tr.getD i default)
    have hsg := step_gd hg (t := tr.getD i default)
    have hne : nextS l c (tr.getD i default) = if (stepS c.1 c.2 (tr.getD i default)).2 = 0 ∧ (tr.getD i default) = -1 then (todTo l (c.1, (stepS c.1 c.2 (tr.getD i default)).1) l.length, 0) else ((c.1, (stepS c.1 c.2 (tr.getD i default)).1), (stepS c.1 c.2 (tr.getD i default)).2) := rfl
    rw [← hnx] at hne
    generalize stepS c.1 c.2 (tr.getD i default) = r at *
    (repeat (first | refine XK.n ?_ | refine XK.a ?_ | refine XK.b ?_))
    rw [fx]
    generalize tr.getD i default = t at *
    (repeat (first | refine XK.n ?_ | refine XK.a ?_ | refine XK.b ?_)); refine XK.region ?_; refine XL.g ?_
    refine XL.callKA hE rfl rfl rfl rfl trivial rfl rfl (hs) ?_
    refine XL.g ?_; refine XL.fin ?_; (repeat (first | refine XK.n ?_ | refine XK.a ?_ | refine XK.b ?_))
    (repeat (first | refine XK.n ?_ | refine XK.a ?_ | refine XK.b ?_)); refine XK.join (ST.of [(0, .fn (.yield L) [] []), (1, .rptr (kC k)), (2, .rptr [amsV l]), (3, .rptr [intsV tr]), (5, .ptr 105 0), (10, .ptr 1122 0), (11, .c (.int .i64 nx.2)), (56, intsV tr), (57, .c (.int .i64 tr.length)), (58, .c (.int .i64 i))]
        ((0, .lrec (mk .ready none) b csR) :: (105, .cells 27 (kC nx.1.1)) :: (1122, .cells 45 (stC nx.1.2)) :: runN (st (i + 1)).1 (st (i + 1)).2.1 (st (i + 1)).2.2) 5000 112 (fun _ => false)) rfl (fun h6 => ?_) (fun h6 => ?_) ?_
    · have h6 : r.2 = 0 ∧ t = -1 := by simpa using h6
      rw [if_pos h6] at hne
      have hr0 := h6.1
      have htd := fun j (h : j ≤ l.length) => todTo_gd hl (hsg hr0) h
      have htn : ∀ j, todTo l (c.1, r.1) (j + 1) = if (l.getD j default).day ≠ (todTo l (c.1, r.1) j).2.day then todTo l (c.1, r.1) j else if (migR (todTo l (c.1, r.1) j).1 (l.getD j default).patch (todTo l (c.1, r.1) j).2).2 = 0 then (migR (todTo l (c.1, r.1) j).1 (l.getD j default).patch (todTo l (c.1, r.1) j).2).1 else todTo l (c.1, r.1) j := fun _ => rfl
      have ht0 : todTo l (c.1, r.1) 0 = (c.1, r.1) := rfl
      clear hYi
      generalize htd' : todTo l (c.1, r.1) = td at *
      rw [hne]
      (repeat (first | refine XK.n ?_ | refine XK.a ?_ | refine XK.b ?_))
      refine XK.loop (ι := Nat) (fun j => ST.of [(0, .fn (.yield L) [] []), (1, .rptr (kC k)), (2, .rptr [amsV l]), (3, .rptr [intsV tr]), (5, .ptr 105 0), (10, .ptr 1122 0), (11, .c (.int .i64 0)), (56, intsV tr), (57, .c (.int .i64 tr.length)), (58, .c (.int .i64 i)), (75, amsV l), (76, .c (.int .i64 l.length)), (77, .c (.int .i64 j))]
          ((0, .lrec (mk .ready none) b csR) :: (105, .cells 27 (kC (td j).1)) :: (1122, .cells 45 (stC (td j).2)) :: runN (st (i + 1)).1 (st (i + 1)).2.1 (st (i + 1)).2.2) 3000 112 (fun _ => false))
        (fun j => j ≤ l.length) (fun j => l.length - j) 0 (Nat.zero_le _) (by rw [ht0]; exact Weak.of hN rfl rfl rfl (by (repeat' (first | exact rfl | exact AvIs.refl _ | exact trivial | exact fun _ _ => rfl | exact fun _ _ => ⟨rfl, AvIs.refl _⟩ | exact cI (by omega) | exact (cI (by omega)) | refine ⟨?_, ?_⟩))) frI) fun j hj => ?_
      (repeat (first | refine XK.n ?_ | refine XK.a ?_ | refine XK.b ?_)); refine XK.cond rfl (fun hjl => ?_) (fun hjl => ?_) <;> (try simp at hjl)
      · have fy : l.getD (j : Int).toNat default = l.getD j default := rfl
        have ha := hl.at hjl
        have hgd := htd j hj
        have hn := htn j
        have ap := migrated_ok (td j).1 hgd.1 (l.getD j default).patch ha.1.2.2.2 ha.2.1 ha.2.2 (td j).2 hgd.2
        generalize migR (td j).1 (l.getD j default).patch (td j).2 = q at *
        generalize td j = e1 at *
        (repeat (first | refine XK.n ?_ | refine XK.a ?_ | refine XK.b ?_))
        rw [fy]
        generalize l.getD j default = a at *
        (repeat (first | refine XK.n ?_ | refine XK.a ?_ | refine XK.b ?_)); refine XK.cond rfl (fun h7 => ?_) (fun h7 => ?_) <;> (try simp at h7)
        · rw [if_pos h7] at hn
          (repeat (first | refine XK.n ?_ | refine XK.a ?_ | refine XK.b ?_))
          refine XK.inv ⟨j + 1, hjl, ?_, by omega⟩
          rw [hn]
          exact (Weak.of hN rfl rfl rfl frI frI)
        rw [if_neg (fun h => h h7)] at hn
        (repeat (first | refine XK.n ?_ | refine XK.a ?_ | refine XK.b ?_)); refine XK.region ?_; refine XL.g ?_
        refine XL.callKA hE rfl rfl rfl rfl trivial rfl rfl (ap) ?_
        refine XL.g ?_; refine XL.fin ?_; (repeat (first | refine XK.n ?_ | refine XK.a ?_ | refine XK.b ?_))
        (repeat (first | refine XK.n ?_ | refine XK.a ?_ | refine XK.b ?_)); refine XK.cond rfl (fun h8 => ?_) (fun h8 => ?_) <;> (try simp at h8)
        · rw [if_pos h8] at hn
          (repeat (first | refine XK.n ?_ | refine XK.a ?_ | refine XK.b ?_))
          refine XK.inv ⟨j + 1, hjl, ?_, by omega⟩
          rw [hn]
          exact (Weak.of hN rfl rfl rfl frI frI)
        · rw [if_neg h8] at hn
          (repeat (first | refine XK.n ?_ | refine XK.a ?_ | refine XK.b ?_))
          refine XK.inv ⟨j + 1, hjl, ?_, by omega⟩
          rw [hn]
          exact (Weak.of hN rfl rfl rfl frI frI)
      · have hje : j = l.length := by omega
        subst hje
        (repeat (first | refine XK.n ?_ | refine XK.a ?_ | refine XK.b ?_))
        exact XK.inv (Weak.of hN rfl rfl rfl frI frI)
    · have h6 : ¬ (r.2 = 0 ∧ t = -1) := by simpa using h6
      rw [if_neg h6] at hne
      rw [hne]
      (repeat (first | refine XK.n ?_ | refine XK.a ?_ | refine XK.b ?_))
      exact XK.inv (Weak.of hN rfl rfl rfl frI frI)
    clear hne hnx
    (repeat (first | refine XK.n ?_ | refine XK.a ?_ | refine XK.b ?_)); refine XK.region ?_; refine XL.g ?_
    ((refine XL.yieldM [0, 1, 2, 3, 4, 5, 6, 7] hE rfl rfl rfl rfl trivial (hYi) rfl ?_ rfl ?_ rfl rfl rfl ?_); (focus (repeat' (first | exact rfl | exact AvIs.refl _ | exact trivial | (intro i hi; rfl) | exact fun _ _ => ⟨rfl, AvIs.refl _⟩ | (intro i hi; rcases i with _ | _ | _ | _ | _ | _ | _ | i <;> first | rfl | exact absurd hi (by simp; done) | (simp at hi; omega)) | refine ⟨?_, ?_⟩))); (focus (repeat' (first | exact rfl | exact AvIs.refl _ | exact trivial | (intro i hi; rfl) | exact fun _ _ => ⟨rfl, AvIs.refl _⟩ | (intro i hi; rcases i with _ | _ | _ | _ | _ | _ | _ | i <;> first | rfl | exact absurd hi (by simp; done) | (simp at hi; omega)) | refine ⟨?_, ?_⟩))))
    refine XL.g ?_; refine XL.fin ?_; (repeat (first | refine XK.n ?_ | refine XK.a ?_ | refine XK.b ?_))
    by_cases hz2 : nx.2 = 0
    rotate_left
    · have hlast := hSi hz2 (tr.length + 1) (by omega)
      have hstp := hstop hz2 tr.length (by omega)
      rw [hlast, hstp]
      (repeat (first | refine XK.n ?_ | refine XK.a ?_ | refine XK.b ?_)); refine XK.cond rfl (fun h9 => ?_) (fun h9 => ?_)
      · (repeat (first | refine XK.n ?_ | refine XK.a ?_ | refine XK.b ?_))
        (first | refine XK.outR [0, 1, 2, 3, 4, 5, 6, 7] hN rfl rfl rfl ?_ rfl rfl ?_ | refine XK.outRN [0, 1, 2, 3, 4, 5, 6, 7] hN rfl rfl rfl ?_ rfl rfl ?_)
        · exact frI
        · exact frI
      · exfalso; simp [hz2] at h9
    (repeat (first | refine XK.n ?_ | refine XK.a ?_ | refine XK.b ?_)); refine XK.cond rfl (fun h9 => ?_) (fun h9 => ?_)
    · exfalso; simp [hz2] at h9
    clear h9
    rw [if_pos hz2]
    (repeat (first | refine XK.n ?_ | refine XK.a ?_ | refine XK.b ?_))
    refine XK.inv ⟨i + 1, ⟨hlt, hzn hz2⟩, ?_, by omega⟩
    rw [hnxe]
    exact (Weak.of hN rfl rfl rfl frI frI)
  · have hie : i = tr.length := by omega
    subst hie
    rw [if_pos (hz0 _ (Nat.le_refl _))]
    (repeat (first | refine XK.n ?_ | refine XK.a ?_ | refine XK.b ?_))
    (first | refine XK.outR [0, 1, 2, 3, 4, 5, 6, 7] hN rfl rfl rfl ?_ rfl rfl ?_ | refine XK.outRN [0, 1, 2, 3, 4, 5, 6, 7] hN rfl rfl rfl ?_ rfl rfl ?_)
    · exact frI
    · exact frI
end
section
open Go.Eng
def small24B (p : Pt) : Bool := decide ((p.clauses.length : Int) ≤ 500) && decide ((p.new.start.length : Int) ≤ 20)
theorem small24_ok (p : Pt) : Does Tryz.prog 17 [ptV p] (.c (.bool (small24B p))) := by
  refine Does.mk (fun _ => false) TT_ok Tryz.func17 rfl (by kernel_rfl) Tryz.ntmps17 rfl rfl fun E hT hE hN hR => ?_
  have hm := mixO hE
  (repeat (first | refine XK.n ?_ | refine XK.a ?_ | refine XK.b ?_))
  (first | refine XK.o ?_ | refine XK.p ?_)
  rfl
end
section
open Go.Eng
section
variable {α : Type}
def insS (le : α → α → Bool) (x : α) : List α → List α
  | [] => [x]
  | y :: l => if le x y = true then x :: y :: l else y :: insS le x l
def sortS (le : α → α → Bool) : List α → List α
  | [] => []
  | x :: l => insS le x (sortS le l)
theorem insS_perm (le : α → α → Bool) (x : α) : ∀ l, (insS le x l).Perm (x :: l)
  | [] => List.Perm.refl _
  | y :: l => by
    unfold insS
    split
    · exact List.Perm.refl _
    · exact ((insS_perm le x l).cons y).trans (List.Perm.swap x y l)
theorem sortS_perm (le : α → α → Bool) : ∀ l, (sortS le l).Perm l
  | [] => List.Perm.refl _
  | x :: l => (insS_perm le x _).trans ((sortS_perm le l).cons x)
theorem insS_map {β : Type} {le : α → α → Bool} {le' : β → β → Bool} (g : α → β) (x : α) : ∀ l, (∀ y ∈ l, le x y = le' (g x) (g y)) → (insS le x l).map g = insS le' (g x) (l.map g)
  | [], _ => rfl
  | y :: l, h => by
    unfold insS
    rw [h y (.head _)]
    show _ = if le' (g x) (g y) = true then _ else _
    split
    · rfl
    · rw [List.map_cons, insS_map g x l fun z hz => h z (.tail _ hz)]
end
def dnLe (a b : Am) : Bool := decide (a.day < b.day) || (a.day == b.day && decide (a.number ≤ b.number))
def amLe (l : List Am) (i j : Nat) : Bool :=
  decide ((l.getD i default).day < (l.getD j default).day) || ((l.getD i default).day == (l.getD j default).day && (decide ((l.getD i default).number < (l.getD j default).number) || ((l.getD i default).number == (l.getD j default).number && decide (i ≤ j))))
def ordL (l : List Am) : List Nat := sortS (amLe l) (List.range l.length)
theorem dnLe_tot (a b : Am) : dnLe a b = true ∨ dnLe b a = true := by
  simp only [dnLe, Bool.or_eq_true, Bool.and_eq_true, decide_eq_true_eq, beq_iff_eq]; omega
theorem ordL_perm (l : List Am) : (ordL l).Perm (List.range l.length) := sortS_perm _ _
theorem ordL_len (l : List Am) : (ordL l).length = l.length := by rw [(ordL_perm l).length_eq, List.length_range]
theorem ordL_lt {l : List Am} {i : Nat} (h : i ∈ ordL l) : i < l.length := List.mem_range.1 ((ordL_perm l).mem_iff.1 h)
theorem sortS_map_range (l : List Am) : ∀ (n k : Nat), k + n = l.length → (sortS (amLe l) (List.range' k n)).map (fun i => l.getD i default) = sortS dnLe (l.drop k)
  | 0, k, h => by rw [List.drop_eq_nil_of_le (by omega)]; rfl
  | n + 1, k, h => by
    have hk : k < l.length := by omega
    rw [List.range'_succ, List.drop_eq_getElem_cons hk]
    show (insS (amLe l) k (sortS (amLe l) (List.range' (k + 1) n))).map _ = insS dnLe l[k] (sortS dnLe (l.drop (k + 1)))
    rw [insS_map (le' := dnLe) (fun i => l.getD i default) k _ fun y hy => ?_, sortS_map_range l n (k + 1) (by omega)]
    · congr 1
      simp [List.getD, hk]
    · have hy := (sortS_perm (amLe l) _).mem_iff.1 hy
      rw [List.mem_range'_1] at hy
      simp only [amLe, dnLe]
      have e1 : ∀ (a b : Int), (decide (a < b) || (a == b && decide (k ≤ y))) = decide (a ≤ b) := fun a b => by
        rw [Bool.eq_iff_iff]; simp only [Bool.or_eq_true, Bool.and_eq_true, decide_eq_true_eq, beq_iff_eq]; omega
      rw [e1]
def seqA (l : List Am) : List Am := (ordL l).map (fun i => l.getD i default)
theorem seqA_eq (l : List Am) : seqA l = sortS dnLe l := by
  have := sortS_map_range l l.length 0 (by omega)
  rw [List.drop_zero, ← List.range_eq_range'] at this
  exact this
theorem seqA_perm (l : List Am) : (seqA l).Perm l := by rw [seqA_eq]; exact sortS_perm _ _
end
section
open Go.Eng
end
section
open Go.Eng
end
section
open Go.Eng
theorem eqIS_self (l : List Int) : eqIS l l = true := by simp [eqIS]
theorem eqBS_self (l : List Bool) : eqBS l l = true := by simp [eqBS]
theorem eqMS_self (l : List Mk) : eqMS l l = true := by
  unfold eqMS
  rw [beq_self_eq_true, Bool.true_and, List.all_eq_true]
  exact fun i _ => eqMk_iff.2 rfl
theorem sameS_self (s : St) : sameS s s = true := by simp [sameS, eqIS_self, eqBS_self, eqMS_self]
theorem smallQ_len {k : K} {n : Int} (h : smallQ k n = true) : k.holders.length ≤ 20 ∧ k.units.length ≤ 30 ∧ k.acts.length ≤ 70 ∧ k.clauses.length ≤ n ∧ k.off.length ≤ 100 ∧ ∀ i, i < k.clauses.length → (k.clauses.getD i default).start.length ≤ 20 := by
  unfold smallQ at h
  split at h
  · cases h
  · rename_i h1
    simp only [Bool.or_eq_true, decide_eq_true_eq, not_or] at h1
    refine ⟨by omega, by omega, by omega, by omega, by omega, fun i hi => ?_⟩
    rw [List.all_eq_true] at h
    have := h _ (getD_memW hi)
    simpa using this
theorem stg_none (k : K) (tr : List Int) : ∀ i, stgTo k [] tr i = ((k, (runE k tr i).1), (runE k tr i).2)
  | 0 => rfl
  | i + 1 => by
    rw [stgTo, stg_none k tr i, runE]
    by_cases h : (runE k tr i).2 = 0
    · rw [if_neg (by simpa using h), if_pos h]
      unfold nextS
      dsimp only
      by_cases h2 : (stepS k (runE k tr i).1 (tr.getD i default)).2 = 0 ∧ tr.getD i default = -1
      · rw [if_pos h2, h2.1]; rfl
      · rw [if_neg h2]
    · rw [if_pos (by simpa using h), if_neg h]
end
end Go.Proofs.YtlcfoelfcnhenaaGreatDoor
