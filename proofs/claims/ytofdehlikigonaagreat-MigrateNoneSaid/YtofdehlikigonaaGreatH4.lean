import Derived.Test.YtofdehlikigonaaGreatH3
section
/- Contracts: package migrate: Migrate. -/
namespace Go.Proofs.YtofdehlikigonaaGreat
open Go.Eng
set_option maxRecDepth 10000
set_option linter.unusedSimpArgs false
set_option linter.unusedVariables false
theorem migS_is (k : K) (p : Pt) (s : St) : AvS (.agg [.c (.int .i64 s.day), intsV s.holders, boolsV s.used, .rs 5 (applyR k p).1.clauses.length (fun i => mkC ((migW k p s).mark i))]) (stV (migS k p s)) := by
  refine AvS.agg ⟨AvS.refl _, AvS.refl _, AvS.refl _, ?_, trivial⟩
  have rs {sz n m : Nat} {f g : Nat → List AV} (h : m = n) (h2 : ∀ i, i < n → f i = g i) : AvS (.rs sz n f) (.rs sz m g) := by
    subst h
    exact AvS.rs fun i hi => by rw [h2 i hi]; exact AvSL.refl _
  refine rs (by simp [migS]) fun i hi => ?_
  show _ = mkC (((List.range (applyR k p).1.clauses.length).map (migW k p s).mark).getD i default)
  rw [map_getD _ hi]
theorem nilS_is : AvS nilS (stV zS) := AvS.agg ⟨AvS.refl _, AvS.nil, AvS.nil, AvS.nil, trivial⟩
theorem nilK_is : AvS nilK (kV zeroK) := AvS.agg ⟨AvS.refl _, AvS.nil, AvS.nil, AvS.nil, AvS.nil, AvS.refl _, AvS.nil, trivial⟩
theorem migrated_ok (k : K) (hk : kW k) (p : Pt) (hp : ptW p) (hc : p.clauses.length ≤ 1000000) (hs : p.new.start.length ≤ 1000000) (s : St) (hv : validS k s = true) :
    Does Tryz.prog 24 [kV k, ptV p, stV s] (.tup [kV (migR k p s).1.1, stV (migR k p s).1.2, .c (.int .i64 (migR k p s).2)]) := by
  by_cases h : (applyR k p).2 = 0
  · unfold migR
    rw [if_neg (by simpa using h)]
    exact (migratedGo_ok k hk p hp hc hs s hv h).weaken (AvS.tup ⟨AvS.refl _, migS_is k p s, AvS.refl _, trivial⟩)
  · unfold migR
    rw [if_pos h]
    exact (migratedErr_ok k hk p hp hc hs s h).weaken (AvS.tup ⟨nilK_is, nilS_is, AvS.refl _, trivial⟩)
noncomputable def migrateR (k : K) (p : Pt) (s : St) : St × Int := if validS k s = true then ((migR k p s).1.2, (migR k p s).2) else (zS, 1)
theorem migrateErr_ok (k : K) (hk : kW k) (p : Pt) (s : St) (hv : validS k s = false) :
    Does Tryz.prog 12 [kV k, ptV p, stV s] (.tup [nilS, .c (.int .i64 1)]) := by
  have hva := validS_ok k hk s
  rw [hv] at hva
  refine Does.mk (fun _ => false) TT_ok Tryz.func12 rfl (by kernel_rfl) Tryz.ntmps12 rfl rfl fun E hT hE hN hR => ?_
  have hm : E.P.follows .mixedOrders = true := by rw [hE]; kernel_rfl
  (repeat (first | refine XK.norm rfl rfl ?_ | refine XK.rgnA hT rfl rfl rfl ?_ | refine XK.rgnB hT hm rfl rfl rfl ?_)); refine XK.region ?_; refine XL.goA hT rfl rfl rfl rfl ?_
  refine XL.callLA hE rfl rfl rfl rfl trivial rfl (hva) rfl ?_
  refine XL.goA hT rfl rfl rfl rfl ?_; refine XL.fin ?_; (repeat (first | refine XK.norm rfl rfl ?_ | refine XK.rgnA hT rfl rfl rfl ?_ | refine XK.rgnB hT hm rfl rfl rfl ?_))
  (repeat (first | refine XK.norm rfl rfl ?_ | refine XK.rgnA hT rfl rfl rfl ?_ | refine XK.rgnB hT hm rfl rfl rfl ?_)); refine XK.cond rfl (fun h1 => ?_) (fun h1 => ?_)
  · (repeat (first | refine XK.norm rfl rfl ?_ | refine XK.rgnA hT rfl rfl rfl ?_ | refine XK.rgnB hT hm rfl rfl rfl ?_))
    (first | refine XK.out rfl rfl rfl ?_ | refine XK.outN rfl rfl rfl ?_)
    rfl
  · cases h1
theorem migrateGo_ok (k : K) (hk : kW k) (p : Pt) (hp : ptW p) (hc : p.clauses.length ≤ 1000000) (hs : p.new.start.length ≤ 1000000) (s : St) (hv : validS k s = true) :
    Does Tryz.prog 12 [kV k, ptV p, stV s] (.tup [stV (migR k p s).1.2, .c (.int .i64 (migR k p s).2)]) := by
  have hva := validS_ok k hk s
  have hm' := migrated_ok k hk p hp hc hs s hv
  rw [hv] at hva
  generalize migR k p s = r at *
  refine Does.mk (fun _ => false) TT_ok Tryz.func12 rfl (by kernel_rfl) Tryz.ntmps12 rfl rfl fun E hT hE hN hR => ?_
  have hm : E.P.follows .mixedOrders = true := by rw [hE]; kernel_rfl
  (repeat (first | refine XK.norm rfl rfl ?_ | refine XK.rgnA hT rfl rfl rfl ?_ | refine XK.rgnB hT hm rfl rfl rfl ?_)); refine XK.region ?_; refine XL.goA hT rfl rfl rfl rfl ?_
  refine XL.callLA hE rfl rfl rfl rfl trivial rfl (hva) rfl ?_
  refine XL.goA hT rfl rfl rfl rfl ?_; refine XL.fin ?_; (repeat (first | refine XK.norm rfl rfl ?_ | refine XK.rgnA hT rfl rfl rfl ?_ | refine XK.rgnB hT hm rfl rfl rfl ?_))
  (repeat (first | refine XK.norm rfl rfl ?_ | refine XK.rgnA hT rfl rfl rfl ?_ | refine XK.rgnB hT hm rfl rfl rfl ?_)); refine XK.cond rfl (fun h1 => ?_) (fun h1 => ?_)
  · cases h1
  clear h1
  (repeat (first | refine XK.norm rfl rfl ?_ | refine XK.rgnA hT rfl rfl rfl ?_ | refine XK.rgnB hT hm rfl rfl rfl ?_))
  (repeat (first | refine XK.norm rfl rfl ?_ | refine XK.rgnA hT rfl rfl rfl ?_ | refine XK.rgnB hT hm rfl rfl rfl ?_)); refine XK.region ?_; refine XL.goA hT rfl rfl rfl rfl ?_
  refine XL.callKA hE rfl rfl rfl rfl trivial rfl rfl (hm') ?_
  refine XL.goA hT rfl rfl rfl rfl ?_; refine XL.fin ?_; (repeat (first | refine XK.norm rfl rfl ?_ | refine XK.rgnA hT rfl rfl rfl ?_ | refine XK.rgnB hT hm rfl rfl rfl ?_))
  (first | refine XK.out rfl rfl rfl ?_ | refine XK.outN rfl rfl rfl ?_)
  rfl
theorem migrate_ok (k : K) (hk : kW k) (p : Pt) (hp : ptW p) (hc : p.clauses.length ≤ 1000000) (hs : p.new.start.length ≤ 1000000) (s : St) :
    Does Tryz.prog 12 [kV k, ptV p, stV s] (.tup [stV (migrateR k p s).1, .c (.int .i64 (migrateR k p s).2)]) := by
  unfold migrateR
  cases hv : validS k s with
  | true => exact migrateGo_ok k hk p hp hc hs s hv
  | false => exact (migrateErr_ok k hk p s hv).weaken (AvS.tup ⟨nilS_is, AvS.refl _, trivial⟩)
end Go.Proofs.YtofdehlikigonaaGreat
end
section
/- Contracts: package migrate: copies of contracts. -/
namespace Go.Proofs.YtofdehlikigonaaGreat
open Go.Eng
set_option maxRecDepth 10000
set_option linter.unusedSimpArgs false
set_option linter.unusedVariables false
theorem setRow_sameG {cs : List Cl} {i off : Nat} {c : List AV} (hc : setL (clC (cs.getD i default)) off c = clC (cs.getD i default)) : ∀ j, clC (cs.getD j default) = setRowF (fun i => clC (cs.getD i default)) i off c j := by
  intro j
  unfold setRowF
  by_cases h : j = i
  · subst h; rw [show Nat.beq j j = true by simp]; exact hc.symm
  · rw [beq_false h]; rfl
theorem copiedC_ok (k : K) (h1 : (kValid k).1 = 0) (hk : kW k) : Does Tryz.prog 40 [kV k] (kV k) := by
  have hF := (show kOk k from ⟨hk, h1⟩).facts
  have hnc := hF.nc
  have hnh := hF.nh
  have hna := hF.na
  have hnu := units_len h1
  have hno := off_len hF
  refine Does.mk (fun _ => false) TT_ok Tryz.func40 rfl (by kernel_rfl) Tryz.ntmps40 rfl rfl fun E hT hE hN hR => ?_
  have hm : E.P.follows .mixedOrders = true := by rw [hE]; kernel_rfl
  (repeat (first | refine XK.norm rfl rfl ?_ | refine XK.rgnA hT rfl rfl rfl ?_ | refine XK.rgnB hT hm rfl rfl rfl ?_)); refine XK.region ?_; refine XL.goA hT rfl rfl rfl rfl ?_
  refine XL.callKA hE rfl rfl rfl rfl trivial rfl rfl (cln_ints k.holders (by omega)) ?_
  refine XL.goA hT rfl rfl rfl rfl ?_; refine XL.fin ?_; (repeat (first | refine XK.norm rfl rfl ?_ | refine XK.rgnA hT rfl rfl rfl ?_ | refine XK.rgnB hT hm rfl rfl rfl ?_))
  (repeat (first | refine XK.norm rfl rfl ?_ | refine XK.rgnA hT rfl rfl rfl ?_ | refine XK.rgnB hT hm rfl rfl rfl ?_)); refine XK.region ?_; refine XL.goA hT rfl rfl rfl rfl ?_
  refine XL.callKA hE rfl rfl rfl rfl trivial rfl rfl (cln_units k.units (by omega)) ?_
  refine XL.goA hT rfl rfl rfl rfl ?_; refine XL.fin ?_; (repeat (first | refine XK.norm rfl rfl ?_ | refine XK.rgnA hT rfl rfl rfl ?_ | refine XK.rgnB hT hm rfl rfl rfl ?_))
  (repeat (first | refine XK.norm rfl rfl ?_ | refine XK.rgnA hT rfl rfl rfl ?_ | refine XK.rgnB hT hm rfl rfl rfl ?_)); refine XK.region ?_; refine XL.goA hT rfl rfl rfl rfl ?_
  refine XL.callKA hE rfl rfl rfl rfl trivial rfl rfl (cln_acts k.acts (by omega)) ?_
  refine XL.goA hT rfl rfl rfl rfl ?_; refine XL.fin ?_; (repeat (first | refine XK.norm rfl rfl ?_ | refine XK.rgnA hT rfl rfl rfl ?_ | refine XK.rgnB hT hm rfl rfl rfl ?_))
  (repeat (first | refine XK.norm rfl rfl ?_ | refine XK.rgnA hT rfl rfl rfl ?_ | refine XK.rgnB hT hm rfl rfl rfl ?_)); refine XK.region ?_; refine XL.goA hT rfl rfl rfl rfl ?_
  refine XL.callKA hE rfl rfl rfl rfl trivial rfl rfl (cln_ints k.off (by omega)) ?_
  refine XL.goA hT rfl rfl rfl rfl ?_; refine XL.fin ?_; (repeat (first | refine XK.norm rfl rfl ?_ | refine XK.rgnA hT rfl rfl rfl ?_ | refine XK.rgnB hT hm rfl rfl rfl ?_))
  by_cases h0 : k.clauses.length = 0
  · (repeat (first | refine XK.norm rfl rfl ?_ | refine XK.rgnA hT rfl rfl rfl ?_ | refine XK.rgnB hT hm rfl rfl rfl ?_)); refine XK.region ?_; refine XL.goA hT rfl rfl rfl rfl ?_
    refine XL.callKA hE rfl rfl rfl rfl trivial rfl rfl (cln_cls k.clauses (by omega)) ?_
    refine XL.goA hT rfl rfl rfl rfl ?_; refine XL.fin ?_; (repeat (first | refine XK.norm rfl rfl ?_ | refine XK.rgnA hT rfl rfl rfl ?_ | refine XK.rgnB hT hm rfl rfl rfl ?_))
    refine XK.loop (ι := Nat) (fun i => ST.of [(1, .ptr 1 0), (2, .ptr 2 0), (27, .c (.int .i64 k.clauses.length)), (28, .c (.int .i64 0))] [(1, .cells 27 (kC k)), (2, .cells 27 [.c (.int .i64 0), .c (.slice none 0 0), .c (.slice none 0 0), .c (.slice none 0 0), .c (.slice none 0 0), .c (.int .i64 0), .c (.slice none 0 0)])] 1000 43 (fun _ => false))
      (fun i => i = 0) (fun i => 0) 0 rfl (Weak.of hN rfl rfl rfl (by (repeat' (first | exact rfl | exact AvIs.refl _ | exact trivial | exact fun _ _ => rfl | exact fun _ _ => ⟨rfl, AvIs.refl _⟩ | refine ⟨?_, ?_⟩))) (by (repeat' (first | exact rfl | exact AvIs.refl _ | exact trivial | exact fun _ _ => rfl | exact fun _ _ => ⟨rfl, AvIs.refl _⟩ | refine ⟨?_, ?_⟩)))) fun i hi => ?_
    (repeat (first | refine XK.norm rfl rfl ?_ | refine XK.rgnA hT rfl rfl rfl ?_ | refine XK.rgnB hT hm rfl rfl rfl ?_)); refine XK.cond rfl (fun hlt => ?_) (fun hlt => ?_) <;> (try simp at hlt)
    · omega
    · (repeat (first | refine XK.norm rfl rfl ?_ | refine XK.rgnA hT rfl rfl rfl ?_ | refine XK.rgnB hT hm rfl rfl rfl ?_))
      (first | refine XK.out rfl rfl rfl ?_ | refine XK.outN rfl rfl rfl ?_)
      rfl
  · (repeat (first | refine XK.norm rfl rfl ?_ | refine XK.rgnA hT rfl rfl rfl ?_ | refine XK.rgnB hT hm rfl rfl rfl ?_)); refine XK.region ?_; refine XL.goA hT rfl rfl rfl rfl ?_
    refine XL.callMA [700] hE rfl rfl rfl rfl trivial (clnM_cls k.clauses (by omega) (by omega)) rfl rfl rfl rfl rfl ?_
    refine XL.goA hT rfl rfl rfl rfl ?_; refine XL.fin ?_; (repeat (first | refine XK.norm rfl rfl ?_ | refine XK.rgnA hT rfl rfl rfl ?_ | refine XK.rgnB hT hm rfl rfl rfl ?_))
    refine XK.loop (ι := Nat) (fun i => ST.of [(1, .ptr 1 0), (2, .ptr 2 0), (26, .vec 700 0), (27, .c (.int .i64 k.clauses.length)), (28, .c (.int .i64 i))]
      [(1, .cells 27 [.c (.int .i64 k.parties), intsV k.holders, unitsV k.units, actsV k.acts, .vec 700 0, .c (.int .i64 k.days), intsV k.off]), (2, .cells 27 [.c (.int .i64 0), .c (.slice none 0 0), .c (.slice none 0 0), .c (.slice none 0 0), .c (.slice none 0 0), .c (.int .i64 0), .c (.slice none 0 0)]), (700, clsO 0 k.clauses)] 1000 43 (fun _ => false))
      (fun i => i ≤ k.clauses.length) (fun i => k.clauses.length - i) 0 (Nat.zero_le _) (Weak.of hN rfl rfl rfl (by (repeat' (first | exact rfl | exact AvIs.refl _ | exact trivial | exact fun _ _ => rfl | exact fun _ _ => ⟨rfl, AvIs.refl _⟩ | refine ⟨?_, ?_⟩))) (by (repeat' (first | exact rfl | exact AvIs.refl _ | exact trivial | exact fun _ _ => rfl | exact fun _ _ => ⟨rfl, AvIs.refl _⟩ | refine ⟨?_, ?_⟩)))) fun i hi => ?_
    unfold clsO
    (repeat (first | refine XK.norm rfl rfl ?_ | refine XK.rgnA hT rfl rfl rfl ?_ | refine XK.rgnB hT hm rfl rfl rfl ?_)); refine XK.cond rfl (fun hlt => ?_) (fun hlt => ?_) <;> (try simp at hlt)
    · have fx : k.clauses.getD (i : Int).toNat default = k.clauses.getD i default := rfl
      have hst : (k.clauses.getD i default).start.length ≤ 8 := (hF.clB hlt).2.2.2.1
      have cc := cln_cnds (k.clauses.getD i default).start (by omega)
      (repeat (first | refine XK.norm rfl rfl ?_ | refine XK.rgnA hT rfl rfl rfl ?_ | refine XK.rgnB hT hm rfl rfl rfl ?_))
      (repeat (first | refine XK.norm rfl rfl ?_ | refine XK.rgnA hT rfl rfl rfl ?_ | refine XK.rgnB hT hm rfl rfl rfl ?_)); refine XK.drawn hm ?_; refine XD.goA hT rfl rfl rfl rfl ?_
      rw [fx]
      refine XD.callKA hE rfl rfl rfl rfl trivial rfl rfl (cc) ?_
      refine XD.goA hT rfl rfl rfl rfl ?_; refine XD.fin (by kernel_rfl) ?_; (repeat (first | refine XK.norm rfl rfl ?_ | refine XK.rgnA hT rfl rfl rfl ?_ | refine XK.rgnB hT hm rfl rfl rfl ?_))
      refine XK.inv ⟨i + 1, hlt, Weak.of hN rfl rfl rfl (by (repeat' (first | exact rfl | exact AvIs.refl _ | exact trivial | exact fun _ _ => rfl | exact fun _ _ => ⟨rfl, AvIs.refl _⟩ | exact cI (by omega) | refine ⟨?_, ?_⟩))) ⟨by (repeat' (first | exact rfl | exact AvIs.refl _ | exact trivial | exact fun _ _ => rfl | exact fun _ _ => ⟨rfl, AvIs.refl _⟩ | refine ⟨?_, ?_⟩)), by (repeat' (first | exact rfl | exact AvIs.refl _ | exact trivial | exact fun _ _ => rfl | exact fun _ _ => ⟨rfl, AvIs.refl _⟩ | refine ⟨?_, ?_⟩)), ⟨rfl, rfl, rfl⟩, rfl, fun j hj => setRow_sameG rfl j⟩, by omega⟩
    · (repeat (first | refine XK.norm rfl rfl ?_ | refine XK.rgnA hT rfl rfl rfl ?_ | refine XK.rgnB hT hm rfl rfl rfl ?_))
      refine XK.weak (Weak.frozen (k := 700) hN rfl rfl) ?_
      (repeat (first | refine XK.norm rfl rfl ?_ | refine XK.rgnA hT rfl rfl rfl ?_ | refine XK.rgnB hT hm rfl rfl rfl ?_))
      (first | refine XK.out rfl rfl rfl ?_ | refine XK.outN rfl rfl rfl ?_)
      rfl
end Go.Proofs.YtofdehlikigonaaGreat
end
