import Derived.Test.YtofdehlikigonaaGreatS4
section
/- Contracts: package system: Start. -/
namespace Go.Proofs.YtofdehlikigonaaGreat
open Go.Eng
set_option maxRecDepth 10000
set_option linter.unusedSimpArgs false
set_option linter.unusedVariables false
theorem cloneI_ok (l : List Int) (h0 : 0 < l.length) (hl : l.length ≤ 1000000) : DoesM Tryz.prog 31 [intsV l] [] (.vec 0 0) [.vec 3 1 0 l.length (fun i => [.c (.int .i64 (l.getD i default))])] := by
  refine DoesM.mk (fun d => Nat.beq d 5) 100 TT_ok Tryz.func31 rfl (by kernel_rfl) Tryz.ntmps31 rfl rfl rfl fun E hT hE hN hR => ?_
  have hm : E.P.follows .mixedOrders = true := by rw [hE]; kernel_rfl
  (repeat (first | refine XK.norm rfl rfl ?_ | refine XK.rgnA hT rfl rfl rfl ?_ | refine XK.rgnB hT hm rfl rfl rfl ?_)); refine XK.cond rfl (fun h1 => ?_) (fun h1 => ?_)
  · cases h1
  · (repeat (first | refine XK.norm rfl rfl ?_ | refine XK.rgnA hT rfl rfl rfl ?_ | refine XK.rgnB hT hm rfl rfl rfl ?_))
    refine XK.weak (Weak.trans (Weak.stamp (k := 121) (t := 0) hN rfl rfl) (Weak.of (L := [(2, .vec 121 0)]) (O := [(121, .vec 3 1 0 l.length (fun i => [.c (.int .i64 (l.getD i default))]))]) (nx := 1000) (nt := 8) (md := fun _ => false) hN rfl rfl rfl (by (repeat' (first | exact rfl | exact AvIs.refl _ | exact trivial | exact fun _ _ => rfl | exact fun _ _ => ⟨rfl, AvIs.refl _⟩ | refine ⟨?_, ?_⟩))) ⟨⟨rfl, rfl, rfl⟩, Nat.zero_add _, fun j hj => by rcases j with _ | j <;> rfl⟩)) ?_
    (first | refine XK.outR [121] hN rfl rfl rfl ?_ rfl rfl ?_ | refine XK.outRN [121] hN rfl rfl rfl ?_ rfl rfl ?_)
    · (repeat' (first | exact rfl | exact AvIs.refl _ | exact trivial | exact fun _ _ => rfl | exact fun _ _ => ⟨rfl, AvIs.refl _⟩ | refine ⟨?_, ?_⟩))
    · (repeat' (first | exact rfl | exact AvIs.refl _ | exact trivial | exact fun _ _ => rfl | exact fun _ _ => ⟨rfl, AvIs.refl _⟩ | refine ⟨?_, ?_⟩))
def initTo (k : K) (i : Nat) : Wk := ⟨0, fun i => k.holders.getD i default, fun _ => false, fun j => if j < i then initM (clAt k j) else ⟨0, 0, 0, 0, false⟩⟩
theorem startGo_ok (k : K) (hk : kW k) (h : (kValid k).1 = 0) : Does Tryz.prog 37 [kV k] (.tup [rawS k (startW k (initW k)), .c (.int .i64 0)]) := by
  refine Does.mk (fun _ => false) TT_ok Tryz.func37 rfl (by kernel_rfl) Tryz.ntmps37 rfl rfl fun E hT hE hN hR => ?_
  have hm : E.P.follows .mixedOrders = true := by rw [hE]; kernel_rfl
  have hF := (show kOk k from ⟨hk, h⟩).facts
  have b1 := hF.nh
  have b2 := hF.na
  have b3 := hF.nc
  (repeat (first | refine XK.norm rfl rfl ?_ | refine XK.rgnA hT rfl rfl rfl ?_ | refine XK.rgnB hT hm rfl rfl rfl ?_)); refine XK.region ?_; refine XL.goA hT rfl rfl rfl rfl ?_
  refine XL.callLA hE rfl rfl rfl rfl trivial rfl (kValid_ok k hk) rfl ?_
  refine XL.goA hT rfl rfl rfl rfl ?_; refine XL.fin ?_; (repeat (first | refine XK.norm rfl rfl ?_ | refine XK.rgnA hT rfl rfl rfl ?_ | refine XK.rgnB hT hm rfl rfl rfl ?_))
  (repeat (first | refine XK.norm rfl rfl ?_ | refine XK.rgnA hT rfl rfl rfl ?_ | refine XK.rgnB hT hm rfl rfl rfl ?_)); refine XK.cond rfl (fun h1 => ?_) (fun h1 => ?_) <;> (try simp at h1)
  · exact absurd h h1
  · (repeat (first | refine XK.norm rfl rfl ?_ | refine XK.rgnA hT rfl rfl rfl ?_ | refine XK.rgnB hT hm rfl rfl rfl ?_)); refine XK.drawn hm ?_; refine XD.goA hT rfl rfl rfl rfl ?_
    refine XD.callMA [700] hE rfl rfl rfl rfl trivial (cloneI_ok k.holders (by omega) (by omega)) rfl rfl rfl rfl rfl ?_
    refine XD.goA hT rfl rfl rfl rfl ?_; refine XD.fin (by kernel_rfl) ?_; (repeat (first | refine XK.norm rfl rfl ?_ | refine XK.rgnA hT rfl rfl rfl ?_ | refine XK.rgnB hT hm rfl rfl rfl ?_))
    refine XK.loop (ι := Nat) (fun i => ST.of [(2, .ptr 2 0), (6, .ptr 226 0), (33, clsV k.clauses), (34, .c (.int .i64 k.clauses.length)), (35, .c (.int .i64 i))] [(2, .cells 38 [.c (.int .i64 0), .c (.slice none 0 0), .c (.slice none 0 0), .c (.slice none 0 0)]), (226, wO k (initTo k i) 700 219 223), (700, wHold k (initTo k i)), (219, wUsed k (initTo k i)), (223, wMark k (initTo k i))] 1000 65 (fun _ => false))
      (fun i => i ≤ k.clauses.length) (fun i => k.clauses.length - i) 0 (Nat.zero_le _)
      (Weak.of hN rfl rfl rfl (by (repeat' (first | exact rfl | exact AvIs.refl _ | exact trivial | exact fun _ _ => rfl | exact fun _ _ => ⟨rfl, AvIs.refl _⟩ | refine ⟨?_, ?_⟩))) (by (repeat' (first | exact rfl | exact AvIs.refl _ | exact trivial | exact fun _ _ => rfl | exact fun _ _ => ⟨rfl, AvIs.refl _⟩ | exact fun _ hi => absurd hi (Nat.not_lt_zero _) | (intro i hi; cases Nat.lt_one_iff.1 hi; rfl) | (intro j hj; by_cases hji : j = (0); (· subst hji; simp [setRowF, setL, mkC, Wk.upM, initTo]; done); (· simp [setRowF, beq_false hji, Wk.upM, initTo, hji, lt_succ_ne hji]; done)) | refine ⟨?_, ?_⟩)))) fun i hi => ?_
    (repeat (first | refine XK.norm rfl rfl ?_ | refine XK.rgnA hT rfl rfl rfl ?_ | refine XK.rgnB hT hm rfl rfl rfl ?_)); refine XK.cond rfl (fun hlt => ?_) (fun hlt => ?_) <;> (try simp at hlt)
    · have fc : k.clauses.getD (i : Int).toNat default = clAt k i := rfl
      (repeat (first | refine XK.norm rfl rfl ?_ | refine XK.rgnA hT rfl rfl rfl ?_ | refine XK.rgnB hT hm rfl rfl rfl ?_))
      rw [fc]
      (repeat (first | refine XK.norm rfl rfl ?_ | refine XK.rgnA hT rfl rfl rfl ?_ | refine XK.rgnB hT hm rfl rfl rfl ?_)); refine XK.cond rfl (fun h5 => ?_) (fun h5 => ?_) <;> (try simp at h5)
      · (repeat (first | refine XK.norm rfl rfl ?_ | refine XK.rgnA hT rfl rfl rfl ?_ | refine XK.rgnB hT hm rfl rfl rfl ?_))
        refine XK.inv ⟨i + 1, hlt, Weak.of hN rfl rfl rfl (by (repeat' (first | exact rfl | exact AvIs.refl _ | exact trivial | exact fun _ _ => rfl | exact fun _ _ => ⟨rfl, AvIs.refl _⟩ | refine ⟨?_, ?_⟩))) (by (repeat' (first | exact rfl | exact AvIs.refl _ | exact trivial | exact fun _ _ => rfl | exact fun _ _ => ⟨rfl, AvIs.refl _⟩ | exact fun _ hi => absurd hi (Nat.not_lt_zero _) | (intro i hi; cases Nat.lt_one_iff.1 hi; rfl) | (intro j hj; by_cases hji : j = (i); (· subst hji; simp [setRowF, setL, mkC, Wk.upM, initTo, initM, h5]; done); (· simp [setRowF, beq_false hji, Wk.upM, initTo, initM, h5, hji, lt_succ_ne hji]; done)) | refine ⟨?_, ?_⟩))), by omega⟩
      · (repeat (first | refine XK.norm rfl rfl ?_ | refine XK.rgnA hT rfl rfl rfl ?_ | refine XK.rgnB hT hm rfl rfl rfl ?_))
        refine XK.inv ⟨i + 1, hlt, Weak.of hN rfl rfl rfl (by (repeat' (first | exact rfl | exact AvIs.refl _ | exact trivial | exact fun _ _ => rfl | exact fun _ _ => ⟨rfl, AvIs.refl _⟩ | refine ⟨?_, ?_⟩))) (by (repeat' (first | exact rfl | exact AvIs.refl _ | exact trivial | exact fun _ _ => rfl | exact fun _ _ => ⟨rfl, AvIs.refl _⟩ | exact fun _ hi => absurd hi (Nat.not_lt_zero _) | (intro i hi; cases Nat.lt_one_iff.1 hi; rfl) | (intro j hj; by_cases hji : j = (i); (· subst hji; simp [setRowF, setL, mkC, Wk.upM, initTo, initM, h5]; done); (· simp [setRowF, beq_false hji, Wk.upM, initTo, initM, h5, hji, lt_succ_ne hji]; done)) | refine ⟨?_, ?_⟩))), by omega⟩
    · have hie : i = k.clauses.length := by omega
      subst hie
      refine XK.weak (Weak.of (L := [(2, .ptr 2 0), (6, .ptr 226 0)]) (O := [(2, .cells 38 [.c (.int .i64 0), .c (.slice none 0 0), .c (.slice none 0 0), .c (.slice none 0 0)]), (226, wO k (initW k) 700 219 223), (700, wHold k (initW k)), (219, wUsed k (initW k)), (223, wMark k (initW k))]) (nx := 3000) (nt := 65) (md := fun _ => false) hN rfl rfl rfl (by (repeat' (first | exact rfl | exact AvIs.refl _ | exact trivial | exact fun _ _ => rfl | exact fun _ _ => ⟨rfl, AvIs.refl _⟩ | refine ⟨?_, ?_⟩))) ⟨by (repeat' (first | exact rfl | exact AvIs.refl _ | exact trivial | exact fun _ _ => rfl | exact fun _ _ => ⟨rfl, AvIs.refl _⟩ | refine ⟨?_, ?_⟩)), by (repeat' (first | exact rfl | exact AvIs.refl _ | exact trivial | exact fun _ _ => rfl | exact fun _ _ => ⟨rfl, AvIs.refl _⟩ | refine ⟨?_, ?_⟩)), by (repeat' (first | exact rfl | exact AvIs.refl _ | exact trivial | exact fun _ _ => rfl | exact fun _ _ => ⟨rfl, AvIs.refl _⟩ | refine ⟨?_, ?_⟩)), by (repeat' (first | exact rfl | exact AvIs.refl _ | exact trivial | exact fun _ _ => rfl | exact fun _ _ => ⟨rfl, AvIs.refl _⟩ | refine ⟨?_, ?_⟩)), ⟨⟨rfl, rfl, rfl⟩, rfl, fun j hj => ?_⟩⟩) ?_
      · show mkC (initM (clAt k j)) = mkC (if j < k.clauses.length then initM (clAt k j) else _)
        rw [if_pos hj]
      · (repeat (first | refine XK.norm rfl rfl ?_ | refine XK.rgnA hT rfl rfl rfl ?_ | refine XK.rgnB hT hm rfl rfl rfl ?_))
        (repeat (first | refine XK.norm rfl rfl ?_ | refine XK.rgnA hT rfl rfl rfl ?_ | refine XK.rgnB hT hm rfl rfl rfl ?_)); refine XK.region ?_; refine XL.goA hT rfl rfl rfl rfl ?_
        refine XL.callMA [226, 700, 219, 223] hE rfl rfl rfl rfl trivial (wstart_ok k hF (initW k)) rfl rfl rfl rfl rfl ?_
        refine XL.goA hT rfl rfl rfl rfl ?_; refine XL.fin ?_; (repeat (first | refine XK.norm rfl rfl ?_ | refine XK.rgnA hT rfl rfl rfl ?_ | refine XK.rgnB hT hm rfl rfl rfl ?_))
        generalize startW k (initW k) = w' at *
        refine XK.weak (Weak.trans (Weak.of (L := [(2, .ptr 2 0), (3, .c (.int .i64 0))]) (O := (2, .cells 38 [.c (.int .i64 w'.day), .vec 700 0, .vec 219 0, .vec 223 0]) :: (700, wHold k w') :: (219, wUsed k w') :: (223, wMark k w') :: []) (nx := 5000) (nt := 65) (md := fun _ => false) hN rfl rfl rfl (by (repeat' (first | exact rfl | exact AvIs.refl _ | exact trivial | exact fun _ _ => rfl | exact fun _ _ => ⟨rfl, AvIs.refl _⟩ | refine ⟨?_, ?_⟩))) (by (repeat' (first | exact rfl | exact AvIs.refl _ | exact trivial | exact fun _ _ => rfl | exact fun _ _ => ⟨rfl, AvIs.refl _⟩ | refine ⟨?_, ?_⟩))))
          (Weak.trans (Weak.frozen (k := 700) hN rfl rfl) (Weak.trans (Weak.frozen (k := 219) hN rfl rfl) (Weak.frozen (k := 223) hN rfl rfl)))) ?_
        (first | refine XK.out rfl rfl rfl ?_ | refine XK.outN rfl rfl rfl ?_)
        rfl
theorem startErr_ok (k : K) (hk : kW k) (h : (kValid k).1 ≠ 0) : Does Tryz.prog 37 [kV k] (.tup [nilS, .c (.int .i64 1)]) := by
  refine Does.mk (fun _ => false) TT_ok Tryz.func37 rfl (by kernel_rfl) Tryz.ntmps37 rfl rfl fun E hT hE hN hR => ?_
  have hm : E.P.follows .mixedOrders = true := by rw [hE]; kernel_rfl
  (repeat (first | refine XK.norm rfl rfl ?_ | refine XK.rgnA hT rfl rfl rfl ?_ | refine XK.rgnB hT hm rfl rfl rfl ?_)); refine XK.region ?_; refine XL.goA hT rfl rfl rfl rfl ?_
  refine XL.callLA hE rfl rfl rfl rfl trivial rfl (kValid_ok k hk) rfl ?_
  refine XL.goA hT rfl rfl rfl rfl ?_; refine XL.fin ?_; (repeat (first | refine XK.norm rfl rfl ?_ | refine XK.rgnA hT rfl rfl rfl ?_ | refine XK.rgnB hT hm rfl rfl rfl ?_))
  (repeat (first | refine XK.norm rfl rfl ?_ | refine XK.rgnA hT rfl rfl rfl ?_ | refine XK.rgnB hT hm rfl rfl rfl ?_)); refine XK.cond rfl (fun h1 => ?_) (fun h1 => ?_) <;> (try simp at h1)
  · (repeat (first | refine XK.norm rfl rfl ?_ | refine XK.rgnA hT rfl rfl rfl ?_ | refine XK.rgnB hT hm rfl rfl rfl ?_))
    (first | refine XK.out rfl rfl rfl ?_ | refine XK.outN rfl rfl rfl ?_)
    rfl
  · exact absurd h1 h
noncomputable def startS (k : K) : St × Int := if (kValid k).1 ≠ 0 then (zS, 1) else (outS k (startW k (initW k)), 0)
theorem startS_ok (k : K) (hk : kW k) : Does Tryz.prog 37 [kV k] (sr (startS k)) := by
  have nil (e : Int) : AvS (.tup [nilS, .c (.int .i64 e)]) (sr (zS, e)) := AvS.tup ⟨AvS.agg ⟨AvS.refl _, AvS.nil, AvS.nil, AvS.nil, trivial⟩, AvS.refl _, trivial⟩
  unfold startS
  split
  · rename_i h
    exact (startErr_ok k hk h).weaken (nil 1)
  · rename_i h
    exact (startGo_ok k hk (by simpa using h)).weaken (outS_is k _)
end Go.Proofs.YtofdehlikigonaaGreat
end
section
/- Contracts: the helpers of the statements about layer 15. -/
namespace Go.Proofs.YtofdehlikigonaaGreat
open Go.Eng
set_option maxRecDepth 10000
set_option linter.unusedSimpArgs false
set_option linter.unusedVariables false
theorem getD_memW {α : Type} [Inhabited α] {l : List α} {i : Nat} (h : i < l.length) : l.getD i default ∈ l := by
  rw [List.getD_eq_getElem?_getD, List.getElem?_eq_getElem h]
  exact List.getElem_mem h
def smallQ (k : K) (n : Int) : Bool :=
  if (decide ((20 : Int) < k.holders.length) || decide ((30 : Int) < k.units.length) || decide ((70 : Int) < k.acts.length) || decide (n < k.clauses.length) || decide ((100 : Int) < k.off.length)) = true then false
  else k.clauses.all (fun x => decide (x.start.length ≤ 20))
theorem smallQ_ok (k : K) (n : Int) : Does Tryz.prog 9 [kV k, .c (.int .i64 n)] (.c (.bool (smallQ k n))) := by
  refine Does.mk (fun _ => false) TT_ok Tryz.func9 rfl (by kernel_rfl) Tryz.ntmps9 rfl rfl fun E hT hE hN hR => ?_
  have hm : E.P.follows .mixedOrders = true := by rw [hE]; kernel_rfl
  (repeat (first | refine XK.norm rfl rfl ?_ | refine XK.rgnA hT rfl rfl rfl ?_ | refine XK.rgnB hT hm rfl rfl rfl ?_)); refine XK.cond rfl (fun h1 => ?_) (fun h1 => ?_)
  · (repeat (first | refine XK.norm rfl rfl ?_ | refine XK.rgnA hT rfl rfl rfl ?_ | refine XK.rgnB hT hm rfl rfl rfl ?_))
    (first | refine XK.out rfl rfl rfl ?_ | refine XK.outN rfl rfl rfl ?_)
    simp only [smallQ, if_pos h1]
  · rw [smallQ, if_neg (by rw [h1]; simp)]
    (repeat (first | refine XK.norm rfl rfl ?_ | refine XK.rgnA hT rfl rfl rfl ?_ | refine XK.rgnB hT hm rfl rfl rfl ?_))
    refine XK.loop (ι := Nat) (fun i => ST.of [(2, .ptr 2 0), (4, .c (.bool false)), (5, .c (.int .i64 i))] [(2, .cells 27 (kC k))] 1000 50 (fun _ => false))
      (fun i => i ≤ k.clauses.length ∧ ∀ j, j < i → decide ((k.clauses.getD j default).start.length ≤ 20) = true) (fun i => k.clauses.length - i) 0 ⟨Nat.zero_le _, fun j hj => absurd hj (Nat.not_lt_zero _)⟩
      (Weak.of hN rfl rfl rfl (by (repeat' (first | exact rfl | exact AvIs.refl _ | exact trivial | exact fun _ _ => rfl | exact fun _ _ => ⟨rfl, AvIs.refl _⟩ | refine ⟨?_, ?_⟩))) (by (repeat' (first | exact rfl | exact AvIs.refl _ | exact trivial | exact fun _ _ => rfl | exact fun _ _ => ⟨rfl, AvIs.refl _⟩ | refine ⟨?_, ?_⟩)))) fun i hi => ?_
    obtain ⟨hi1, hi2⟩ := hi
    (repeat (first | refine XK.norm rfl rfl ?_ | refine XK.rgnA hT rfl rfl rfl ?_ | refine XK.rgnB hT hm rfl rfl rfl ?_))
    refine XK.fact (Sat.rs_len (j := 37) rfl) fun hlen => ?_
    have hm' : k.clauses.length ≤ 9223372036854775807 := hlen.1
    (repeat (first | refine XK.norm rfl rfl ?_ | refine XK.rgnA hT rfl rfl rfl ?_ | refine XK.rgnB hT hm rfl rfl rfl ?_)); refine XK.cond rfl (fun hlt => ?_) (fun hlt => ?_) <;> (try simp at hlt)
    · (repeat (first | refine XK.norm rfl rfl ?_ | refine XK.rgnA hT rfl rfl rfl ?_ | refine XK.rgnB hT hm rfl rfl rfl ?_)); refine XK.cond rfl (fun h2 => ?_) (fun h2 => ?_) <;> (try simp at h2)
      · (repeat (first | refine XK.norm rfl rfl ?_ | refine XK.rgnA hT rfl rfl rfl ?_ | refine XK.rgnB hT hm rfl rfl rfl ?_))
        (first | refine XK.out rfl rfl rfl ?_ | refine XK.outN rfl rfl rfl ?_)
        have : k.clauses.all (fun x => decide (x.start.length ≤ 20)) = false := all_not hlt (by simp at h2 ⊢; omega)
        rw [this]
      · (repeat (first | refine XK.norm rfl rfl ?_ | refine XK.rgnA hT rfl rfl rfl ?_ | refine XK.rgnB hT hm rfl rfl rfl ?_))
        refine XK.inv ⟨i + 1, ⟨hlt, fun j hj => ?_⟩, (Weak.of hN rfl rfl rfl (by (repeat' (first | exact rfl | exact AvIs.refl _ | exact trivial | exact fun _ _ => rfl | exact fun _ _ => ⟨rfl, AvIs.refl _⟩ | refine ⟨?_, ?_⟩))) (by (repeat' (first | exact rfl | exact AvIs.refl _ | exact trivial | exact fun _ _ => rfl | exact fun _ _ => ⟨rfl, AvIs.refl _⟩ | refine ⟨?_, ?_⟩)))), by omega⟩
        by_cases h : j = i
        · subst h; simp at h2 ⊢; omega
        · exact hi2 j (by omega)
    · (repeat (first | refine XK.norm rfl rfl ?_ | refine XK.rgnA hT rfl rfl rfl ?_ | refine XK.rgnB hT hm rfl rfl rfl ?_))
      (first | refine XK.out rfl rfl rfl ?_ | refine XK.outN rfl rfl rfl ?_)
      have : k.clauses.all (fun x => decide (x.start.length ≤ 20)) = true := all_at.2 fun j hj => hi2 j (by omega)
      rw [this]
def fewS (s : St) : Bool := decide ((s.holders.length : Int) ≤ 20) && decide ((s.used.length : Int) ≤ 70) && decide ((s.marks.length : Int) ≤ 60)
theorem fewS_ok (s : St) : Does Tryz.prog 11 [stV s] (.c (.bool (fewS s))) := by
  refine Does.mk (fun _ => false) TT_ok Tryz.func11 rfl (by kernel_rfl) Tryz.ntmps11 rfl rfl fun E hT hE hN hR => ?_
  have hm : E.P.follows .mixedOrders = true := by rw [hE]; kernel_rfl
  (repeat (first | refine XK.norm rfl rfl ?_ | refine XK.rgnA hT rfl rfl rfl ?_ | refine XK.rgnB hT hm rfl rfl rfl ?_))
  (first | refine XK.out rfl rfl rfl ?_ | refine XK.outN rfl rfl rfl ?_)
  rfl
def endedM (m : Mk) : Bool := m.status == 3 || m.status == 4 || m.status == 5
theorem ended_ok (m : Mk) : Does Tryz.prog 13 [.agg (mkC m)] (.c (.bool (endedM m))) := by
  refine Does.mk (fun _ => false) TT_ok Tryz.func13 rfl (by kernel_rfl) Tryz.ntmps13 rfl rfl fun E hT hE hN hR => ?_
  have hm : E.P.follows .mixedOrders = true := by rw [hE]; kernel_rfl
  (repeat (first | refine XK.norm rfl rfl ?_ | refine XK.rgnA hT rfl rfl rfl ?_ | refine XK.rgnB hT hm rfl rfl rfl ?_))
  (first | refine XK.out rfl rfl rfl ?_ | refine XK.outN rfl rfl rfl ?_)
  rfl
theorem runsR_ok (m : Mk) : Does Tryz.prog 14 [.agg (mkC m)] (.c (.bool (runsM m))) := by
  refine Does.mk (fun _ => false) TT_ok Tryz.func14 rfl (by kernel_rfl) Tryz.ntmps14 rfl rfl fun E hT hE hN hR => ?_
  have hm : E.P.follows .mixedOrders = true := by rw [hE]; kernel_rfl
  (repeat (first | refine XK.norm rfl rfl ?_ | refine XK.rgnA hT rfl rfl rfl ?_ | refine XK.rgnB hT hm rfl rfl rfl ?_))
  (first | refine XK.out rfl rfl rfl ?_ | refine XK.outN rfl rfl rfl ?_)
  rfl
def countsB (k : K) (x : Cl) (m : Mk) (day : Int) : Bool := if (!runsM m || m.paused) = true then false else !k.off.any (fun d => d == day && x.business)
def fits15B (k : K) (s t : St) : Bool := ((s.marks.length : Int) == k.clauses.length && (s.holders.length : Int) == k.holders.length && (s.used.length : Int) == k.acts.length) && (t.marks.length : Int) == s.marks.length && (t.holders.length : Int) == s.holders.length && (t.used.length : Int) == s.used.length
/-- How far steps are executed: up to the first that is refused. -/
noncomputable def runE (k : K) (l : List Int) : Nat → St × Int
  | 0 => startS k
  | n + 1 => if (runE k l n).2 = 0 then stepS k (runE k l n).1 (l.getD n default) else runE k l n
theorem runE_stop {k : K} {l : List Int} {i : Nat} (h : (runE k l i).2 ≠ 0) : ∀ j, i ≤ j → runE k l j = runE k l i := by
  intro j hj
  induction j with
  | zero => obtain rfl : i = 0 := by omega
            rfl
  | succ j ih =>
    by_cases e : i = j + 1
    · subst e; rfl
    · have := ih (by omega)
      rw [runE, this, if_neg h]
def exS15 : K :=
  { parties := 2, holders := [0, 1], units := [], acts := [⟨1, 0, 0, -1, -1, (0, 1)⟩, ⟨1, 1, 0, -1, -1, (0, 1)⟩],
    clauses := [⟨1, 0, 0, 1, [], 2, 1, false, true, -1, -1, (0, 1), -1, -1, false⟩, ⟨2, 1, 1, 1, [⟨0, 2⟩], 3, 0, false, false, -1, -1, (0, 1), -1, -1, false⟩], days := 9, off := [] }
theorem exS15_W : kW exS15 := by
  simp [kW, exS15, inK, actW, clW, qW, cndW]
theorem ex_a : runE exS15 [] 0 = (⟨0, [0, 1], [false, false], [⟨1, 2, 0, 0, false⟩, ⟨0, 0, 0, -1, false⟩]⟩, 0) := by kernel_rfl
theorem ex_b : runE exS15 [0] 1 = (⟨0, [0, 1], [false, false], [⟨3, 0, 1, 0, false⟩, ⟨1, 3, 0, 1, false⟩]⟩, 0) := by kernel_rfl
theorem ex_d : runE exS15 [-1, -1] 2 = (⟨2, [0, 1], [false, false], [⟨2, 1, 0, 0, false⟩, ⟨0, 0, 0, -1, false⟩]⟩, 0) := by kernel_rfl
theorem ex_k : runE exS15 [-1, -1, -1] 3 = (⟨3, [0, 1], [false, false], [⟨4, 0, 0, 0, false⟩, ⟨0, 0, 0, -1, false⟩]⟩, 0) := by kernel_rfl
theorem ex_m : runE exS15 [0, 1] 2 = (⟨0, [0, 1], [false, false], [⟨3, 0, 1, 0, false⟩, ⟨4, 0, 0, 1, false⟩]⟩, 0) := by kernel_rfl
def eA : St := ⟨0, [0, 1], [false, false], [⟨1, 2, 0, 0, false⟩, ⟨0, 0, 0, -1, false⟩]⟩
def eB : St := ⟨0, [0, 1], [false, false], [⟨3, 0, 1, 0, false⟩, ⟨1, 3, 0, 1, false⟩]⟩
def eD : St := ⟨2, [0, 1], [false, false], [⟨2, 1, 0, 0, false⟩, ⟨0, 0, 0, -1, false⟩]⟩
def eK : St := ⟨3, [0, 1], [false, false], [⟨4, 0, 0, 0, false⟩, ⟨0, 0, 0, -1, false⟩]⟩
def eM : St := ⟨0, [0, 1], [false, false], [⟨3, 0, 1, 0, false⟩, ⟨4, 0, 0, 1, false⟩]⟩
end Go.Proofs.YtofdehlikigonaaGreat
end
section
/- The law SystemStates. -/
namespace Go.Proofs.YtofdehlikigonaaGreat
open Go.Eng
set_option maxRecDepth 10000
set_option linter.unusedSimpArgs false
set_option linter.unusedVariables false
section
variable {k : K} {w : Wk} {i : Nat}
theorem outS_mark (hi : i < k.clauses.length) : (outS k w).marks.getD i default = w.mark i := map_getD _ hi
theorem outS_hold (hi : i < k.holders.length) : (outS k w).holders.getD i default = w.hold i := map_getD _ hi
theorem outS_used (hi : i < k.acts.length) : (outS k w).used.getD i default = w.used i := map_getD _ hi
end
theorem rdyB_congr {k : K} (hk : KFacts k) {mk mk' : Nat → Mk} (h : ∀ j, j < k.clauses.length → mk j = mk' j) {i : Nat} (hi : i < k.clauses.length) : rdyB k mk i = rdyB k mk' i := by
  unfold rdyB
  rw [h i hi]
  have : (clAt k i).start.all (condHB mk) = (clAt k i).start.all (condHB mk') := by
    rw [Bool.eq_iff_iff, List.all_eq_true, List.all_eq_true]
    have key : ∀ c ∈ (clAt k i).start, condHB mk c = condHB mk' c := fun c hc => by
      have := hk.cond hi hc
      unfold condHB
      rw [h c.clause.toNat (by omega)]
    constructor <;> intro h c hc
    · rw [← key c hc]; exact h c hc
    · rw [key c hc]; exact h c hc
  rw [this]
theorem validS_of {k : K} (hk : kW k) (h0 : (kValid k).1 = 0) {w : Wk} (hw : WOk k w) : validS k (outS k w) = true := by
  have hF := (show kOk k from ⟨hk, h0⟩).facts
  unfold validS
  rw [if_neg (by simpa using h0), if_neg (by rw [show decide ((outS k w).day < 0) = false from decide_eq_false (by show ¬ w.day < 0; have := hw.day; omega), show decide (k.days < (outS k w).day) = false from decide_eq_false (by show ¬ k.days < w.day; have := hw.day; omega)]; simp [outS]), if_neg, if_neg]
  · refine rall.2 fun i hi => ?_
    have hi : i < k.clauses.length := by simpa [outS] using hi
    rw [outS_mark hi, hw.mark i hi, rdyB_congr hF (mk := (outS k w).wk.mark) (mk' := w.mark) (fun j hj => outS_mark hj) hi, hw.rdy i hi]
    rfl
  · rw [Bool.not_eq_false]
    refine rall.2 fun i hi => ?_
    have hi : i < k.acts.length := by simpa [outS] using hi
    rw [outS_used hi]
    cases hu : w.used i with
    | false => rfl
    | true => have := hw.used i hi hu; simpa using this
  · rw [Bool.not_eq_false]
    refine all_at.2 fun i hi => ?_
    have hi : i < k.holders.length := by simpa [outS] using hi
    rw [outS_hold hi]
    have := hw.hold i hi
    simp; omega
theorem held_at {k : K} (hk : KFacts k) : ∀ i, i < k.holders.length → 0 ≤ k.holders.getD i default ∧ k.holders.getD i default < k.parties := fun i hi => by
  have := all_at.1 hk.held i hi
  simp only [Bool.and_eq_true, decide_eq_true_eq] at this
  exact this
theorem startS_zero {k : K} (hk : kW k) (h : (startS k).2 = 0) : (kValid k).1 = 0 ∧ validS k (startS k).1 = true ∧ (startS k).1.day = 0 := by
  unfold startS at h ⊢
  split at h
  · cases h
  · rename_i h1
    have h1 : (kValid k).1 = 0 := by simpa using h1
    have hF := (show kOk k from ⟨hk, h1⟩).facts
    rw [if_neg (by simpa using h1)]
    exact ⟨h1, validS_of hk h1 (initW_keep hF (held_at hF)), (startW_spec k (initW k)).1.day⟩
theorem startS_err {k : K} {s : St} (h : (startS k).2 ≠ 0) : (startS k).2 = 1 ∧ validS k s = false := by
  unfold startS at h ⊢
  split at h
  · rename_i h1
    rw [if_pos h1]
    exact ⟨rfl, by unfold validS; rw [if_pos h1]⟩
  · exact absurd rfl h
/-- What a step answers. -/
theorem stepS_cases {k : K} (hk : kW k) (s : St) (t : Int) : ((validS k s = false ∨ t < -1 ∨ (k.acts.length : Int) ≤ t) ∧ stepS k s t = (zS, 1)) ∨
    ((validS k s = true ∧ -1 ≤ t ∧ t < k.acts.length) ∧ s.day = k.days ∧ stepS k s t = (zS, 13)) ∨
    ((validS k s = true ∧ -1 ≤ t ∧ t < k.acts.length) ∧ s.day ≠ k.days ∧ stepS k s t = (outS k (stepW k s.wk t), 0) ∧ WOk k (stepW k s.wk t)) := by
  unfold stepS
  split
  · rename_i h
    simp only [Bool.or_eq_true, Bool.not_eq_true', decide_eq_true_eq] at h
    exact .inl ⟨by rcases h with (h | h) | h <;> simp [h], rfl⟩
  · rename_i h
    simp only [Bool.or_eq_true, Bool.not_eq_true', decide_eq_true_eq, not_or, Bool.not_eq_false] at h
    obtain ⟨⟨h1, h2⟩, h3⟩ := h
    split
    · rename_i h4
      exact .inr (.inl ⟨⟨h1, by omega, by omega⟩, h4, rfl⟩)
    · rename_i h4
      have hl := validS_len h1
      have hF := (show kOk k from ⟨hk, hl.1⟩).facts
      exact .inr (.inr ⟨⟨h1, by omega, by omega⟩, h4, rfl, stepW_keep hF (validS_W h1) ⟨by omega, by omega⟩ (by show s.day < k.days; omega)⟩)
end Go.Proofs.YtofdehlikigonaaGreat
end
