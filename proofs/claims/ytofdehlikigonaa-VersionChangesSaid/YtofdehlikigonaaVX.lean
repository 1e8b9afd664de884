/- The law VersionChanges: the walk. -/
import Derived.Test.YtofdehlikigonaaVW
namespace Go.Proofs.Ytofdehlikigonaa
open Go.Eng
set_option maxRecDepth 10000
set_option linter.unusedSimpArgs false
set_option linter.unusedVariables false
theorem daysR_lenC {k : K} (hk : kW k) {l : List Am} (hl : amsOk l) (known : Int) (hv : (kValid k).1 = 0) : (finD (stD l k known l.length)).days.length ≤ l.length + 1 := (finD_W (stD_W hl hk hv l.length (Nat.le_refl _))).d
theorem force_onDay (k : K) (l : List Am) (day known : Int) : (forceF k l day known).1 = onDay k (knownA l known) day := force_val k l day known
set_option maxHeartbeats 1000000 in
theorem lawVG (k : K) (hk : kW k) (l : List Am) (hl : ∀ a ∈ l, amW a) (day known : Int) : Does Try.prog 8 [kV k, amsV l, .c (.int .i64 day), .c (.int .i64 known)] (.c (.bool true)) := by
  refine Does.mk (fun _ => false) TT_ok Try.func8 rfl (by kernel_rfl) Try.ntmps8 rfl rfl fun E hT hE hN hR => ?_
  have hm : E.P.follows .mixedOrders = true := by rw [hE]; kernel_rfl
  refine XK.fact (Sat.rs_len (j := 1) rfl) fun hlen => ?_
  have hm1 : l.length ≤ 9223372036854775807 := hlen.1
  (repeat (first | refine XK.norm rfl rfl ?_ | refine XK.rgnA hT rfl rfl rfl ?_ | refine XK.rgnB hT hm rfl rfl rfl ?_)); refine XK.region ?_; refine XL.goA hT rfl rfl rfl rfl ?_
  refine XL.callLA hE rfl rfl rfl rfl trivial rfl (head25_ok) rfl ?_
  refine XL.goA hT rfl rfl rfl rfl ?_; refine XL.fin ?_; (repeat (first | refine XK.norm rfl rfl ?_ | refine XK.rgnA hT rfl rfl rfl ?_ | refine XK.rgnB hT hm rfl rfl rfl ?_))
  (repeat (first | refine XK.norm rfl rfl ?_ | refine XK.rgnA hT rfl rfl rfl ?_ | refine XK.rgnB hT hm rfl rfl rfl ?_)); refine XK.region ?_; refine XL.goA hT rfl rfl rfl rfl ?_
  refine XL.callLA hE rfl rfl rfl rfl trivial rfl (small25_ok k l hm1) rfl ?_
  refine XL.goA hT rfl rfl rfl rfl ?_; refine XL.fin ?_; (repeat (first | refine XK.norm rfl rfl ?_ | refine XK.rgnA hT rfl rfl rfl ?_ | refine XK.rgnB hT hm rfl rfl rfl ?_))
  (repeat (first | refine XK.norm rfl rfl ?_ | refine XK.rgnA hT rfl rfl rfl ?_ | refine XK.rgnB hT hm rfl rfl rfl ?_)); refine XK.cond rfl (fun h1 => ?_) (fun h1 => ?_) <;> (try simp at h1)
  · (repeat (first | refine XK.norm rfl rfl ?_ | refine XK.rgnA hT rfl rfl rfl ?_ | refine XK.rgnB hT hm rfl rfl rfl ?_))
    (first | refine XK.out rfl rfl rfl ?_ | refine XK.outN rfl rfl rfl ?_)
    rfl
  have hsm : small25B k l = true := by cases h : small25B k l <;> simp_all
  obtain ⟨hB, hl12, ha⟩ := small25_facts hsm
  have hok := amsOk_of hl ha
  have c1 := days_ok k hk l hok known
  have c2 := inForce_ok k hk l hok day known
  have hc := checkV_small (k := k) (l := l) (show l.length ≤ 60 by omega)
  rw [inForceR_small (by omega)] at c2
  unfold daysR at c1
  rw [hc] at c1
  by_cases hv : (kValid k).1 = 0
  · rw [if_neg (by simpa using hv)] at c2
    rw [if_neg (by simpa using hv)] at c1
    dsimp only at c1 c2
    have hF := days_fin k l known
    have hDl := daysR_lenC hk hok known hv
    have hV : ∀ d, (forceF k l d known).1 = onDay k (knownA l known) d := fun d => force_onDay k l d known
    have hB' : ∀ d, KB (onDay k (knownA l known) d) := fun d => by rw [← hV d]; exact force_KB hB hk hv hl
    have c3 : ∀ d, Does Try.prog 12 [kV k, amsV l, .c (.int .i64 d), .c (.int .i64 known)] (.tup [kV (onDay k (knownA l known) d), intsV (forceF k l d known).2, .c (.int .i64 0)]) := fun d => by
      have h := inForce_ok k hk l hok d known
      rw [inForceR_small (by omega), if_neg (by simpa using hv)] at h
      rw [← hV d]; exact h
    have c2 := c3 day
    have hnew := fun i hi => hF.new (i := i) hi
    have hlast := fun i hi => hF.at_lt (i := i - 1) (j := i) hi
    have hall := hF.now_all day
    generalize (finD (stD l k known l.length)).days = D at *
    generalize hP : knownA l known = P at *
    (repeat (first | refine XK.norm rfl rfl ?_ | refine XK.rgnA hT rfl rfl rfl ?_ | refine XK.rgnB hT hm rfl rfl rfl ?_)); refine XK.region ?_; refine XL.goA hT rfl rfl rfl rfl ?_
    refine XL.callKA hE rfl rfl rfl rfl trivial rfl rfl (c1) ?_
    refine XL.goA hT rfl rfl rfl rfl ?_; refine XL.fin ?_; (repeat (first | refine XK.norm rfl rfl ?_ | refine XK.rgnA hT rfl rfl rfl ?_ | refine XK.rgnB hT hm rfl rfl rfl ?_))
    (repeat (first | refine XK.norm rfl rfl ?_ | refine XK.rgnA hT rfl rfl rfl ?_ | refine XK.rgnB hT hm rfl rfl rfl ?_)); refine XK.region ?_; refine XL.goA hT rfl rfl rfl rfl ?_
    refine XL.callKA hE rfl rfl rfl rfl trivial rfl rfl (c2) ?_
    refine XL.goA hT rfl rfl rfl rfl ?_; refine XL.fin ?_; (repeat (first | refine XK.norm rfl rfl ?_ | refine XK.rgnA hT rfl rfl rfl ?_ | refine XK.rgnB hT hm rfl rfl rfl ?_))
    (repeat (first | refine XK.norm rfl rfl ?_ | refine XK.rgnA hT rfl rfl rfl ?_ | refine XK.rgnB hT hm rfl rfl rfl ?_)); refine XK.cond rfl (fun h3 => ?_) (fun h3 => ?_)
    · cases h3
    clear h3
    (repeat (first | refine XK.norm rfl rfl ?_ | refine XK.rgnA hT rfl rfl rfl ?_ | refine XK.rgnB hT hm rfl rfl rfl ?_))
    refine XK.loop (ι := Nat) (fun i => ST.of [(1, amsV l), (2, .c (.int .i64 day)), (3, .c (.int .i64 known)), (4, .ptr 4 0), (9, .c (.bool true)), (10, intsV D), (12, .ptr 476 0), (15, .ptr 711 0), (16, .ptr 828 0), (17, .c (.int .i64 i))]
        [(4, .cells 41 (kC k)), (476, .cells 41 (kC (onDay k P day))), (711, .cells 41 (kC (lastF k P D i))), (828, .cells 41 (kC (nowF k P D day i)))] 2000 116 (fun _ => false))
      (fun i => i ≤ D.length) (fun i => D.length - i) 0 (Nat.zero_le _) (Weak.of hN rfl rfl rfl (by (repeat' (first | exact rfl | exact AvIs.refl _ | exact trivial | exact fun _ _ => rfl | exact fun _ _ => ⟨rfl, AvIs.refl _⟩ | refine ⟨?_, ?_⟩))) (by (repeat' (first | exact rfl | exact AvIs.refl _ | exact trivial | exact fun _ _ => rfl | exact fun _ _ => ⟨rfl, AvIs.refl _⟩ | refine ⟨?_, ?_⟩)))) fun i hi => ?_
    (repeat (first | refine XK.norm rfl rfl ?_ | refine XK.rgnA hT rfl rfl rfl ?_ | refine XK.rgnB hT hm rfl rfl rfl ?_)); refine XK.cond rfl (fun hlt => ?_) (fun hlt => ?_) <;> (try simp at hlt)
    · have hlast := hlast i
      have hnew := hnew i hlt
      have cI := c3 (D.getD i default)
      have hBl : KB (lastF k P D i) := by
        cases i with
        | zero => exact hB
        | succ i => exact hB' _
      have cS := same13_ok (onDay k P (D.getD i default)) (lastF k P D i) (hB' _)
      have fx : D.getD (i : Int).toNat default = D.getD i default := rfl
      have hsl : lastF k P D (i + 1) = onDay k P (D.getD i default) := rfl
      have hsn : nowF k P D day (i + 1) = if D.getD i default ≤ day then onDay k P (D.getD i default) else nowF k P D day i := rfl
      have hsr : sameR (onDay k P (D.getD i default)) (lastF k P D i) = false := by rw [Bool.eq_false_iff]; exact fun h => hnew ((sameR_iff _ _).1 h)
      rw [hsr] at cS
      generalize lastF k P D i = la at *
      generalize nowF k P D day i = nw at *
      (repeat (first | refine XK.norm rfl rfl ?_ | refine XK.rgnA hT rfl rfl rfl ?_ | refine XK.rgnB hT hm rfl rfl rfl ?_)); refine XK.cond rfl (fun h4 => ?_) (fun h4 => ?_)
      · exfalso
        simp only [Bool.and_eq_true, decide_eq_true_eq] at h4
        obtain ⟨g1, g2⟩ := h4
        have hmx : (bif true then (if (i : Int) - 1 < 0 then (0 : Int) else (i : Int) - 1) else if (0 : Int) < (i : Int) - 1 then 0 else (i : Int) - 1) = ((i - 1 : Nat) : Int) := by
          rw [cond_true, if_neg (by omega)]; omega
        rw [hmx, fx, show D.getD ((i - 1 : Nat) : Int).toNat default = D.getD (i - 1) default from rfl] at g2
        have := hlast (by omega) hlt
        omega
      clear h4
      (repeat (first | refine XK.norm rfl rfl ?_ | refine XK.rgnA hT rfl rfl rfl ?_ | refine XK.rgnB hT hm rfl rfl rfl ?_)); refine XK.drawn hm ?_; refine XD.goA hT rfl rfl rfl rfl ?_
      rw [fx]
      refine XD.callKA hE rfl rfl rfl rfl trivial rfl rfl (cI) ?_
      refine XD.goA hT rfl rfl rfl rfl ?_; refine XD.fin (by kernel_rfl) ?_; (repeat (first | refine XK.norm rfl rfl ?_ | refine XK.rgnA hT rfl rfl rfl ?_ | refine XK.rgnB hT hm rfl rfl rfl ?_))
      refine XK.weak (st' := ST.of [(1, amsV l), (2, .c (.int .i64 day)), (3, .c (.int .i64 known)), (4, .ptr 4 0), (9, .c (.bool true)), (10, intsV D), (12, .ptr 476 0), (15, .ptr 711 0), (16, .ptr 828 0), (17, .c (.int .i64 i)), (18, .ptr 2250 0), (20, .c (.int .i64 0))]
        [(4, .cells 41 (kC k)), (476, .cells 41 (kC (onDay k P day))), (711, .cells 41 (kC la)), (828, .cells 41 (kC nw)), (2250, .cells 41 (kC (onDay k P (D.getD i default))))] 3000 116 (fun _ => false)) (Weak.of hN rfl rfl rfl (by (repeat' (first | exact rfl | exact AvIs.refl _ | exact trivial | exact fun _ _ => rfl | exact fun _ _ => ⟨rfl, AvIs.refl _⟩ | refine ⟨?_, ?_⟩))) (by (repeat' (first | exact rfl | exact AvIs.refl _ | exact trivial | exact fun _ _ => rfl | exact fun _ _ => ⟨rfl, AvIs.refl _⟩ | refine ⟨?_, ?_⟩)))) ?_
      (repeat (first | refine XK.norm rfl rfl ?_ | refine XK.rgnA hT rfl rfl rfl ?_ | refine XK.rgnB hT hm rfl rfl rfl ?_)); refine XK.region ?_; refine XL.goA hT rfl rfl rfl rfl ?_
      refine XL.callGA hE rfl rfl rfl rfl rfl rfl rfl rfl (cS) rfl ?_
      refine XL.goA hT rfl rfl rfl rfl ?_; refine XL.fin ?_; (repeat (first | refine XK.norm rfl rfl ?_ | refine XK.rgnA hT rfl rfl rfl ?_ | refine XK.rgnB hT hm rfl rfl rfl ?_))
      (repeat (first | refine XK.norm rfl rfl ?_ | refine XK.rgnA hT rfl rfl rfl ?_ | refine XK.rgnB hT hm rfl rfl rfl ?_)); refine XK.cond rfl (fun h5 => ?_) (fun h5 => ?_)
      · cases h5
      clear h5
      (repeat (first | refine XK.norm rfl rfl ?_ | refine XK.rgnA hT rfl rfl rfl ?_ | refine XK.rgnB hT hm rfl rfl rfl ?_))
      rw [fx]
      (repeat (first | refine XK.norm rfl rfl ?_ | refine XK.rgnA hT rfl rfl rfl ?_ | refine XK.rgnB hT hm rfl rfl rfl ?_)); refine XK.cond rfl (fun h6 => ?_) (fun h6 => ?_)
      · (repeat (first | refine XK.norm rfl rfl ?_ | refine XK.rgnA hT rfl rfl rfl ?_ | refine XK.rgnB hT hm rfl rfl rfl ?_))
        have h6 : D.getD i default ≤ day := by simpa using h6
        refine XK.inv ⟨i + 1, by omega, ?_, by omega⟩
        rw [hsl, hsn, if_pos h6]
        exact (Weak.of hN rfl rfl rfl (by (repeat' (first | exact rfl | exact AvIs.refl _ | exact trivial | exact fun _ _ => rfl | exact fun _ _ => ⟨rfl, AvIs.refl _⟩ | refine ⟨?_, ?_⟩))) (by (repeat' (first | exact rfl | exact AvIs.refl _ | exact trivial | exact fun _ _ => rfl | exact fun _ _ => ⟨rfl, AvIs.refl _⟩ | refine ⟨?_, ?_⟩))))
      · (repeat (first | refine XK.norm rfl rfl ?_ | refine XK.rgnA hT rfl rfl rfl ?_ | refine XK.rgnB hT hm rfl rfl rfl ?_))
        have h6 : ¬ D.getD i default ≤ day := by simpa using h6
        refine XK.inv ⟨i + 1, by omega, ?_, by omega⟩
        rw [hsl, hsn, if_neg h6]
        exact (Weak.of hN rfl rfl rfl (by (repeat' (first | exact rfl | exact AvIs.refl _ | exact trivial | exact fun _ _ => rfl | exact fun _ _ => ⟨rfl, AvIs.refl _⟩ | refine ⟨?_, ?_⟩))) (by (repeat' (first | exact rfl | exact AvIs.refl _ | exact trivial | exact fun _ _ => rfl | exact fun _ _ => ⟨rfl, AvIs.refl _⟩ | refine ⟨?_, ?_⟩))))
    · have hie : i = D.length := by omega
      subst hie
      rw [hall]
      have c5 := same13_ok (onDay k P day) (onDay k P day) (hB' _)
      rw [sameR_self] at c5
      generalize onDay k P day = o at *
      (repeat (first | refine XK.norm rfl rfl ?_ | refine XK.rgnA hT rfl rfl rfl ?_ | refine XK.rgnB hT hm rfl rfl rfl ?_)); refine XK.region ?_; refine XL.goA hT rfl rfl rfl rfl ?_
      refine XL.callGA hE rfl rfl rfl rfl rfl rfl rfl rfl (c5) rfl ?_
      refine XL.goA hT rfl rfl rfl rfl ?_; refine XL.fin ?_; (repeat (first | refine XK.norm rfl rfl ?_ | refine XK.rgnA hT rfl rfl rfl ?_ | refine XK.rgnB hT hm rfl rfl rfl ?_))
      (first | refine XK.out rfl rfl rfl ?_ | refine XK.outN rfl rfl rfl ?_)
      rfl
  · rw [if_pos hv] at c2
    rw [if_pos hv, if_pos (by decide)] at c1
    (repeat (first | refine XK.norm rfl rfl ?_ | refine XK.rgnA hT rfl rfl rfl ?_ | refine XK.rgnB hT hm rfl rfl rfl ?_)); refine XK.region ?_; refine XL.goA hT rfl rfl rfl rfl ?_
    refine XL.callKA hE rfl rfl rfl rfl trivial rfl rfl (c1) ?_
    refine XL.goA hT rfl rfl rfl rfl ?_; refine XL.fin ?_; (repeat (first | refine XK.norm rfl rfl ?_ | refine XK.rgnA hT rfl rfl rfl ?_ | refine XK.rgnB hT hm rfl rfl rfl ?_))
    (repeat (first | refine XK.norm rfl rfl ?_ | refine XK.rgnA hT rfl rfl rfl ?_ | refine XK.rgnB hT hm rfl rfl rfl ?_)); refine XK.region ?_; refine XL.goA hT rfl rfl rfl rfl ?_
    refine XL.callKA hE rfl rfl rfl rfl trivial rfl rfl (c2) ?_
    refine XL.goA hT rfl rfl rfl rfl ?_; refine XL.fin ?_; (repeat (first | refine XK.norm rfl rfl ?_ | refine XK.rgnA hT rfl rfl rfl ?_ | refine XK.rgnB hT hm rfl rfl rfl ?_))
    (repeat (first | refine XK.norm rfl rfl ?_ | refine XK.rgnA hT rfl rfl rfl ?_ | refine XK.rgnB hT hm rfl rfl rfl ?_)); refine XK.cond rfl (fun h3 => ?_) (fun h3 => ?_)
    · (repeat (first | refine XK.norm rfl rfl ?_ | refine XK.rgnA hT rfl rfl rfl ?_ | refine XK.rgnB hT hm rfl rfl rfl ?_))
      (first | refine XK.out rfl rfl rfl ?_ | refine XK.outN rfl rfl rfl ?_)
      rfl
    · cases h3
end Go.Proofs.Ytofdehlikigonaa
