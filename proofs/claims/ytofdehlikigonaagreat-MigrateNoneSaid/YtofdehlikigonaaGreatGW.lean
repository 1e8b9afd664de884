/- Contracts: package validate: Run. -/
import Derived.Test.YtofdehlikigonaaGreatH8
namespace Go.Proofs.YtofdehlikigonaaGreat
open Go.Eng
set_option maxRecDepth 10000
set_option linter.unusedSimpArgs false
set_option linter.unusedVariables false
/-- The states of a run, after the first steps. -/
noncomputable def runL (k : K) (l : List Int) (i : Nat) : List St := (List.range (i + 1)).map (fun j => (runE k l j).1)
/-- What validate.Run returns. -/
noncomputable def vrunR (k : K) (l : List Int) : List St × Int :=
  if (startS k).2 ≠ 0 then ([], (startS k).2) else if 4000 < l.length then ([], 3) else if (runE k l l.length).2 ≠ 0 then ([], (runE k l l.length).2)
  else (runL k l l.length, 0)
theorem runE_before {k : K} {l : List Int} {i : Nat} (h : (runE k l i).2 = 0) : ∀ j, j ≤ i → (runE k l j).2 = 0 := fun j hj => by
  by_cases h0 : (runE k l j).2 = 0
  · exact h0
  · rw [runE_stop h0 i hj] at h; exact absurd h h0
set_option maxHeartbeats 1000000 in
theorem vrun_ok (k : K) (hk : kW k) (l : List Int) : Does Tryz.prog 20 [kV k, intsV l] (.tup [stsV (vrunR k l).1, .c (.int .i64 (vrunR k l).2)]) := by
  have hs := startS_ok k hk
  unfold vrunR
  have h00 : (runE k l 0) = startS k := rfl
  refine Does.mk (fun d => Nat.beq d 23) TT_ok Tryz.func20 rfl (by kernel_rfl) Tryz.ntmps20 rfl rfl fun E hT hE hN hR => ?_
  have hm : E.P.follows .mixedOrders = true := by rw [hE]; kernel_rfl
  refine XK.fact (Sat.rs_len (j := 1) rfl) fun hlen => ?_
  have hm' : l.length ≤ 9223372036854775807 := hlen.1
  (repeat (first | refine XK.norm rfl rfl ?_ | refine XK.rgnA hT rfl rfl rfl ?_ | refine XK.rgnB hT hm rfl rfl rfl ?_))
  generalize hq : startS k = s0 at *
  (repeat (first | refine XK.norm rfl rfl ?_ | refine XK.rgnA hT rfl rfl rfl ?_ | refine XK.rgnB hT hm rfl rfl rfl ?_)); refine XK.region ?_; refine XL.goA hT rfl rfl rfl rfl ?_
  refine XL.callKA hE rfl rfl rfl rfl trivial rfl rfl (hs) ?_
  refine XL.goA hT rfl rfl rfl rfl ?_; refine XL.fin ?_; (repeat (first | refine XK.norm rfl rfl ?_ | refine XK.rgnA hT rfl rfl rfl ?_ | refine XK.rgnB hT hm rfl rfl rfl ?_))
  (repeat (first | refine XK.norm rfl rfl ?_ | refine XK.rgnA hT rfl rfl rfl ?_ | refine XK.rgnB hT hm rfl rfl rfl ?_)); refine XK.cond rfl (fun h1 => ?_) (fun h1 => ?_) <;> (try simp at h1)
  · rw [if_pos h1]
    (repeat (first | refine XK.norm rfl rfl ?_ | refine XK.rgnA hT rfl rfl rfl ?_ | refine XK.rgnB hT hm rfl rfl rfl ?_))
    refine XK.outL rfl rfl rfl ⟨⟨rfl, rfl⟩, rfl⟩
  rw [if_neg (by simpa using h1)]
  (repeat (first | refine XK.norm rfl rfl ?_ | refine XK.rgnA hT rfl rfl rfl ?_ | refine XK.rgnB hT hm rfl rfl rfl ?_)); refine XK.cond rfl (fun h2 => ?_) (fun h2 => ?_) <;> (try simp at h2)
  · rw [if_pos (by omega)]
    (repeat (first | refine XK.norm rfl rfl ?_ | refine XK.rgnA hT rfl rfl rfl ?_ | refine XK.rgnB hT hm rfl rfl rfl ?_))
    refine XK.outL rfl rfl rfl ⟨⟨rfl, rfl⟩, rfl⟩
  rw [if_neg (by omega)]
  (repeat (first | refine XK.norm rfl rfl ?_ | refine XK.rgnA hT rfl rfl rfl ?_ | refine XK.rgnB hT hm rfl rfl rfl ?_))
  refine XK.loop (ι := Nat) (fun i => ST.of [(2, .ptr 2 0), (6, .ptr 52 0), (8, .vec 207 0), (24, intsV l), (25, .c (.int .i64 l.length)), (26, .c (.int .i64 i))] [(2, .cells 27 (kC k)), (52, .cells 38 (stC (runE k l i).1)), (207, .vec 38 4 0 (runL k l i).length (fun j => stC ((runL k l i).getD j default)))] 1000 46 (fun d => Nat.beq d 23))
    (fun i => i ≤ l.length ∧ (runE k l i).2 = 0) (fun i => l.length - i) 0 ⟨Nat.zero_le _, by rw [h00]; exact h1⟩
    (Weak.of hN rfl rfl rfl (by (repeat' (first | exact rfl | exact AvIs.refl _ | exact trivial | exact fun _ _ => rfl | exact fun _ _ => ⟨rfl, AvIs.refl _⟩ | refine ⟨?_, ?_⟩))) ⟨by (repeat' (first | exact rfl | exact AvIs.refl _ | exact trivial | exact fun _ _ => rfl | exact fun _ _ => ⟨rfl, AvIs.refl _⟩ | refine ⟨?_, ?_⟩)), ⟨rfl, by rw [h00]; rfl⟩, ⟨⟨rfl, rfl, rfl⟩, rfl, fun j hj => by cases Nat.lt_one_iff.1 hj; show stC ((runL k l 0).getD 0 default) = _; rw [show (runL k l 0).getD 0 default = (runE k l 0).1 from rfl, h00]; rfl⟩⟩) fun i hi => ?_
  obtain ⟨hi, hz⟩ := hi
  (repeat (first | refine XK.norm rfl rfl ?_ | refine XK.rgnA hT rfl rfl rfl ?_ | refine XK.rgnB hT hm rfl rfl rfl ?_)); refine XK.cond rfl (fun hlt => ?_) (fun hlt => ?_) <;> (try simp at hlt)
  · have fl : l.getD (i : Int).toNat default = l.getD i default := rfl
    have hn : runE k l (i + 1) = stepS k (runE k l i).1 (l.getD i default) := by show (if _ then _ else _) = _; rw [if_pos hz]
    have hst := fun (h : (runE k l (i + 1)).2 ≠ 0) => runE_stop h l.length (by omega)
    have hsn : runL k l (i + 1) = runL k l i ++ [(runE k l (i + 1)).1] := by unfold runL; rw [List.range_succ, List.map_append]; rfl
    have hln : (runL k l i).length = i + 1 := by simp [runL]
    have h2s := stepS_ok k hk (runE k l i).1 (l.getD i default)
    rw [← hn] at h2s
    generalize hL2 : runL k l (i + 1) = L2 at *
    generalize runL k l i = L at *
    generalize hr2 : runE k l (i + 1) = r2 at *
    generalize runE k l i = r at *
    (repeat (first | refine XK.norm rfl rfl ?_ | refine XK.rgnA hT rfl rfl rfl ?_ | refine XK.rgnB hT hm rfl rfl rfl ?_))
    rw [fl]
    (repeat (first | refine XK.norm rfl rfl ?_ | refine XK.rgnA hT rfl rfl rfl ?_ | refine XK.rgnB hT hm rfl rfl rfl ?_)); refine XK.region ?_; refine XL.goA hT rfl rfl rfl rfl ?_
    refine XL.callKA hE rfl rfl rfl rfl trivial rfl rfl (h2s) ?_
    refine XL.goA hT rfl rfl rfl rfl ?_; refine XL.fin ?_; (repeat (first | refine XK.norm rfl rfl ?_ | refine XK.rgnA hT rfl rfl rfl ?_ | refine XK.rgnB hT hm rfl rfl rfl ?_))
    (repeat (first | refine XK.norm rfl rfl ?_ | refine XK.rgnA hT rfl rfl rfl ?_ | refine XK.rgnB hT hm rfl rfl rfl ?_)); refine XK.cond rfl (fun h5 => ?_) (fun h5 => ?_) <;> (try simp at h5)
    · rw [hst h5, if_pos h5]
      (repeat (first | refine XK.norm rfl rfl ?_ | refine XK.rgnA hT rfl rfl rfl ?_ | refine XK.rgnB hT hm rfl rfl rfl ?_))
      refine XK.outL rfl rfl rfl ⟨⟨rfl, rfl⟩, rfl⟩
    · (repeat (first | refine XK.norm rfl rfl ?_ | refine XK.rgnA hT rfl rfl rfl ?_ | refine XK.rgnB hT hm rfl rfl rfl ?_))
      refine XK.inv ⟨i + 1, ⟨hlt, by rw [hr2]; exact h5⟩, ?_, by omega⟩
      rw [hr2, hL2, hsn, len_snoc]
      exact Weak.trans (Weak.stamp (k := 207) (t := 0) hN rfl rfl) (Weak.of hN rfl rfl rfl (by (repeat' (first | exact rfl | exact AvIs.refl _ | exact trivial | exact fun _ _ => rfl | exact fun _ _ => ⟨rfl, AvIs.refl _⟩ | refine ⟨?_, ?_⟩))) ⟨by (repeat' (first | exact rfl | exact AvIs.refl _ | exact trivial | exact fun _ _ => rfl | exact fun _ _ => ⟨rfl, AvIs.refl _⟩ | refine ⟨?_, ?_⟩)), by (repeat' (first | exact rfl | exact AvIs.refl _ | exact trivial | exact fun _ _ => rfl | exact fun _ _ => ⟨rfl, AvIs.refl _⟩ | refine ⟨?_, ?_⟩)), ⟨rfl, rfl, rfl⟩, rfl, row_snoc stC L r2.1 _ rfl⟩)
  · have hie : i = l.length := by omega
    subst hie
    rw [if_neg (by simpa using hz)]
    generalize runL k l l.length = L at *
    refine XK.weak (Weak.frozen (k := 207) hN rfl rfl) ?_
    (repeat (first | refine XK.norm rfl rfl ?_ | refine XK.rgnA hT rfl rfl rfl ?_ | refine XK.rgnB hT hm rfl rfl rfl ?_))
    (first | refine XK.out rfl rfl rfl ?_ | refine XK.outN rfl rfl rfl ?_)
    rfl
end Go.Proofs.YtofdehlikigonaaGreat
