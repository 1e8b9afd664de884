/- The law MigrateNone. -/
import Derived.Test.YtofdehlikigonaaGreatH9
import Derived.Test.YtofdehlikigonaaGreatHA
import Derived.Test.YtofdehlikigonaaGreatGW
namespace Go.Proofs.YtofdehlikigonaaGreat
open Go.Eng
set_option maxRecDepth 10000
set_option linter.unusedSimpArgs false
set_option linter.unusedVariables false
theorem run_none (k : K) (known : Int) (l : List Int) (hl : l.length ≤ 60) : (runR k [] known l).2 = (vrunR k l).2 ∧ ((vrunR k l).2 = 0 → (runR k [] known l).1.2 = (vrunR k l).1 ∧ (runR k [] known l).1.1.length = (vrunR k l).1.length ∧ ∀ i, i < (vrunR k l).1.length → (runR k [] known l).1.1.getD i default = k) := by
  have hc : consA [] known ([] : List Am).length = [] := rfl
  unfold runR vrunR
  rw [hc]
  by_cases h1 : (startS k).2 = 0
  · have n1 : ¬ (startS k).2 ≠ 0 := by simpa using h1
    have n2 : ¬ (60 < ([] : List Am).length ∨ 4000 < l.length) := by simp; omega
    have n3 : ¬ 4000 < l.length := by omega
    simp only [if_neg n1, if_neg n2, if_neg n3]
    rw [stg_none]
    dsimp only
    by_cases h2 : (runE k l l.length).2 = 0
    · rw [if_neg (by simpa using h2), if_neg (by simpa using h2)]
      refine ⟨rfl, fun _ => ⟨?_, by simp [runL], fun i hi => ?_⟩⟩
      · show List.map _ _ = List.map _ _
        refine List.map_congr_left fun i _ => ?_
        rw [stg_none]
      · have hi : i < l.length + 1 := by simpa [runL] using hi
        rw [map_getD _ hi, stg_none]
    · rw [if_pos h2, if_pos h2]
      exact ⟨rfl, fun h => absurd h h2⟩
  · rw [if_pos h1, if_pos h1]
    refine ⟨?_, fun h => absurd h h1⟩
    revert h1
    unfold startS
    split
    · intro _; rfl
    · intro h; exact absurd rfl h
theorem vrun_err {k : K} {l : List Int} (h : (vrunR k l).2 ≠ 0) : (vrunR k l).1 = [] := by
  unfold vrunR at h ⊢
  split
  · rfl
  · split
    · rfl
    · split
      · rfl
      · rename_i h1 h2 h3
        rw [if_neg h1, if_neg h2, if_neg h3] at h
        exact absurd rfl h
theorem vrun_len (k : K) (l : List Int) : (vrunR k l).1.length ≤ l.length + 1 := by
  unfold vrunR
  split
  · simp
  · split
    · simp
    · split
      · simp
      · simp [runL]
theorem lawMN (k : K) (hk : kW k) (known : Int) (hn : inK .i64 known) (l : List Int) : Does Tryz.prog 7 [kV k, .c (.int .i64 known), intsV l] (.c (.bool true)) := by
  refine Does.mk (fun _ => false) TT_ok Tryz.func7 rfl (by kernel_rfl) Tryz.ntmps7 rfl rfl fun E hT hE hN hR => ?_
  have hm : E.P.follows .mixedOrders = true := by rw [hE]; kernel_rfl
  (repeat (first | refine XK.norm rfl rfl ?_ | refine XK.rgnA hT rfl rfl rfl ?_ | refine XK.rgnB hT hm rfl rfl rfl ?_))
  (repeat (first | refine XK.norm rfl rfl ?_ | refine XK.rgnA hT rfl rfl rfl ?_ | refine XK.rgnB hT hm rfl rfl rfl ?_)); refine XK.region ?_; refine XL.goA hT rfl rfl rfl rfl ?_
  refine XL.callLA hE rfl rfl rfl rfl trivial rfl (head27_ok) rfl ?_
  refine XL.goA hT rfl rfl rfl rfl ?_; refine XL.fin ?_; (repeat (first | refine XK.norm rfl rfl ?_ | refine XK.rgnA hT rfl rfl rfl ?_ | refine XK.rgnB hT hm rfl rfl rfl ?_))
  (repeat (first | refine XK.norm rfl rfl ?_ | refine XK.rgnA hT rfl rfl rfl ?_ | refine XK.rgnB hT hm rfl rfl rfl ?_))
  (repeat (first | refine XK.norm rfl rfl ?_ | refine XK.rgnA hT rfl rfl rfl ?_ | refine XK.rgnB hT hm rfl rfl rfl ?_)); refine XK.region ?_; refine XL.goA hT rfl rfl rfl rfl ?_
  refine XL.callLA hE rfl rfl rfl rfl trivial rfl (smallQ_ok k 40) rfl ?_
  refine XL.goA hT rfl rfl rfl rfl ?_; refine XL.fin ?_; (repeat (first | refine XK.norm rfl rfl ?_ | refine XK.rgnA hT rfl rfl rfl ?_ | refine XK.rgnB hT hm rfl rfl rfl ?_))
  (repeat (first | refine XK.norm rfl rfl ?_ | refine XK.rgnA hT rfl rfl rfl ?_ | refine XK.rgnB hT hm rfl rfl rfl ?_)); refine XK.cond rfl (fun h1 => ?_) (fun h1 => ?_)
  · (repeat (first | refine XK.norm rfl rfl ?_ | refine XK.rgnA hT rfl rfl rfl ?_ | refine XK.rgnB hT hm rfl rfl rfl ?_))
    (first | refine XK.out rfl rfl rfl ?_ | refine XK.outN rfl rfl rfl ?_)
    rfl
  simp only [Bool.or_eq_false_iff, Bool.not_eq_false'] at h1
  obtain ⟨hsm, h60⟩ := h1
  have h60 : (l.length : Int) ≤ 60 := by simpa using h60
  have h60 : l.length ≤ 60 := by omega
  obtain ⟨b1, b2, b3, b4, b5, b6⟩ := smallQ_len hsm
  have hKB : KB k := ⟨by omega, by omega, by omega, by omega, by omega, fun i hi => by have := b6 i hi; omega⟩
  have c1 := (run_ok k hk [] (fun a ha => by cases ha) known l).argS (args' := [kV k, .c (.slice none 0 0), .c (.int .i64 known), intsV l]) ⟨AvS.refl _, AvS.nil, AvS.refl _, AvS.refl _, trivial⟩
  have c2 := vrun_ok k hk l
  obtain ⟨g1, g2⟩ := run_none k known l h60
  have hw := vrun_len k l
  generalize runR k [] known l = r at *
  generalize vrunR k l = q at *
  obtain ⟨⟨cs, ss⟩, e⟩ := r
  obtain ⟨ws, f⟩ := q
  dsimp only at g1 g2 c1 c2 hw
  subst g1
  (repeat (first | refine XK.norm rfl rfl ?_ | refine XK.rgnA hT rfl rfl rfl ?_ | refine XK.rgnB hT hm rfl rfl rfl ?_))
  (repeat (first | refine XK.norm rfl rfl ?_ | refine XK.rgnA hT rfl rfl rfl ?_ | refine XK.rgnB hT hm rfl rfl rfl ?_)); refine XK.region ?_; refine XL.goA hT rfl rfl rfl rfl ?_
  refine XL.callKA hE rfl rfl rfl rfl trivial rfl rfl (c1) ?_
  refine XL.goA hT rfl rfl rfl rfl ?_; refine XL.fin ?_; (repeat (first | refine XK.norm rfl rfl ?_ | refine XK.rgnA hT rfl rfl rfl ?_ | refine XK.rgnB hT hm rfl rfl rfl ?_))
  (repeat (first | refine XK.norm rfl rfl ?_ | refine XK.rgnA hT rfl rfl rfl ?_ | refine XK.rgnB hT hm rfl rfl rfl ?_)); refine XK.region ?_; refine XL.goA hT rfl rfl rfl rfl ?_
  refine XL.callKA hE rfl rfl rfl rfl trivial rfl rfl (c2) ?_
  refine XL.goA hT rfl rfl rfl rfl ?_; refine XL.fin ?_; (repeat (first | refine XK.norm rfl rfl ?_ | refine XK.rgnA hT rfl rfl rfl ?_ | refine XK.rgnB hT hm rfl rfl rfl ?_))
  (repeat (first | refine XK.norm rfl rfl ?_ | refine XK.rgnA hT rfl rfl rfl ?_ | refine XK.rgnB hT hm rfl rfl rfl ?_)); refine XK.cond rfl (fun h2 => ?_) (fun h2 => ?_)
  · (repeat (first | refine XK.norm rfl rfl ?_ | refine XK.rgnA hT rfl rfl rfl ?_ | refine XK.rgnB hT hm rfl rfl rfl ?_))
    (first | refine XK.out rfl rfl rfl ?_ | refine XK.outN rfl rfl rfl ?_)
    simp
  have h2 : e = 0 := by simpa using h2
  subst h2
  obtain ⟨g3, g4, g5⟩ := g2 rfl
  subst g3
  clear g2
  (repeat (first | refine XK.norm rfl rfl ?_ | refine XK.rgnA hT rfl rfl rfl ?_ | refine XK.rgnB hT hm rfl rfl rfl ?_)); refine XK.cond rfl (fun h3 => ?_) (fun h3 => ?_)
  · exfalso
    simp only [Bool.or_eq_true, bne_iff_ne] at h3
    omega
  clear h3
  (repeat (first | refine XK.norm rfl rfl ?_ | refine XK.rgnA hT rfl rfl rfl ?_ | refine XK.rgnB hT hm rfl rfl rfl ?_))
  refine XK.loop (ι := Nat) (fun i => ST.of [(3, .ptr 3 0), (7, .c (.bool true)), (8, ksV cs), (9, stsV ss), (11, stsV ss), (13, .c (.int .i64 i))] [(3, .cells 27 (kC k))] 1000 88 (fun _ => false))
    (fun i => i ≤ ss.length) (fun i => ss.length - i) 0 (Nat.zero_le _) (Weak.of hN rfl rfl rfl (by (repeat' (first | exact rfl | exact AvIs.refl _ | exact trivial | exact fun _ _ => rfl | exact fun _ _ => ⟨rfl, AvIs.refl _⟩ | refine ⟨?_, ?_⟩))) (by (repeat' (first | exact rfl | exact AvIs.refl _ | exact trivial | exact fun _ _ => rfl | exact fun _ _ => ⟨rfl, AvIs.refl _⟩ | refine ⟨?_, ?_⟩)))) fun i hi => ?_
  (repeat (first | refine XK.norm rfl rfl ?_ | refine XK.rgnA hT rfl rfl rfl ?_ | refine XK.rgnB hT hm rfl rfl rfl ?_)); refine XK.cond rfl (fun hlt => ?_) (fun hlt => ?_) <;> (try simp at hlt)
  · have fa : ss.getD (i : Int).toNat default = ss.getD i default := rfl
    have fb : cs.getD (i : Int).toNat default = k := g5 i hlt
    have c3 := sameS_ok (ss.getD (i : Int).toNat default) (ss.getD (i : Int).toNat default)
    have c4 := same24_ok k k hKB
    rw [sameS_self] at c3
    rw [(sameR_iff k k).2 rfl] at c4
    have hic : i < cs.length := by omega
    (repeat (first | refine XK.norm rfl rfl ?_ | refine XK.rgnA hT rfl rfl rfl ?_ | refine XK.rgnB hT hm rfl rfl rfl ?_)); refine XK.drawn hm ?_; refine XD.goA hT rfl rfl rfl rfl ?_
    refine XD.callLA hE rfl rfl rfl rfl trivial rfl (c3) rfl ?_
    refine XD.goA hT rfl rfl rfl rfl ?_
    rw [fb]
    refine XD.callGA hE rfl rfl rfl rfl rfl rfl rfl rfl rfl (c4) rfl ?_
    refine XD.goA hT rfl rfl rfl rfl ?_; refine XD.fin (by kernel_rfl) ?_; (repeat (first | refine XK.norm rfl rfl ?_ | refine XK.rgnA hT rfl rfl rfl ?_ | refine XK.rgnB hT hm rfl rfl rfl ?_))
    (repeat (first | refine XK.norm rfl rfl ?_ | refine XK.rgnA hT rfl rfl rfl ?_ | refine XK.rgnB hT hm rfl rfl rfl ?_)); refine XK.cond rfl (fun h7 => ?_) (fun h7 => ?_)
    · exact absurd h7 (by simp)
    clear h7
    (repeat (first | refine XK.norm rfl rfl ?_ | refine XK.rgnA hT rfl rfl rfl ?_ | refine XK.rgnB hT hm rfl rfl rfl ?_))
    exact XK.inv ⟨i + 1, hlt, (Weak.of hN rfl rfl rfl (by (repeat' (first | exact rfl | exact AvIs.refl _ | exact trivial | exact fun _ _ => rfl | exact fun _ _ => ⟨rfl, AvIs.refl _⟩ | refine ⟨?_, ?_⟩))) (by (repeat' (first | exact rfl | exact AvIs.refl _ | exact trivial | exact fun _ _ => rfl | exact fun _ _ => ⟨rfl, AvIs.refl _⟩ | refine ⟨?_, ?_⟩)))), by omega⟩
  · (repeat (first | refine XK.norm rfl rfl ?_ | refine XK.rgnA hT rfl rfl rfl ?_ | refine XK.rgnB hT hm rfl rfl rfl ?_))
    (first | refine XK.out rfl rfl rfl ?_ | refine XK.outN rfl rfl rfl ?_)
    rfl
end Go.Proofs.YtofdehlikigonaaGreat
