/- The law MigrateKeeps. -/
import Derived.Test.YtofdehlikigonaaGreatH9
import Derived.Test.YtofdehlikigonaaGreatHA
namespace Go.Proofs.YtofdehlikigonaaGreat
open Go.Eng
set_option maxRecDepth 10000
set_option linter.unusedSimpArgs false
set_option linter.unusedVariables false
theorem lawMK (k : K) (hk : kW k) (p : Pt) (hp : ptW p) (s : St) : Does Tryz.prog 3 [kV k, ptV p, stV s] (.c (.bool true)) := by
  refine Does.mk (fun _ => false) TT_ok Tryz.func3 rfl (by kernel_rfl) Tryz.ntmps3 rfl rfl fun E hT hE hN hR => ?_
  have hm : E.P.follows .mixedOrders = true := by rw [hE]; kernel_rfl
  (repeat (first | refine XK.norm rfl rfl ?_ | refine XK.rgnA hT rfl rfl rfl ?_ | refine XK.rgnB hT hm rfl rfl rfl ?_))
  (repeat (first | refine XK.norm rfl rfl ?_ | refine XK.rgnA hT rfl rfl rfl ?_ | refine XK.rgnB hT hm rfl rfl rfl ?_)); refine XK.region ?_; refine XL.goA hT rfl rfl rfl rfl ?_
  refine XL.callLA hE rfl rfl rfl rfl trivial rfl (head27_ok) rfl ?_
  refine XL.goA hT rfl rfl rfl rfl ?_; refine XL.fin ?_; (repeat (first | refine XK.norm rfl rfl ?_ | refine XK.rgnA hT rfl rfl rfl ?_ | refine XK.rgnB hT hm rfl rfl rfl ?_))
  (repeat (first | refine XK.norm rfl rfl ?_ | refine XK.rgnA hT rfl rfl rfl ?_ | refine XK.rgnB hT hm rfl rfl rfl ?_))
  (repeat (first | refine XK.norm rfl rfl ?_ | refine XK.rgnA hT rfl rfl rfl ?_ | refine XK.rgnB hT hm rfl rfl rfl ?_)); refine XK.region ?_; refine XL.goA hT rfl rfl rfl rfl ?_
  refine XL.callLA hE rfl rfl rfl rfl trivial rfl (smallQ_ok k 40) rfl ?_
  refine XL.goA hT rfl rfl rfl rfl ?_
  refine XL.callGA hE rfl rfl rfl rfl rfl rfl rfl rfl (small24_ok p) rfl ?_
  refine XL.goA hT rfl rfl rfl rfl ?_
  refine XL.callGA hE rfl rfl rfl rfl rfl rfl rfl rfl (fewS_ok s) rfl ?_
  refine XL.goA hT rfl rfl rfl rfl ?_; refine XL.fin ?_; (repeat (first | refine XK.norm rfl rfl ?_ | refine XK.rgnA hT rfl rfl rfl ?_ | refine XK.rgnB hT hm rfl rfl rfl ?_))
  (repeat (first | refine XK.norm rfl rfl ?_ | refine XK.rgnA hT rfl rfl rfl ?_ | refine XK.rgnB hT hm rfl rfl rfl ?_)); refine XK.cond rfl (fun h1 => ?_) (fun h1 => ?_)
  · (repeat (first | refine XK.norm rfl rfl ?_ | refine XK.rgnA hT rfl rfl rfl ?_ | refine XK.rgnB hT hm rfl rfl rfl ?_))
    (first | refine XK.out rfl rfl rfl ?_ | refine XK.outN rfl rfl rfl ?_)
    rfl
  simp only [Bool.or_eq_false_iff, Bool.not_eq_false'] at h1
  obtain ⟨hc, hs⟩ := small24_facts h1.1.2
  have c1 := migrate_ok k hk p hp (by omega) (by omega) s
  have hlaw := mig_law (s := s) hk hp
  have hfew : s.marks.length ≤ 60 := by
    have := h1.2
    simp only [fewS, Bool.and_eq_true, decide_eq_true_eq] at this
    omega
  generalize migrateR k p s = r at *
  obtain ⟨t, e⟩ := r
  dsimp only at hlaw c1
  (repeat (first | refine XK.norm rfl rfl ?_ | refine XK.rgnA hT rfl rfl rfl ?_ | refine XK.rgnB hT hm rfl rfl rfl ?_))
  (repeat (first | refine XK.norm rfl rfl ?_ | refine XK.rgnA hT rfl rfl rfl ?_ | refine XK.rgnB hT hm rfl rfl rfl ?_)); refine XK.region ?_; refine XL.goA hT rfl rfl rfl rfl ?_
  refine XL.callKA hE rfl rfl rfl rfl trivial rfl rfl (c1) ?_
  refine XL.goA hT rfl rfl rfl rfl ?_; refine XL.fin ?_; (repeat (first | refine XK.norm rfl rfl ?_ | refine XK.rgnA hT rfl rfl rfl ?_ | refine XK.rgnB hT hm rfl rfl rfl ?_))
  (repeat (first | refine XK.norm rfl rfl ?_ | refine XK.rgnA hT rfl rfl rfl ?_ | refine XK.rgnB hT hm rfl rfl rfl ?_)); refine XK.cond rfl (fun h2 => ?_) (fun h2 => ?_)
  · (repeat (first | refine XK.norm rfl rfl ?_ | refine XK.rgnA hT rfl rfl rfl ?_ | refine XK.rgnB hT hm rfl rfl rfl ?_))
    (first | refine XK.out rfl rfl rfl ?_ | refine XK.outN rfl rfl rfl ?_)
    rfl
  have h2 : e = 0 := by simpa using h2
  subst h2
  obtain ⟨l1, l2, l3, l4, l5⟩ := hlaw rfl
  clear hlaw
  (repeat (first | refine XK.norm rfl rfl ?_ | refine XK.rgnA hT rfl rfl rfl ?_ | refine XK.rgnB hT hm rfl rfl rfl ?_)); refine XK.cond rfl (fun h3 => ?_) (fun h3 => ?_)
  · exfalso
    simp only [Bool.or_eq_true, bne_iff_ne, decide_eq_true_eq] at h3
    omega
  clear h3
  (repeat (first | refine XK.norm rfl rfl ?_ | refine XK.rgnA hT rfl rfl rfl ?_ | refine XK.rgnB hT hm rfl rfl rfl ?_))
  refine XK.loop (ι := Nat) (fun i => ST.of [(3, .ptr 3 0), (4, .ptr 4 0), (5, .ptr 5 0), (7, .c (.bool true)), (8, .ptr 485 0), (10, .c (.int .i64 i))] [(3, .cells 27 (kC k)), (4, .cells 34 (ptC p)), (5, .cells 38 (stC s)), (485, .cells 38 (stC t))] 1000 159 (fun _ => false))
    (fun i => i ≤ s.marks.length) (fun i => s.marks.length - i) 0 (Nat.zero_le _) (Weak.of hN rfl rfl rfl (by (repeat' (first | exact rfl | exact AvIs.refl _ | exact trivial | exact fun _ _ => rfl | exact fun _ _ => ⟨rfl, AvIs.refl _⟩ | refine ⟨?_, ?_⟩))) (by (repeat' (first | exact rfl | exact AvIs.refl _ | exact trivial | exact fun _ _ => rfl | exact fun _ _ => ⟨rfl, AvIs.refl _⟩ | refine ⟨?_, ?_⟩)))) fun i hi => ?_
  (repeat (first | refine XK.norm rfl rfl ?_ | refine XK.rgnA hT rfl rfl rfl ?_ | refine XK.rgnB hT hm rfl rfl rfl ?_)); refine XK.cond rfl (fun hlt => ?_) (fun hlt => ?_) <;> (try simp at hlt)
  · have fa : s.marks.getD (i : Int).toNat default = s.marks.getD i default := rfl
    have fb : t.marks.getD (i : Int).toNat default = t.marks.getD i default := rfl
    have fc : k.clauses.getD (i : Int).toNat default = clAt k i := rfl
    obtain ⟨g1, g2, g3, -⟩ := l5 i hlt
    have hic : i < k.clauses.length := by omega
    clear l5
    generalize s.marks.getD i default = a at *
    generalize t.marks.getD i default = b at *
    have c2 := ended_ok a
    have c3 := runsR_ok a
    (repeat (first | refine XK.norm rfl rfl ?_ | refine XK.rgnA hT rfl rfl rfl ?_ | refine XK.rgnB hT hm rfl rfl rfl ?_))
    rw [fa, fb]
    refine XK.loop (ι := Nat) (fun j => ST.of [(3, .ptr 3 0), (4, .ptr 4 0), (5, .ptr 5 0), (7, .c (.bool true)), (8, .ptr 485 0), (10, .c (.int .i64 i)), (11, .ptr 1170 0), (12, .ptr 1171 0), (13, .c (.bool (namedN p i j))), (14, .c (.int .i64 j))] [(3, .cells 27 (kC k)), (4, .cells 34 (ptC p)), (5, .cells 38 (stC s)), (485, .cells 38 (stC t)), (1170, .cells 47 (mkC a)), (1171, .cells 47 (mkC b))] 2000 159 (fun _ => false))
      (fun j => j ≤ p.clauses.length) (fun j => p.clauses.length - j) 0 (Nat.zero_le _) (Weak.of hN rfl rfl rfl (by (repeat' (first | exact rfl | exact AvIs.refl _ | exact trivial | exact fun _ _ => rfl | exact fun _ _ => ⟨rfl, AvIs.refl _⟩ | refine ⟨?_, ?_⟩))) (by (repeat' (first | exact rfl | exact AvIs.refl _ | exact trivial | exact fun _ _ => rfl | exact fun _ _ => ⟨rfl, AvIs.refl _⟩ | refine ⟨?_, ?_⟩)))) fun j hj => ?_
    (repeat (first | refine XK.norm rfl rfl ?_ | refine XK.rgnA hT rfl rfl rfl ?_ | refine XK.rgnB hT hm rfl rfl rfl ?_)); refine XK.cond rfl (fun hlj => ?_) (fun hlj => ?_) <;> (try simp at hlj)
    · have fd : p.clauses.getD (j : Int).toNat default = p.clauses.getD j default := rfl
      have fn : namedN p i (j + 1) = (namedN p i j || p.clauses.getD j default == (i : Int)) := rfl
      (repeat (first | refine XK.norm rfl rfl ?_ | refine XK.rgnA hT rfl rfl rfl ?_ | refine XK.rgnB hT hm rfl rfl rfl ?_))
      rw [fd, ← fn]
      exact XK.inv ⟨j + 1, hlj, (Weak.of hN rfl rfl rfl (by (repeat' (first | exact rfl | exact AvIs.refl _ | exact trivial | exact fun _ _ => rfl | exact fun _ _ => ⟨rfl, AvIs.refl _⟩ | refine ⟨?_, ?_⟩))) (by (repeat' (first | exact rfl | exact AvIs.refl _ | exact trivial | exact fun _ _ => rfl | exact fun _ _ => ⟨rfl, AvIs.refl _⟩ | refine ⟨?_, ?_⟩)))), by omega⟩
    · have hje : j = p.clauses.length := by omega
      subst hje
      clear hj hlj
      have fn : namedN p i p.clauses.length = namedB p i := rfl
      rw [fn]
      have ho : otherB k p i = (namedB p i && p.kind == 2 && p.new.kind != (clAt k i).kind && !p.new.waived) := rfl
      generalize namedB p i = n at *
      generalize otherB k p i = o at *
      (repeat (first | refine XK.norm rfl rfl ?_ | refine XK.rgnA hT rfl rfl rfl ?_ | refine XK.rgnB hT hm rfl rfl rfl ?_))
      rw [fc, ← ho]
      (repeat (first | refine XK.norm rfl rfl ?_ | refine XK.rgnA hT rfl rfl rfl ?_ | refine XK.rgnB hT hm rfl rfl rfl ?_)); refine XK.region ?_; refine XL.goA hT rfl rfl rfl rfl ?_
      refine XL.callLA hE rfl rfl rfl rfl trivial rfl (c2) rfl ?_
      refine XL.goA hT rfl rfl rfl rfl ?_
      refine XL.callGA hE rfl rfl rfl rfl rfl rfl rfl rfl (c3) rfl ?_
      refine XL.goA hT rfl rfl rfl rfl ?_; refine XL.fin ?_; (repeat (first | refine XK.norm rfl rfl ?_ | refine XK.rgnA hT rfl rfl rfl ?_ | refine XK.rgnB hT hm rfl rfl rfl ?_))
      (repeat (first | refine XK.norm rfl rfl ?_ | refine XK.rgnA hT rfl rfl rfl ?_ | refine XK.rgnB hT hm rfl rfl rfl ?_)); refine XK.cond rfl (fun h7 => ?_) (fun h7 => ?_)
      · exfalso
        have h7 : (endedM a && !eqMk a b || runsM a && !o && (a.got != b.got || a.bearer != b.bearer) || !n && !eqMk a b && a.status != 0) = true := h7
        simp only [Bool.or_eq_true, Bool.and_eq_true, Bool.not_eq_true', bne_iff_ne] at h7
        have hne : eqMk a b = false → b ≠ a := fun h e => by
          subst e
          rw [eqMk_iff.2 rfl] at h
          cases h
        rcases h7 with (⟨q1, q2⟩ | ⟨⟨q1, q2⟩, q3⟩) | ⟨⟨q1, q2⟩, q3⟩
        · exact hne q2 (g1 q1)
        · obtain ⟨z1, z2⟩ := g2 q1 q2
          rcases q3 with q3 | q3
          · exact q3 z1.symm
          · exact q3 z2.symm
        · exact hne q2 (g3 q1 q3)
      clear h7
      (repeat (first | refine XK.norm rfl rfl ?_ | refine XK.rgnA hT rfl rfl rfl ?_ | refine XK.rgnB hT hm rfl rfl rfl ?_))
      exact XK.inv ⟨i + 1, hlt, (Weak.of hN rfl rfl rfl (by (repeat' (first | exact rfl | exact AvIs.refl _ | exact trivial | exact fun _ _ => rfl | exact fun _ _ => ⟨rfl, AvIs.refl _⟩ | refine ⟨?_, ?_⟩))) (by (repeat' (first | exact rfl | exact AvIs.refl _ | exact trivial | exact fun _ _ => rfl | exact fun _ _ => ⟨rfl, AvIs.refl _⟩ | refine ⟨?_, ?_⟩)))), by omega⟩
  · (repeat (first | refine XK.norm rfl rfl ?_ | refine XK.rgnA hT rfl rfl rfl ?_ | refine XK.rgnB hT hm rfl rfl rfl ?_))
    (first | refine XK.out rfl rfl rfl ?_ | refine XK.outN rfl rfl rfl ?_)
    rfl
end Go.Proofs.YtofdehlikigonaaGreat
