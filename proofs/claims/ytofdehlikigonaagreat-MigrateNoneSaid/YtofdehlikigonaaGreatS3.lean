import Derived.Test.YtofdehlikigonaaGreatS2
section
/- Contracts: package system: start. -/
namespace Go.Proofs.YtofdehlikigonaaGreat
open Go.Eng
set_option maxRecDepth 10000
set_option linter.unusedSimpArgs false
set_option linter.unusedVariables false
theorem idle_le (k : K) (mk : Nat → Mk) : idleN k mk ≤ k.clauses.length := by
  unfold idleN
  have := List.countP_le_length (p := fun i => (mk i).status == 0) (l := List.range k.clauses.length)
  simpa using this
theorem pass_hold {k : K} {w : Wk} {n : Nat} (h : n ≤ k.clauses.length) : (passTo k w n).1.hold = w.hold := (pass_rel n h).hold
theorem wstart_ok (k : K) (hk : KFacts k) (w : Wk) : DoesM Tryz.prog 56 [.ptr 0 0] (wOs k w) (.tup []) (wOs k (startW k w)) := by
  refine DoesM.mk (fun _ => false) 100 TT_ok Tryz.func56 rfl (by kernel_rfl) Tryz.ntmps56 rfl rfl rfl fun E hT hE hN hR => ?_
  have hm : E.P.follows .mixedOrders = true := by rw [hE]; kernel_rfl
  have hnc := hk.nc
  (repeat (first | refine XK.norm rfl rfl ?_ | refine XK.rgnA hT rfl rfl rfl ?_ | refine XK.rgnB hT hm rfl rfl rfl ?_))
  refine XK.loop (ι := Nat × Wk × Bool) (fun q => ST.of [(0, .ptr 0 0), (2, .c (.bool q.2.2))] (wN k q.2.1) 1000 53 (fun _ => false))
    (fun q => (q.2.2 = true → startN k q.1 q.2.1 = startW k w ∧ idleN k q.2.1.mark < q.1) ∧ (q.2.2 = false → q.2.1 = startW k w)) (fun q => if q.2.2 = true then q.1 + 1 else 0) (idleN k w.mark + 1, w, true)
    ⟨fun _ => ⟨rfl, Nat.lt_succ_self _⟩, fun h => nomatch h⟩
    (Weak.of hN rfl rfl rfl (by (repeat' (first | exact rfl | exact AvIs.refl _ | exact trivial | exact fun _ _ => rfl | exact fun _ _ => ⟨rfl, AvIs.refl _⟩ | refine ⟨?_, ?_⟩))) (by (repeat' (first | exact rfl | exact AvIs.refl _ | exact trivial | exact fun _ _ => rfl | exact fun _ _ => ⟨rfl, AvIs.refl _⟩ | refine ⟨?_, ?_⟩)))) fun q hq => ?_
  obtain ⟨f, w1, b⟩ := q
  obtain ⟨g1, g2⟩ := hq
  dsimp only at g1 g2
  dsimp only
  (repeat (first | refine XK.norm rfl rfl ?_ | refine XK.rgnA hT rfl rfl rfl ?_ | refine XK.rgnB hT hm rfl rfl rfl ?_)); refine XK.cond rfl (fun hb => ?_) (fun hb => ?_)
  · have hb : b = true := hb
    subst hb
    obtain ⟨g1, g3⟩ := g1 rfl
    clear g2
    obtain ⟨f, rfl⟩ : ∃ f', f = f' + 1 := ⟨f - 1, by omega⟩
    (repeat (first | refine XK.norm rfl rfl ?_ | refine XK.rgnA hT rfl rfl rfl ?_ | refine XK.rgnB hT hm rfl rfl rfl ?_))
    refine XK.loop (ι := Nat) (fun i => ST.of [(0, .ptr 0 0), (2, .c (.bool (passTo k w1 i).2)), (11, clsV k.clauses), (12, .c (.int .i64 k.clauses.length)), (13, .c (.int .i64 i))] (wN k (passTo k w1 i).1) 2000 53 (fun _ => false))
      (fun i => i ≤ k.clauses.length) (fun i => k.clauses.length - i) 0 (Nat.zero_le _)
      (Weak.of hN rfl rfl rfl (by (repeat' (first | exact rfl | exact AvIs.refl _ | exact trivial | exact fun _ _ => rfl | exact fun _ _ => ⟨rfl, AvIs.refl _⟩ | refine ⟨?_, ?_⟩))) (by (repeat' (first | exact rfl | exact AvIs.refl _ | exact trivial | exact fun _ _ => rfl | exact fun _ _ => ⟨rfl, AvIs.refl _⟩ | refine ⟨?_, ?_⟩)))) fun i hi => ?_
    (repeat (first | refine XK.norm rfl rfl ?_ | refine XK.rgnA hT rfl rfl rfl ?_ | refine XK.rgnB hT hm rfl rfl rfl ?_)); refine XK.cond rfl (fun hlt => ?_) (fun hlt => ?_) <;> (try simp at hlt)
    · have fc : k.clauses.getD (i : Int).toNat default = clAt k i := rfl
      have hkf := kindW (hk.clB hlt).2.2.1
      have hp : passTo k w1 (i + 1) = if rdyB k (passTo k w1 i).1.mark i = true then ((passTo k w1 i).1.upM i (liveM k (passTo k w1 i).1.hold i), true) else passTo k w1 i := rfl
      generalize passTo k w1 i = p at *
      obtain ⟨w2, b2⟩ := p
      dsimp only at hp
      dsimp only
      (repeat (first | refine XK.norm rfl rfl ?_ | refine XK.rgnA hT rfl rfl rfl ?_ | refine XK.rgnB hT hm rfl rfl rfl ?_))
      have hr := readyM_ok k hk w2 i hlt
      have hrt := fun h => (rdyB_true (k := k) (mk := w2.mark) (i := i) h).1
      generalize hrb : rdyB k w2.mark i = rb at *
      refine XK.weak (Weak.of (L := [(0, .ptr 0 0), (2, .c (.bool b2)), (3, .c (.int .i64 i)), (4, .ptr 2057 0), (11, clsV k.clauses), (12, .c (.int .i64 k.clauses.length)), (13, .c (.int .i64 i))]) (O := (2057, .cells 32 (clC (clAt k i))) :: wN k w2) (nx := 3000) (nt := 53) (md := fun _ => false) hN rfl rfl rfl (by (repeat' (first | exact rfl | exact AvIs.refl _ | exact trivial | exact fun _ _ => rfl | exact fun _ _ => ⟨rfl, AvIs.refl _⟩ | refine ⟨?_, ?_⟩))) (by (repeat' (first | exact rfl | exact AvIs.refl _ | exact trivial | exact fun _ _ => rfl | exact fun _ _ => ⟨rfl, AvIs.refl _⟩ | refine ⟨?_, ?_⟩)))) ?_
      (repeat (first | refine XK.norm rfl rfl ?_ | refine XK.rgnA hT rfl rfl rfl ?_ | refine XK.rgnB hT hm rfl rfl rfl ?_)); refine XK.drawn hm ?_; refine XD.goA hT rfl rfl rfl rfl ?_
      refine XD.callMA [1, 2, 3] hE rfl rfl rfl rfl trivial (hr) rfl rfl rfl rfl rfl ?_
      refine XD.goA hT rfl rfl rfl rfl ?_; refine XD.fin (by kernel_rfl) ?_; (repeat (first | refine XK.norm rfl rfl ?_ | refine XK.rgnA hT rfl rfl rfl ?_ | refine XK.rgnB hT hm rfl rfl rfl ?_))
      (repeat (first | refine XK.norm rfl rfl ?_ | refine XK.rgnA hT rfl rfl rfl ?_ | refine XK.rgnB hT hm rfl rfl rfl ?_)); refine XK.cond rfl (fun h1 => ?_) (fun h1 => ?_)
      · have h1 : rb = false := by simpa using h1
        subst h1
        rw [if_neg (by simp)] at hp
        (repeat (first | refine XK.norm rfl rfl ?_ | refine XK.rgnA hT rfl rfl rfl ?_ | refine XK.rgnB hT hm rfl rfl rfl ?_))
        refine XK.inv ⟨i + 1, hlt, ?_, by omega⟩
        rw [hp]
        exact (Weak.of hN rfl rfl rfl (by (repeat' (first | exact rfl | exact AvIs.refl _ | exact trivial | exact fun _ _ => rfl | exact fun _ _ => ⟨rfl, AvIs.refl _⟩ | refine ⟨?_, ?_⟩))) (by (repeat' (first | exact rfl | exact AvIs.refl _ | exact trivial | exact fun _ _ => rfl | exact fun _ _ => ⟨rfl, AvIs.refl _⟩ | refine ⟨?_, ?_⟩))))
      · have h1 : rb = true := by simpa using h1
        subst h1
        rw [if_pos rfl] at hp
        have hb := hk.clB hlt
        (repeat (first | refine XK.norm rfl rfl ?_ | refine XK.rgnA hT rfl rfl rfl ?_ | refine XK.rgnB hT hm rfl rfl rfl ?_)); refine XK.join (ST.of [(0, .ptr 0 0), (2, .c (.bool b2)), (3, .c (.int .i64 i)), (4, .ptr 2057 0), (5, .c (.int .i64 (liveM k w2.hold i).bearer)), (11, clsV k.clauses), (12, .c (.int .i64 k.clauses.length)), (13, .c (.int .i64 i))] ((2057, .cells 32 (clC (clAt k i))) :: wN k w2) 4000 53 (fun _ => false)) rfl (fun h3 => ?_) (fun h3 => ?_) ?_
        · have h3 : (clAt k i).kind ≠ 4 := by simpa using h3
          have hro : 0 ≤ (clAt k i).role ∧ (clAt k i).role < k.holders.length := by
            rcases hkf with h | h
            · exact absurd h.1 h3
            · exact h.1
          have e : (liveM k w2.hold i).bearer = w2.hold (clAt k i).role.toNat := by simp [liveM, h3]
          rw [e]
          (repeat (first | refine XK.norm rfl rfl ?_ | refine XK.rgnA hT rfl rfl rfl ?_ | refine XK.rgnB hT hm rfl rfl rfl ?_))
          exact XK.inv (Weak.of hN rfl rfl rfl (by (repeat' (first | exact rfl | exact AvIs.refl _ | exact trivial | exact fun _ _ => rfl | exact fun _ _ => ⟨rfl, AvIs.refl _⟩ | refine ⟨?_, ?_⟩))) (by (repeat' (first | exact rfl | exact AvIs.refl _ | exact trivial | exact fun _ _ => rfl | exact fun _ _ => ⟨rfl, AvIs.refl _⟩ | refine ⟨?_, ?_⟩))))
        · have h3 : (clAt k i).kind = 4 := by simpa using h3
          have e : (liveM k w2.hold i).bearer = -1 := by simp [liveM, h3]
          rw [e]
          (repeat (first | refine XK.norm rfl rfl ?_ | refine XK.rgnA hT rfl rfl rfl ?_ | refine XK.rgnB hT hm rfl rfl rfl ?_))
          exact XK.inv (Weak.of hN rfl rfl rfl (by (repeat' (first | exact rfl | exact AvIs.refl _ | exact trivial | exact fun _ _ => rfl | exact fun _ _ => ⟨rfl, AvIs.refl _⟩ | refine ⟨?_, ?_⟩))) (by (repeat' (first | exact rfl | exact AvIs.refl _ | exact trivial | exact fun _ _ => rfl | exact fun _ _ => ⟨rfl, AvIs.refl _⟩ | refine ⟨?_, ?_⟩))))
        (repeat (first | refine XK.norm rfl rfl ?_ | refine XK.rgnA hT rfl rfl rfl ?_ | refine XK.rgnB hT hm rfl rfl rfl ?_))
        refine XK.inv ⟨i + 1, hlt, ?_, by omega⟩
        rw [hp]
        exact (Weak.of hN rfl rfl rfl (by (repeat' (first | exact rfl | exact AvIs.refl _ | exact trivial | exact fun _ _ => rfl | exact fun _ _ => ⟨rfl, AvIs.refl _⟩ | refine ⟨?_, ?_⟩))) (by (repeat' (first | exact rfl | exact AvIs.refl _ | exact trivial | exact fun _ _ => rfl | exact fun _ _ => ⟨rfl, AvIs.refl _⟩ | exact fun _ hi => absurd hi (Nat.not_lt_zero _) | (intro i hi; cases Nat.lt_one_iff.1 hi; rfl) | (intro j hj; by_cases hji : j = (i); (· subst hji; simp [setRowF, setL, mkC, Wk.upM, liveM]; done); (· simp [setRowF, beq_false hji, Wk.upM, liveM, hji, lt_succ_ne hji]; done)) | refine ⟨?_, ?_⟩))))
    · have hie : i = k.clauses.length := by omega
      subst hie
      have hl := fun h => pass_less (k := k) (w := w1) k.clauses.length (Nat.le_refl _) h
      have hn := fun h => pass_none (k := k) (w := w1) k.clauses.length h
      rw [startN] at g1
      generalize passTo k w1 k.clauses.length = p at *
      obtain ⟨w2, b2⟩ := p
      dsimp only at hl hn g1
      dsimp only
      (repeat (first | refine XK.norm rfl rfl ?_ | refine XK.rgnA hT rfl rfl rfl ?_ | refine XK.rgnB hT hm rfl rfl rfl ?_))
      refine XK.inv ⟨(f, w2, b2), ⟨fun h => ?_, fun h => ?_⟩, (Weak.of hN rfl rfl rfl (by (repeat' (first | exact rfl | exact AvIs.refl _ | exact trivial | exact fun _ _ => rfl | exact fun _ _ => ⟨rfl, AvIs.refl _⟩ | refine ⟨?_, ?_⟩))) (by (repeat' (first | exact rfl | exact AvIs.refl _ | exact trivial | exact fun _ _ => rfl | exact fun _ _ => ⟨rfl, AvIs.refl _⟩ | refine ⟨?_, ?_⟩)))), ?_⟩
      · have h : b2 = true := h
        rw [if_pos h] at g1
        have := hl h
        exact ⟨g1, by show idleN k w2.mark < f; omega⟩
      · have h : b2 = false := h
        rw [if_neg (by rw [h]; simp)] at g1
        have := congrArg Prod.fst (hn h).1
        show w2 = _
        rw [← g1]
        exact this
      · dsimp only
        cases b2 <;> simp
  · have hb : b = false := hb
    subst hb
    have g2 := g2 rfl
    subst g2
    (repeat (first | refine XK.norm rfl rfl ?_ | refine XK.rgnA hT rfl rfl rfl ?_ | refine XK.rgnB hT hm rfl rfl rfl ?_))
    (first | refine XK.outR [0, 1, 2, 3] hN rfl rfl rfl ?_ rfl rfl ?_ | refine XK.outRN [0, 1, 2, 3] hN rfl rfl rfl ?_ rfl rfl ?_)
    · (repeat' (first | exact rfl | exact AvIs.refl _ | exact trivial | exact fun _ _ => rfl | exact fun _ _ => ⟨rfl, AvIs.refl _⟩ | refine ⟨?_, ?_⟩))
    · (repeat' (first | exact rfl | exact AvIs.refl _ | exact trivial | exact fun _ _ => rfl | exact fun _ _ => ⟨rfl, AvIs.refl _⟩ | refine ⟨?_, ?_⟩))
end Go.Proofs.YtofdehlikigonaaGreat
end
section
/- Contracts: package system: the clauses that run, one after the other. -/
namespace Go.Proofs.YtofdehlikigonaaGreat
open Go.Eng
set_option maxRecDepth 10000
set_option linter.unusedSimpArgs false
set_option linter.unusedVariables false
theorem wrunning_ok (k : K) (w : Wk) : DoesM Tryz.prog 92 [.ptr 0 0] (wOs k w) (.fn (.func 115) [] [.ptr 4 0]) (wOs k w ++ [.cells 115 [.ptr 0 0]]) := by
  refine DoesM.mk (fun _ => false) 100 TT_ok Tryz.func92 rfl (by kernel_rfl) Tryz.ntmps92 rfl rfl rfl fun E hT hE hN hR => ?_
  have hm : E.P.follows .mixedOrders = true := by rw [hE]; kernel_rfl
  (repeat (first | refine XK.norm rfl rfl ?_ | refine XK.rgnA hT rfl rfl rfl ?_ | refine XK.rgnB hT hm rfl rfl rfl ?_))
  (first | refine XK.outR [0, 1, 2, 3, 101] hN rfl rfl rfl ?_ rfl rfl ?_ | refine XK.outRN [0, 1, 2, 3, 101] hN rfl rfl rfl ?_ rfl rfl ?_)
  · (repeat' (first | exact rfl | exact AvIs.refl _ | exact trivial | exact fun _ _ => rfl | exact fun _ _ => ⟨rfl, AvIs.refl _⟩ | refine ⟨?_, ?_⟩))
  · (repeat' (first | exact rfl | exact AvIs.refl _ | exact trivial | exact fun _ _ => rfl | exact fun _ _ => ⟨rfl, AvIs.refl _⟩ | refine ⟨?_, ?_⟩))
def csS (k : K) (a : Nat) : List AV := frL 66 [(2, .ptr 6 0), (4, .rptr (actC (acAt k a)))]
def itS (k : K) (a : Nat) (w : Wk) : List Ob := [.cells 115 [.ptr 2 0], wO k w 3 4 5, wHold k w, wUsed k w, wMark k w, .cells 115 [.ptr 2 0]]
def itNS (k : K) (a : Nat) (w : Wk) : List (Nat × Ob) := [(1, .cells 115 [.ptr 2 0]), (2, wO k w 3 4 5), (3, wHold k w), (4, wUsed k w), (5, wMark k w), (6, .cells 115 [.ptr 2 0])]
theorem runItS_ok (k : K) (a : Nat) (hk : KFacts k) (w : Wk) (f : Nat → Mk → Mk) (L b : Nat) (rc : Array Value → Obj)
    (hY : ∀ i, i < k.clauses.length → runsM (w.mark i) = true → DoesR Tryz.prog L [.c (.int .i64 i)] (.lrec rc b (csS k a) :: itS k a (mapRun f w i)) (.c (.bool true)) (.lrec rc b (csS k a) :: itS k a (mapRun f w (i + 1)))) :
    DoesM Tryz.prog 115 [.fn (.yield L) [] [], .ptr 1 0] (.lrec rc b (csS k a) :: itS k a w) (.tup []) (.lrec rc b (csS k a) :: itS k a (mapRun f w k.clauses.length)) := by
  refine DoesM.mk (fun _ => false) 100 TT_ok Tryz.func115 rfl (by kernel_rfl) Tryz.ntmps115 rfl rfl rfl fun E hT hE hN hR => ?_
  have hm : E.P.follows .mixedOrders = true := by rw [hE]; kernel_rfl
  have hnc := hk.nc
  (repeat (first | refine XK.norm rfl rfl ?_ | refine XK.rgnA hT rfl rfl rfl ?_ | refine XK.rgnB hT hm rfl rfl rfl ?_))
  refine XK.loop (ι := Nat) (fun i => ST.of [(0, .fn (.yield L) [] []), (1, .ptr 1 0), (9, .c (.int .i64 k.clauses.length)), (10, .c (.int .i64 i))] ((0, .lrec rc b (csS k a)) :: itNS k a (mapRun f w i)) 1000 29 (fun _ => false))
    (fun i => i ≤ k.clauses.length) (fun i => k.clauses.length - i) 0 (Nat.zero_le _)
    (Weak.of hN rfl rfl rfl (by (repeat' (first | exact rfl | exact AvIs.refl _ | exact trivial | exact fun _ _ => rfl | exact fun _ _ => ⟨rfl, AvIs.refl _⟩ | refine ⟨?_, ?_⟩))) (by simp only [mapRun_zero]; (repeat' (first | exact rfl | exact AvIs.refl _ | exact trivial | exact fun _ _ => rfl | exact fun _ _ => ⟨rfl, AvIs.refl _⟩ | refine ⟨?_, ?_⟩)))) fun i hi => ?_
  (repeat (first | refine XK.norm rfl rfl ?_ | refine XK.rgnA hT rfl rfl rfl ?_ | refine XK.rgnB hT hm rfl rfl rfl ?_)); refine XK.cond rfl (fun hlt => ?_) (fun hlt => ?_) <;> (try simp at hlt)
  · have hYi := hY i hlt
    have hs := mapRun_succ f w i
    have hm0 : (mapRun f w i).mark i = w.mark i := mapRun_ge (Nat.lt_irrefl i)
    have fm : (mapRun f w i).mark (i : Int).toNat = w.mark i := hm0
    (repeat (first | refine XK.norm rfl rfl ?_ | refine XK.rgnA hT rfl rfl rfl ?_ | refine XK.rgnB hT hm rfl rfl rfl ?_))
    (repeat (first | refine XK.norm rfl rfl ?_ | refine XK.rgnA hT rfl rfl rfl ?_ | refine XK.rgnB hT hm rfl rfl rfl ?_)); refine XK.region ?_; refine XL.goA hT rfl rfl rfl rfl ?_
    refine XL.callLA hE rfl rfl rfl rfl trivial rfl (running_ok ((mapRun f w i).mark (i : Int).toNat)) rfl ?_
    rw [fm]
    refine XL.goA hT rfl rfl rfl rfl ?_
    refine XL.yieldMG [0, 1, 2, 3, 4, 5, 6] (.c (.bool false)) hE rfl rfl rfl rfl rfl rfl (fun hgd => ?_) rfl (fun hgd => ?_) (fun hgd => hYi hgd) rfl ?_ rfl (fun hgd => ?_) rfl rfl rfl (fun hgd => ?_)
    · rw [if_neg (by rw [hgd]; simp)] at hs
      refine XL.goA hT rfl rfl rfl rfl ?_; refine XL.fin ?_; (repeat (first | refine XK.norm rfl rfl ?_ | refine XK.rgnA hT rfl rfl rfl ?_ | refine XK.rgnB hT hm rfl rfl rfl ?_))
      (repeat (first | refine XK.norm rfl rfl ?_ | refine XK.rgnA hT rfl rfl rfl ?_ | refine XK.rgnB hT hm rfl rfl rfl ?_)); refine XK.cond rfl (fun hb => ?_) (fun hb => ?_)
      · exact absurd hb (by rw [hgd]; simp)
      · (repeat (first | refine XK.norm rfl rfl ?_ | refine XK.rgnA hT rfl rfl rfl ?_ | refine XK.rgnB hT hm rfl rfl rfl ?_))
        refine XK.inv ⟨i + 1, hlt, ?_, by omega⟩
        rw [hs]
        exact (Weak.of hN rfl rfl rfl (by (repeat' (first | exact rfl | exact AvIs.refl _ | exact trivial | exact fun _ _ => rfl | exact fun _ _ => ⟨rfl, AvIs.refl _⟩ | refine ⟨?_, ?_⟩))) (by (repeat' (first | exact rfl | exact AvIs.refl _ | exact trivial | exact fun _ _ => rfl | exact fun _ _ => ⟨rfl, AvIs.refl _⟩ | refine ⟨?_, ?_⟩))))
    · simp only [AllP, impG, hgd]; simp
    · (repeat' (first | exact rfl | exact AvIs.refl _ | exact trivial | exact fun _ _ => rfl | exact fun _ _ => ⟨rfl, AvIs.refl _⟩ | refine ⟨?_, ?_⟩))
    · (repeat' (first | exact rfl | exact AvIs.refl _ | exact trivial | exact fun _ _ => rfl | exact fun _ _ => ⟨rfl, AvIs.refl _⟩ | refine ⟨?_, ?_⟩))
    · refine XL.goA hT rfl rfl rfl rfl ?_; refine XL.fin ?_; (repeat (first | refine XK.norm rfl rfl ?_ | refine XK.rgnA hT rfl rfl rfl ?_ | refine XK.rgnB hT hm rfl rfl rfl ?_))
      (repeat (first | refine XK.norm rfl rfl ?_ | refine XK.rgnA hT rfl rfl rfl ?_ | refine XK.rgnB hT hm rfl rfl rfl ?_)); refine XK.cond rfl (fun hb => ?_) (fun hb => ?_)
      · exact absurd hb (by simp)
      · (repeat (first | refine XK.norm rfl rfl ?_ | refine XK.rgnA hT rfl rfl rfl ?_ | refine XK.rgnB hT hm rfl rfl rfl ?_))
        refine XK.inv ⟨i + 1, hlt, ?_, by omega⟩
        exact (Weak.of hN rfl rfl rfl (by (repeat' (first | exact rfl | exact AvIs.refl _ | exact trivial | exact fun _ _ => rfl | exact fun _ _ => ⟨rfl, AvIs.refl _⟩ | refine ⟨?_, ?_⟩))) (by (repeat' (first | exact rfl | exact AvIs.refl _ | exact trivial | exact fun _ _ => rfl | exact fun _ _ => ⟨rfl, AvIs.refl _⟩ | refine ⟨?_, ?_⟩))))
  · have hie : i = k.clauses.length := by omega
    subst hie
    (repeat (first | refine XK.norm rfl rfl ?_ | refine XK.rgnA hT rfl rfl rfl ?_ | refine XK.rgnB hT hm rfl rfl rfl ?_))
    (first | refine XK.outR [0, 1, 2, 3, 4, 5, 6] hN rfl rfl rfl ?_ rfl rfl ?_ | refine XK.outRN [0, 1, 2, 3, 4, 5, 6] hN rfl rfl rfl ?_ rfl rfl ?_)
    · (repeat' (first | exact rfl | exact AvIs.refl _ | exact trivial | exact fun _ _ => rfl | exact fun _ _ => ⟨rfl, AvIs.refl _⟩ | refine ⟨?_, ?_⟩))
    · (repeat' (first | exact rfl | exact AvIs.refl _ | exact trivial | exact fun _ _ => rfl | exact fun _ _ => ⟨rfl, AvIs.refl _⟩ | refine ⟨?_, ?_⟩))
def csT (k : K) (free : Bool) : List AV := frL 89 [(1, .ptr 6 0), (2, .vptr 7 0 1 0 0), (4, .rptr [.c (.bool free)])]
def itT (k : K) (free : Bool) (w : Wk) : List Ob := [.cells 115 [.ptr 2 0], wO k w 3 4 5, wHold k w, wUsed k w, wMark k w, .cells 115 [.ptr 2 0], .vec 147 1 0 5 (rowOf [.c .nilFunc, .fn (.func 88) [] [], .fn (.func 89) [] [], .fn (.func 90) [] [], .fn (.func 90) [] []] 1)]
def itNT (k : K) (free : Bool) (w : Wk) : List (Nat × Ob) := [(1, .cells 115 [.ptr 2 0]), (2, wO k w 3 4 5), (3, wHold k w), (4, wUsed k w), (5, wMark k w), (6, .cells 115 [.ptr 2 0]), (7, .vec 147 1 0 5 (rowOf [.c .nilFunc, .fn (.func 88) [] [], .fn (.func 89) [] [], .fn (.func 90) [] [], .fn (.func 90) [] []] 1))]
theorem runItT_ok (k : K) (free : Bool) (hk : KFacts k) (w : Wk) (f : Nat → Mk → Mk) (L b : Nat) (rc : Array Value → Obj)
    (hY : ∀ i, i < k.clauses.length → runsM (w.mark i) = true → DoesR Tryz.prog L [.c (.int .i64 i)] (.lrec rc b (csT k free) :: itT k free (mapRun f w i)) (.c (.bool true)) (.lrec rc b (csT k free) :: itT k free (mapRun f w (i + 1)))) :
    DoesM Tryz.prog 115 [.fn (.yield L) [] [], .ptr 1 0] (.lrec rc b (csT k free) :: itT k free w) (.tup []) (.lrec rc b (csT k free) :: itT k free (mapRun f w k.clauses.length)) := by
  refine DoesM.mk (fun _ => false) 100 TT_ok Tryz.func115 rfl (by kernel_rfl) Tryz.ntmps115 rfl rfl rfl fun E hT hE hN hR => ?_
  have hm : E.P.follows .mixedOrders = true := by rw [hE]; kernel_rfl
  have hnc := hk.nc
  (repeat (first | refine XK.norm rfl rfl ?_ | refine XK.rgnA hT rfl rfl rfl ?_ | refine XK.rgnB hT hm rfl rfl rfl ?_))
  refine XK.loop (ι := Nat) (fun i => ST.of [(0, .fn (.yield L) [] []), (1, .ptr 1 0), (9, .c (.int .i64 k.clauses.length)), (10, .c (.int .i64 i))] ((0, .lrec rc b (csT k free)) :: itNT k free (mapRun f w i)) 1000 29 (fun _ => false))
    (fun i => i ≤ k.clauses.length) (fun i => k.clauses.length - i) 0 (Nat.zero_le _)
    (Weak.of hN rfl rfl rfl (by (repeat' (first | exact rfl | exact AvIs.refl _ | exact trivial | exact fun _ _ => rfl | exact fun _ _ => ⟨rfl, AvIs.refl _⟩ | refine ⟨?_, ?_⟩))) (by simp only [mapRun_zero]; (repeat' (first | exact rfl | exact AvIs.refl _ | exact trivial | exact fun _ _ => rfl | exact fun _ _ => ⟨rfl, AvIs.refl _⟩ | refine ⟨?_, ?_⟩)))) fun i hi => ?_
  (repeat (first | refine XK.norm rfl rfl ?_ | refine XK.rgnA hT rfl rfl rfl ?_ | refine XK.rgnB hT hm rfl rfl rfl ?_)); refine XK.cond rfl (fun hlt => ?_) (fun hlt => ?_) <;> (try simp at hlt)
  · have hYi := hY i hlt
    have hs := mapRun_succ f w i
    have hm0 : (mapRun f w i).mark i = w.mark i := mapRun_ge (Nat.lt_irrefl i)
    have fm : (mapRun f w i).mark (i : Int).toNat = w.mark i := hm0
    (repeat (first | refine XK.norm rfl rfl ?_ | refine XK.rgnA hT rfl rfl rfl ?_ | refine XK.rgnB hT hm rfl rfl rfl ?_))
    (repeat (first | refine XK.norm rfl rfl ?_ | refine XK.rgnA hT rfl rfl rfl ?_ | refine XK.rgnB hT hm rfl rfl rfl ?_)); refine XK.region ?_; refine XL.goA hT rfl rfl rfl rfl ?_
    refine XL.callLA hE rfl rfl rfl rfl trivial rfl (running_ok ((mapRun f w i).mark (i : Int).toNat)) rfl ?_
    rw [fm]
    refine XL.goA hT rfl rfl rfl rfl ?_
    refine XL.yieldMG [0, 1, 2, 3, 4, 5, 6, 7] (.c (.bool false)) hE rfl rfl rfl rfl rfl rfl (fun hgd => ?_) rfl (fun hgd => ?_) (fun hgd => hYi hgd) rfl ?_ rfl (fun hgd => ?_) rfl rfl rfl (fun hgd => ?_)
    · rw [if_neg (by rw [hgd]; simp)] at hs
      refine XL.goA hT rfl rfl rfl rfl ?_; refine XL.fin ?_; (repeat (first | refine XK.norm rfl rfl ?_ | refine XK.rgnA hT rfl rfl rfl ?_ | refine XK.rgnB hT hm rfl rfl rfl ?_))
      (repeat (first | refine XK.norm rfl rfl ?_ | refine XK.rgnA hT rfl rfl rfl ?_ | refine XK.rgnB hT hm rfl rfl rfl ?_)); refine XK.cond rfl (fun hb => ?_) (fun hb => ?_)
      · exact absurd hb (by rw [hgd]; simp)
      · (repeat (first | refine XK.norm rfl rfl ?_ | refine XK.rgnA hT rfl rfl rfl ?_ | refine XK.rgnB hT hm rfl rfl rfl ?_))
        refine XK.inv ⟨i + 1, hlt, ?_, by omega⟩
        rw [hs]
        exact (Weak.of hN rfl rfl rfl (by (repeat' (first | exact rfl | exact AvIs.refl _ | exact trivial | exact fun _ _ => rfl | exact fun _ _ => ⟨rfl, AvIs.refl _⟩ | refine ⟨?_, ?_⟩))) (by (repeat' (first | exact rfl | exact AvIs.refl _ | exact trivial | exact fun _ _ => rfl | exact fun _ _ => ⟨rfl, AvIs.refl _⟩ | refine ⟨?_, ?_⟩))))
    · simp only [AllP, impG, hgd]; simp
    · (repeat' (first | exact rfl | exact AvIs.refl _ | exact trivial | exact fun _ _ => rfl | exact fun _ _ => ⟨rfl, AvIs.refl _⟩ | refine ⟨?_, ?_⟩))
    · (repeat' (first | exact rfl | exact AvIs.refl _ | exact trivial | exact fun _ _ => rfl | exact fun _ _ => ⟨rfl, AvIs.refl _⟩ | refine ⟨?_, ?_⟩))
    · refine XL.goA hT rfl rfl rfl rfl ?_; refine XL.fin ?_; (repeat (first | refine XK.norm rfl rfl ?_ | refine XK.rgnA hT rfl rfl rfl ?_ | refine XK.rgnB hT hm rfl rfl rfl ?_))
      (repeat (first | refine XK.norm rfl rfl ?_ | refine XK.rgnA hT rfl rfl rfl ?_ | refine XK.rgnB hT hm rfl rfl rfl ?_)); refine XK.cond rfl (fun hb => ?_) (fun hb => ?_)
      · exact absurd hb (by simp)
      · (repeat (first | refine XK.norm rfl rfl ?_ | refine XK.rgnA hT rfl rfl rfl ?_ | refine XK.rgnB hT hm rfl rfl rfl ?_))
        refine XK.inv ⟨i + 1, hlt, ?_, by omega⟩
        exact (Weak.of hN rfl rfl rfl (by (repeat' (first | exact rfl | exact AvIs.refl _ | exact trivial | exact fun _ _ => rfl | exact fun _ _ => ⟨rfl, AvIs.refl _⟩ | refine ⟨?_, ?_⟩))) (by (repeat' (first | exact rfl | exact AvIs.refl _ | exact trivial | exact fun _ _ => rfl | exact fun _ _ => ⟨rfl, AvIs.refl _⟩ | refine ⟨?_, ?_⟩))))
  · have hie : i = k.clauses.length := by omega
    subst hie
    (repeat (first | refine XK.norm rfl rfl ?_ | refine XK.rgnA hT rfl rfl rfl ?_ | refine XK.rgnB hT hm rfl rfl rfl ?_))
    (first | refine XK.outR [0, 1, 2, 3, 4, 5, 6, 7] hN rfl rfl rfl ?_ rfl rfl ?_ | refine XK.outRN [0, 1, 2, 3, 4, 5, 6, 7] hN rfl rfl rfl ?_ rfl rfl ?_)
    · (repeat' (first | exact rfl | exact AvIs.refl _ | exact trivial | exact fun _ _ => rfl | exact fun _ _ => ⟨rfl, AvIs.refl _⟩ | refine ⟨?_, ?_⟩))
    · (repeat' (first | exact rfl | exact AvIs.refl _ | exact trivial | exact fun _ _ => rfl | exact fun _ _ => ⟨rfl, AvIs.refl _⟩ | refine ⟨?_, ?_⟩))
def csP (k : K) (a : Nat) : List AV := frL 132 [(2, .ptr 6 0), (3, .rptr [.c (.int .i64 (a : Nat))])]
def itP (k : K) (a : Nat) (w : Wk) : List Ob := [.cells 115 [.ptr 2 0], wO k w 3 4 5, wHold k w, wUsed k w, wMark k w, .cells 115 [.ptr 2 0]]
def itNP (k : K) (a : Nat) (w : Wk) : List (Nat × Ob) := [(1, .cells 115 [.ptr 2 0]), (2, wO k w 3 4 5), (3, wHold k w), (4, wUsed k w), (5, wMark k w), (6, .cells 115 [.ptr 2 0])]
theorem runItP_ok (k : K) (a : Nat) (hk : KFacts k) (w : Wk) (f : Nat → Mk → Mk) (L b : Nat) (rc : Array Value → Obj)
    (hY : ∀ i, i < k.clauses.length → runsM (w.mark i) = true → DoesR Tryz.prog L [.c (.int .i64 i)] (.lrec rc b (csP k a) :: itP k a (mapRun f w i)) (.c (.bool true)) (.lrec rc b (csP k a) :: itP k a (mapRun f w (i + 1)))) :
    DoesM Tryz.prog 115 [.fn (.yield L) [] [], .ptr 1 0] (.lrec rc b (csP k a) :: itP k a w) (.tup []) (.lrec rc b (csP k a) :: itP k a (mapRun f w k.clauses.length)) := by
  refine DoesM.mk (fun _ => false) 100 TT_ok Tryz.func115 rfl (by kernel_rfl) Tryz.ntmps115 rfl rfl rfl fun E hT hE hN hR => ?_
  have hm : E.P.follows .mixedOrders = true := by rw [hE]; kernel_rfl
  have hnc := hk.nc
  (repeat (first | refine XK.norm rfl rfl ?_ | refine XK.rgnA hT rfl rfl rfl ?_ | refine XK.rgnB hT hm rfl rfl rfl ?_))
  refine XK.loop (ι := Nat) (fun i => ST.of [(0, .fn (.yield L) [] []), (1, .ptr 1 0), (9, .c (.int .i64 k.clauses.length)), (10, .c (.int .i64 i))] ((0, .lrec rc b (csP k a)) :: itNP k a (mapRun f w i)) 1000 29 (fun _ => false))
    (fun i => i ≤ k.clauses.length) (fun i => k.clauses.length - i) 0 (Nat.zero_le _)
    (Weak.of hN rfl rfl rfl (by (repeat' (first | exact rfl | exact AvIs.refl _ | exact trivial | exact fun _ _ => rfl | exact fun _ _ => ⟨rfl, AvIs.refl _⟩ | refine ⟨?_, ?_⟩))) (by simp only [mapRun_zero]; (repeat' (first | exact rfl | exact AvIs.refl _ | exact trivial | exact fun _ _ => rfl | exact fun _ _ => ⟨rfl, AvIs.refl _⟩ | refine ⟨?_, ?_⟩)))) fun i hi => ?_
  (repeat (first | refine XK.norm rfl rfl ?_ | refine XK.rgnA hT rfl rfl rfl ?_ | refine XK.rgnB hT hm rfl rfl rfl ?_)); refine XK.cond rfl (fun hlt => ?_) (fun hlt => ?_) <;> (try simp at hlt)
  · have hYi := hY i hlt
    have hs := mapRun_succ f w i
    have hm0 : (mapRun f w i).mark i = w.mark i := mapRun_ge (Nat.lt_irrefl i)
    have fm : (mapRun f w i).mark (i : Int).toNat = w.mark i := hm0
    (repeat (first | refine XK.norm rfl rfl ?_ | refine XK.rgnA hT rfl rfl rfl ?_ | refine XK.rgnB hT hm rfl rfl rfl ?_))
    (repeat (first | refine XK.norm rfl rfl ?_ | refine XK.rgnA hT rfl rfl rfl ?_ | refine XK.rgnB hT hm rfl rfl rfl ?_)); refine XK.region ?_; refine XL.goA hT rfl rfl rfl rfl ?_
    refine XL.callLA hE rfl rfl rfl rfl trivial rfl (running_ok ((mapRun f w i).mark (i : Int).toNat)) rfl ?_
    rw [fm]
    refine XL.goA hT rfl rfl rfl rfl ?_
    refine XL.yieldMG [0, 1, 2, 3, 4, 5, 6] (.c (.bool false)) hE rfl rfl rfl rfl rfl rfl (fun hgd => ?_) rfl (fun hgd => ?_) (fun hgd => hYi hgd) rfl ?_ rfl (fun hgd => ?_) rfl rfl rfl (fun hgd => ?_)
    · rw [if_neg (by rw [hgd]; simp)] at hs
      refine XL.goA hT rfl rfl rfl rfl ?_; refine XL.fin ?_; (repeat (first | refine XK.norm rfl rfl ?_ | refine XK.rgnA hT rfl rfl rfl ?_ | refine XK.rgnB hT hm rfl rfl rfl ?_))
      (repeat (first | refine XK.norm rfl rfl ?_ | refine XK.rgnA hT rfl rfl rfl ?_ | refine XK.rgnB hT hm rfl rfl rfl ?_)); refine XK.cond rfl (fun hb => ?_) (fun hb => ?_)
      · exact absurd hb (by rw [hgd]; simp)
      · (repeat (first | refine XK.norm rfl rfl ?_ | refine XK.rgnA hT rfl rfl rfl ?_ | refine XK.rgnB hT hm rfl rfl rfl ?_))
        refine XK.inv ⟨i + 1, hlt, ?_, by omega⟩
        rw [hs]
        exact (Weak.of hN rfl rfl rfl (by (repeat' (first | exact rfl | exact AvIs.refl _ | exact trivial | exact fun _ _ => rfl | exact fun _ _ => ⟨rfl, AvIs.refl _⟩ | refine ⟨?_, ?_⟩))) (by (repeat' (first | exact rfl | exact AvIs.refl _ | exact trivial | exact fun _ _ => rfl | exact fun _ _ => ⟨rfl, AvIs.refl _⟩ | refine ⟨?_, ?_⟩))))
    · simp only [AllP, impG, hgd]; simp
    · (repeat' (first | exact rfl | exact AvIs.refl _ | exact trivial | exact fun _ _ => rfl | exact fun _ _ => ⟨rfl, AvIs.refl _⟩ | refine ⟨?_, ?_⟩))
    · (repeat' (first | exact rfl | exact AvIs.refl _ | exact trivial | exact fun _ _ => rfl | exact fun _ _ => ⟨rfl, AvIs.refl _⟩ | refine ⟨?_, ?_⟩))
    · refine XL.goA hT rfl rfl rfl rfl ?_; refine XL.fin ?_; (repeat (first | refine XK.norm rfl rfl ?_ | refine XK.rgnA hT rfl rfl rfl ?_ | refine XK.rgnB hT hm rfl rfl rfl ?_))
      (repeat (first | refine XK.norm rfl rfl ?_ | refine XK.rgnA hT rfl rfl rfl ?_ | refine XK.rgnB hT hm rfl rfl rfl ?_)); refine XK.cond rfl (fun hb => ?_) (fun hb => ?_)
      · exact absurd hb (by simp)
      · (repeat (first | refine XK.norm rfl rfl ?_ | refine XK.rgnA hT rfl rfl rfl ?_ | refine XK.rgnB hT hm rfl rfl rfl ?_))
        refine XK.inv ⟨i + 1, hlt, ?_, by omega⟩
        exact (Weak.of hN rfl rfl rfl (by (repeat' (first | exact rfl | exact AvIs.refl _ | exact trivial | exact fun _ _ => rfl | exact fun _ _ => ⟨rfl, AvIs.refl _⟩ | refine ⟨?_, ?_⟩))) (by (repeat' (first | exact rfl | exact AvIs.refl _ | exact trivial | exact fun _ _ => rfl | exact fun _ _ => ⟨rfl, AvIs.refl _⟩ | refine ⟨?_, ?_⟩))))
  · have hie : i = k.clauses.length := by omega
    subst hie
    (repeat (first | refine XK.norm rfl rfl ?_ | refine XK.rgnA hT rfl rfl rfl ?_ | refine XK.rgnB hT hm rfl rfl rfl ?_))
    (first | refine XK.outR [0, 1, 2, 3, 4, 5, 6] hN rfl rfl rfl ?_ rfl rfl ?_ | refine XK.outRN [0, 1, 2, 3, 4, 5, 6] hN rfl rfl rfl ?_ rfl rfl ?_)
    · (repeat' (first | exact rfl | exact AvIs.refl _ | exact trivial | exact fun _ _ => rfl | exact fun _ _ => ⟨rfl, AvIs.refl _⟩ | refine ⟨?_, ?_⟩))
    · (repeat' (first | exact rfl | exact AvIs.refl _ | exact trivial | exact fun _ _ => rfl | exact fun _ _ => ⟨rfl, AvIs.refl _⟩ | refine ⟨?_, ?_⟩))
def csA (k : K) (a : Nat) (by_ : Int) : List AV := frL 132 [(2, .ptr 6 0), (3, .rptr [.c (.int .i64 (a : Nat))]), (6, .vptr 7 0 1 0 0), (7, .rptr [.c (.int .i64 by_)])]
def itA (k : K) (a : Nat) (by_ : Int) (w : Wk) : List Ob := [.cells 115 [.ptr 2 0], wO k w 3 4 5, wHold k w, wUsed k w, wMark k w, .cells 115 [.ptr 2 0], .vec 147 1 0 5 (rowOf [.c .nilFunc, .fn (.func 93) [] [], .fn (.func 94) [] [], .fn (.func 89) [] [], .fn (.func 89) [] []] 1)]
def itNA (k : K) (a : Nat) (by_ : Int) (w : Wk) : List (Nat × Ob) := [(1, .cells 115 [.ptr 2 0]), (2, wO k w 3 4 5), (3, wHold k w), (4, wUsed k w), (5, wMark k w), (6, .cells 115 [.ptr 2 0]), (7, .vec 147 1 0 5 (rowOf [.c .nilFunc, .fn (.func 93) [] [], .fn (.func 94) [] [], .fn (.func 89) [] [], .fn (.func 89) [] []] 1))]
theorem runItA_ok (k : K) (a : Nat) (by_ : Int) (hk : KFacts k) (w : Wk) (f : Nat → Mk → Mk) (L b : Nat) (rc : Array Value → Obj)
    (hY : ∀ i, i < k.clauses.length → runsM (w.mark i) = true → DoesR Tryz.prog L [.c (.int .i64 i)] (.lrec rc b (csA k a by_) :: itA k a by_ (mapRun f w i)) (.c (.bool true)) (.lrec rc b (csA k a by_) :: itA k a by_ (mapRun f w (i + 1)))) :
    DoesM Tryz.prog 115 [.fn (.yield L) [] [], .ptr 1 0] (.lrec rc b (csA k a by_) :: itA k a by_ w) (.tup []) (.lrec rc b (csA k a by_) :: itA k a by_ (mapRun f w k.clauses.length)) := by
  refine DoesM.mk (fun _ => false) 100 TT_ok Tryz.func115 rfl (by kernel_rfl) Tryz.ntmps115 rfl rfl rfl fun E hT hE hN hR => ?_
  have hm : E.P.follows .mixedOrders = true := by rw [hE]; kernel_rfl
  have hnc := hk.nc
  (repeat (first | refine XK.norm rfl rfl ?_ | refine XK.rgnA hT rfl rfl rfl ?_ | refine XK.rgnB hT hm rfl rfl rfl ?_))
  refine XK.loop (ι := Nat) (fun i => ST.of [(0, .fn (.yield L) [] []), (1, .ptr 1 0), (9, .c (.int .i64 k.clauses.length)), (10, .c (.int .i64 i))] ((0, .lrec rc b (csA k a by_)) :: itNA k a by_ (mapRun f w i)) 1000 29 (fun _ => false))
    (fun i => i ≤ k.clauses.length) (fun i => k.clauses.length - i) 0 (Nat.zero_le _)
    (Weak.of hN rfl rfl rfl (by (repeat' (first | exact rfl | exact AvIs.refl _ | exact trivial | exact fun _ _ => rfl | exact fun _ _ => ⟨rfl, AvIs.refl _⟩ | refine ⟨?_, ?_⟩))) (by simp only [mapRun_zero]; (repeat' (first | exact rfl | exact AvIs.refl _ | exact trivial | exact fun _ _ => rfl | exact fun _ _ => ⟨rfl, AvIs.refl _⟩ | refine ⟨?_, ?_⟩)))) fun i hi => ?_
  (repeat (first | refine XK.norm rfl rfl ?_ | refine XK.rgnA hT rfl rfl rfl ?_ | refine XK.rgnB hT hm rfl rfl rfl ?_)); refine XK.cond rfl (fun hlt => ?_) (fun hlt => ?_) <;> (try simp at hlt)
  · have hYi := hY i hlt
    have hs := mapRun_succ f w i
    have hm0 : (mapRun f w i).mark i = w.mark i := mapRun_ge (Nat.lt_irrefl i)
    have fm : (mapRun f w i).mark (i : Int).toNat = w.mark i := hm0
    (repeat (first | refine XK.norm rfl rfl ?_ | refine XK.rgnA hT rfl rfl rfl ?_ | refine XK.rgnB hT hm rfl rfl rfl ?_))
    (repeat (first | refine XK.norm rfl rfl ?_ | refine XK.rgnA hT rfl rfl rfl ?_ | refine XK.rgnB hT hm rfl rfl rfl ?_)); refine XK.region ?_; refine XL.goA hT rfl rfl rfl rfl ?_
    refine XL.callLA hE rfl rfl rfl rfl trivial rfl (running_ok ((mapRun f w i).mark (i : Int).toNat)) rfl ?_
    rw [fm]
    refine XL.goA hT rfl rfl rfl rfl ?_
    refine XL.yieldMG [0, 1, 2, 3, 4, 5, 6, 7] (.c (.bool false)) hE rfl rfl rfl rfl rfl rfl (fun hgd => ?_) rfl (fun hgd => ?_) (fun hgd => hYi hgd) rfl ?_ rfl (fun hgd => ?_) rfl rfl rfl (fun hgd => ?_)
    · rw [if_neg (by rw [hgd]; simp)] at hs
      refine XL.goA hT rfl rfl rfl rfl ?_; refine XL.fin ?_; (repeat (first | refine XK.norm rfl rfl ?_ | refine XK.rgnA hT rfl rfl rfl ?_ | refine XK.rgnB hT hm rfl rfl rfl ?_))
      (repeat (first | refine XK.norm rfl rfl ?_ | refine XK.rgnA hT rfl rfl rfl ?_ | refine XK.rgnB hT hm rfl rfl rfl ?_)); refine XK.cond rfl (fun hb => ?_) (fun hb => ?_)
      · exact absurd hb (by rw [hgd]; simp)
      · (repeat (first | refine XK.norm rfl rfl ?_ | refine XK.rgnA hT rfl rfl rfl ?_ | refine XK.rgnB hT hm rfl rfl rfl ?_))
        refine XK.inv ⟨i + 1, hlt, ?_, by omega⟩
        rw [hs]
        exact (Weak.of hN rfl rfl rfl (by (repeat' (first | exact rfl | exact AvIs.refl _ | exact trivial | exact fun _ _ => rfl | exact fun _ _ => ⟨rfl, AvIs.refl _⟩ | refine ⟨?_, ?_⟩))) (by (repeat' (first | exact rfl | exact AvIs.refl _ | exact trivial | exact fun _ _ => rfl | exact fun _ _ => ⟨rfl, AvIs.refl _⟩ | refine ⟨?_, ?_⟩))))
    · simp only [AllP, impG, hgd]; simp
    · (repeat' (first | exact rfl | exact AvIs.refl _ | exact trivial | exact fun _ _ => rfl | exact fun _ _ => ⟨rfl, AvIs.refl _⟩ | refine ⟨?_, ?_⟩))
    · (repeat' (first | exact rfl | exact AvIs.refl _ | exact trivial | exact fun _ _ => rfl | exact fun _ _ => ⟨rfl, AvIs.refl _⟩ | refine ⟨?_, ?_⟩))
    · refine XL.goA hT rfl rfl rfl rfl ?_; refine XL.fin ?_; (repeat (first | refine XK.norm rfl rfl ?_ | refine XK.rgnA hT rfl rfl rfl ?_ | refine XK.rgnB hT hm rfl rfl rfl ?_))
      (repeat (first | refine XK.norm rfl rfl ?_ | refine XK.rgnA hT rfl rfl rfl ?_ | refine XK.rgnB hT hm rfl rfl rfl ?_)); refine XK.cond rfl (fun hb => ?_) (fun hb => ?_)
      · exact absurd hb (by simp)
      · (repeat (first | refine XK.norm rfl rfl ?_ | refine XK.rgnA hT rfl rfl rfl ?_ | refine XK.rgnB hT hm rfl rfl rfl ?_))
        refine XK.inv ⟨i + 1, hlt, ?_, by omega⟩
        exact (Weak.of hN rfl rfl rfl (by (repeat' (first | exact rfl | exact AvIs.refl _ | exact trivial | exact fun _ _ => rfl | exact fun _ _ => ⟨rfl, AvIs.refl _⟩ | refine ⟨?_, ?_⟩))) (by (repeat' (first | exact rfl | exact AvIs.refl _ | exact trivial | exact fun _ _ => rfl | exact fun _ _ => ⟨rfl, AvIs.refl _⟩ | refine ⟨?_, ?_⟩))))
  · have hie : i = k.clauses.length := by omega
    subst hie
    (repeat (first | refine XK.norm rfl rfl ?_ | refine XK.rgnA hT rfl rfl rfl ?_ | refine XK.rgnB hT hm rfl rfl rfl ?_))
    (first | refine XK.outR [0, 1, 2, 3, 4, 5, 6, 7] hN rfl rfl rfl ?_ rfl rfl ?_ | refine XK.outRN [0, 1, 2, 3, 4, 5, 6, 7] hN rfl rfl rfl ?_ rfl rfl ?_)
    · (repeat' (first | exact rfl | exact AvIs.refl _ | exact trivial | exact fun _ _ => rfl | exact fun _ _ => ⟨rfl, AvIs.refl _⟩ | refine ⟨?_, ?_⟩))
    · (repeat' (first | exact rfl | exact AvIs.refl _ | exact trivial | exact fun _ _ => rfl | exact fun _ _ => ⟨rfl, AvIs.refl _⟩ | refine ⟨?_, ?_⟩))
end Go.Proofs.YtofdehlikigonaaGreat
end
section
/- Contracts: package system: shift. -/
namespace Go.Proofs.YtofdehlikigonaaGreat
open Go.Eng
set_option maxRecDepth 10000
set_option linter.unusedSimpArgs false
set_option linter.unusedVariables false
theorem wshift_ok (k : K) (hk : KFacts k) (w : Wk) (a : Nat) (ha : a < k.acts.length) (hx : (acAt k a).kind ≠ 1) : DoesM Tryz.prog 96 [.ptr 0 0, .c (.int .i64 a)] (wOs k w) (.tup []) (wOs k (giveW k w a)) := by
  refine DoesM.mk (fun _ => false) 100 TT_ok Tryz.func96 rfl (by kernel_rfl) Tryz.ntmps96 rfl rfl rfl fun E hT hE hN hR => ?_
  have hm : E.P.follows .mixedOrders = true := by rw [hE]; kernel_rfl
  have fc : k.acts.getD (a : Int).toNat default = acAt k a := rfl
  have hf := actF (hk.act a ha)
  have hg : 0 ≤ (acAt k a).give ∧ (acAt k a).give < k.holders.length := by omega
  have hnc := hk.nc
  (repeat (first | refine XK.norm rfl rfl ?_ | refine XK.rgnA hT rfl rfl rfl ?_ | refine XK.rgnB hT hm rfl rfl rfl ?_))
  refine XK.weak (Weak.of (L := [(2, .ptr 102 0), (4, .ptr 170 0), (34, .c (.bool ((acAt k a).kind != 3)))]) (O := (102, .cells 115 [.ptr 0 0]) :: (170, .cells 76 (actC (acAt k a))) :: wN k (shiftW k w a)) (nx := 1000) (nt := 66) (md := fun _ => false) hN rfl rfl rfl (by (repeat' (first | exact rfl | exact AvIs.refl _ | exact trivial | exact fun _ _ => rfl | exact fun _ _ => ⟨rfl, AvIs.refl _⟩ | refine ⟨?_, ?_⟩))) ?_) ?_
  · refine ⟨by (repeat' (first | exact rfl | exact AvIs.refl _ | exact trivial | exact fun _ _ => rfl | exact fun _ _ => ⟨rfl, AvIs.refl _⟩ | refine ⟨?_, ?_⟩)), by (repeat' (first | exact rfl | exact AvIs.refl _ | exact trivial | exact fun _ _ => rfl | exact fun _ _ => ⟨rfl, AvIs.refl _⟩ | refine ⟨?_, ?_⟩)), by (repeat' (first | exact rfl | exact AvIs.refl _ | exact trivial | exact fun _ _ => rfl | exact fun _ _ => ⟨rfl, AvIs.refl _⟩ | refine ⟨?_, ?_⟩)), ⟨⟨rfl, rfl, rfl⟩, rfl, fun j hj => ?_⟩, ⟨⟨rfl, rfl, rfl⟩, rfl, fun j hj => ?_⟩, by (repeat' (first | exact rfl | exact AvIs.refl _ | exact trivial | exact fun _ _ => rfl | exact fun _ _ => ⟨rfl, AvIs.refl _⟩ | refine ⟨?_, ?_⟩))⟩
    · show _ = setRowF (fun i => [.c (.int .i64 (w.hold i))]) (acAt k a).give.toNat 0 [.c (.int .i64 (acAt k a).to)] j
      by_cases hji : j = (acAt k a).give.toNat
      · subst hji; simp [setRowF, setL, shiftW]
      · simp [setRowF, beq_false hji, shiftW, hji]
    · by_cases hji : j = a
      · subst hji; simp [setRowF, setL, shiftW]
      · simp [setRowF, beq_false hji, shiftW, hji]
  unfold giveW
  generalize shiftW k w a = w1
  (repeat (first | refine XK.norm rfl rfl ?_ | refine XK.rgnA hT rfl rfl rfl ?_ | refine XK.rgnB hT hm rfl rfl rfl ?_)); refine XK.cond rfl (fun h3 => ?_) (fun h3 => ?_) <;> (try simp at h3)
  · rw [if_pos h3]
    (repeat (first | refine XK.norm rfl rfl ?_ | refine XK.rgnA hT rfl rfl rfl ?_ | refine XK.rgnB hT hm rfl rfl rfl ?_))
    (first | refine XK.outR [0, 1, 2, 3] hN rfl rfl rfl ?_ rfl rfl ?_ | refine XK.outRN [0, 1, 2, 3] hN rfl rfl rfl ?_ rfl rfl ?_)
    · (repeat' (first | exact rfl | exact AvIs.refl _ | exact trivial | exact fun _ _ => rfl | exact fun _ _ => ⟨rfl, AvIs.refl _⟩ | refine ⟨?_, ?_⟩))
    · (repeat' (first | exact rfl | exact AvIs.refl _ | exact trivial | exact fun _ _ => rfl | exact fun _ _ => ⟨rfl, AvIs.refl _⟩ | refine ⟨?_, ?_⟩))
  · rw [if_neg (by simpa using h3)]
    (repeat (first | refine XK.norm rfl rfl ?_ | refine XK.rgnA hT rfl rfl rfl ?_ | refine XK.rgnB hT hm rfl rfl rfl ?_))
    (repeat (first | refine XK.norm rfl rfl ?_ | refine XK.rgnA hT rfl rfl rfl ?_ | refine XK.rgnB hT hm rfl rfl rfl ?_)); refine XK.region ?_; refine XL.goA hT rfl rfl rfl rfl ?_
    refine XL.callMA [0, 1, 2, 3, 701] hE rfl rfl rfl rfl trivial (wrunning_ok k w1) rfl rfl rfl rfl rfl ?_
    refine XL.goA hT rfl rfl rfl rfl ?_; refine XL.fin ?_; (repeat (first | refine XK.norm rfl rfl ?_ | refine XK.rgnA hT rfl rfl rfl ?_ | refine XK.rgnB hT hm rfl rfl rfl ?_))
    refine XK.weak (Weak.trans (Weak.frozenC (k := 170) hN rfl rfl rfl) (Weak.of (L := [(2, .ptr 102 0), (4, .rptr (actC (acAt k a))), (36, .fn (.func 115) [] [.ptr 701 0])]) (O := (701, .cells 115 [.ptr 0 0]) :: (102, .cells 115 [.ptr 0 0]) :: wN k w1) (nx := 2000) (nt := 66) (md := fun _ => false) hN rfl rfl rfl (by (repeat' (first | exact rfl | exact AvIs.refl _ | exact trivial | exact fun _ _ => rfl | exact fun _ _ => ⟨rfl, AvIs.refl _⟩ | refine ⟨?_, ?_⟩))) (by (repeat' (first | exact rfl | exact AvIs.refl _ | exact trivial | exact fun _ _ => rfl | exact fun _ _ => ⟨rfl, AvIs.refl _⟩ | refine ⟨?_, ?_⟩))))) ?_
    refine XK.rangeFunc 900 [701, 0, 1, 2, 3, 102] (frL 66 [(2, .ptr 102 0), (4, .rptr (actC (acAt k a)))])
      (ST.of [] (wN k (mapRun (bearM k (acAt k a)) w1 k.clauses.length)) 3000 66 (fun _ => false))
      (res := .tup []) (args' := [.ptr 1 0]) (s := .ready) (pend := none) (O' := itS k a (mapRun (bearM k (acAt k a)) w1 k.clauses.length)) (O := itS k a w1) hR rfl trivial rfl (frL_length _ _) (frL_is (by (repeat' (first | exact rfl | exact AvIs.refl _ | exact trivial | exact fun _ _ => rfl | exact fun _ _ => ⟨rfl, AvIs.refl _⟩ | refine ⟨?_, ?_⟩)))) (fun L D fn => ?_) rfl (by (repeat' (first | exact rfl | exact AvIs.refl _ | exact trivial | exact fun _ _ => rfl | exact fun _ _ => ⟨rfl, AvIs.refl _⟩ | refine ⟨?_, ?_⟩))) rfl rfl (by (repeat' (first | exact rfl | exact AvIs.refl _ | exact trivial | exact fun _ _ => rfl | exact fun _ _ => ⟨rfl, AvIs.refl _⟩ | refine ⟨?_, ?_⟩))) rfl rfl (by simp) (fun L D fn cs => (Weak.of hN rfl rfl rfl (by (repeat' (first | exact rfl | exact AvIs.refl _ | exact trivial | exact fun _ _ => rfl | exact fun _ _ => ⟨rfl, AvIs.refl _⟩ | refine ⟨?_, ?_⟩))) (by (repeat' (first | exact rfl | exact AvIs.refl _ | exact trivial | exact fun _ _ => rfl | exact fun _ _ => ⟨rfl, AvIs.refl _⟩ | refine ⟨?_, ?_⟩))))) ?_
    · rw [hE]
      refine runItS_ok k a hk w1 (bearM k (acAt k a)) L L (recOf fn _ _ _ D .ready none) (fun i hi hr => ?_)
      · have hs := mapRun_succ (bearM k (acAt k a)) w1 i
        rw [if_pos hr] at hs
        have hm0 : (mapRun (bearM k (acAt k a)) w1 i).mark i = w1.mark i := mapRun_ge (Nat.lt_irrefl i)
        rw [hs]
        generalize mapRun (bearM k (acAt k a)) w1 i = w2 at *
        have fc2 : k.clauses.getD (i : Int).toNat default = clAt k i := rfl
        refine DoesR.mkT TT_ok (fun _ => false) 100 (ST.of [(2, .ptr 6 0), (4, .rptr (actC (acAt k a))), (5, .c (.int .i64 i))] ((0, .lrec (recOf fn _ _ _ D .ready none) L (csS k a)) :: itNS k a w2) 1000 66 (fun _ => false)) rfl ?_ (Nat.le_refl 6) (fun E hT hE hN hR => ?_) rfl (fun E hT hE hN hR => ?_)
        · intro x hx
          simp only [List.mem_toArray, List.mem_singleton] at hx
          subst hx
          show 37 < (frL 66 _).length
          rw [frL_length]
          omega
        · have hm : E.P.follows .mixedOrders = true := by rw [hE]; kernel_rfl
          (repeat (first | refine XK.norm rfl rfl ?_ | refine XK.rgnA hT rfl rfl rfl ?_ | refine XK.rgnB hT hm rfl rfl rfl ?_))
          exact XK.nil ⟨rfl, (Weak.of hN rfl rfl rfl (by (repeat' (first | exact rfl | exact AvIs.refl _ | exact trivial | exact fun _ _ => rfl | exact fun _ _ => ⟨rfl, AvIs.refl _⟩ | refine ⟨?_, ?_⟩))) (by (repeat' (first | exact rfl | exact AvIs.refl _ | exact trivial | exact fun _ _ => rfl | exact fun _ _ => ⟨rfl, AvIs.refl _⟩ | refine ⟨?_, ?_⟩))))⟩
        · have hm : E.P.follows .mixedOrders = true := by rw [hE]; kernel_rfl
          unfold bearM
          (repeat (first | refine XK.norm rfl rfl ?_ | refine XK.rgnA hT rfl rfl rfl ?_ | refine XK.rgnB hT hm rfl rfl rfl ?_))
          rw [fc2]
          (repeat (first | refine XK.norm rfl rfl ?_ | refine XK.rgnA hT rfl rfl rfl ?_ | refine XK.rgnB hT hm rfl rfl rfl ?_)); refine XK.cond rfl (fun h5 => ?_) (fun h5 => ?_) <;> (try simp at h5)
          · rw [if_pos (show (clAt k i).kind ≠ 4 ∧ (clAt k i).role = (acAt k a).give by simpa using h5), ← hm0]
            (repeat (first | refine XK.norm rfl rfl ?_ | refine XK.rgnA hT rfl rfl rfl ?_ | refine XK.rgnB hT hm rfl rfl rfl ?_))
            (first | refine XK.outY [0, 1, 2, 3, 4, 5, 6] hN rfl rfl rfl ?_ ?_ ?_ | refine XK.outYN [0, 1, 2, 3, 4, 5, 6] hN rfl rfl rfl ?_ ?_ ?_)
            · (repeat' (first | exact rfl | exact AvIs.refl _ | exact trivial | exact fun _ _ => rfl | exact fun _ _ => ⟨rfl, AvIs.refl _⟩ | exact fun _ hi => absurd hi (Nat.not_lt_zero _) | (intro i hi; cases Nat.lt_one_iff.1 hi; rfl) | (intro j hj; by_cases hji : j = (i); (· subst hji; simp [setRowF, setL, mkC, Wk.upM]; done); (· simp [setRowF, beq_false hji, Wk.upM, hji, lt_succ_ne hji]; done)) | refine ⟨?_, ?_⟩))
            · rfl
            · rfl
          · rw [if_neg (show ¬ ((clAt k i).kind ≠ 4 ∧ (clAt k i).role = (acAt k a).give) by simpa using h5), ← hm0, upM_self]
            (repeat (first | refine XK.norm rfl rfl ?_ | refine XK.rgnA hT rfl rfl rfl ?_ | refine XK.rgnB hT hm rfl rfl rfl ?_))
            (first | refine XK.outY [0, 1, 2, 3, 4, 5, 6] hN rfl rfl rfl ?_ ?_ ?_ | refine XK.outYN [0, 1, 2, 3, 4, 5, 6] hN rfl rfl rfl ?_ ?_ ?_)
            · (repeat' (first | exact rfl | exact AvIs.refl _ | exact trivial | exact fun _ _ => rfl | exact fun _ _ => ⟨rfl, AvIs.refl _⟩ | refine ⟨?_, ?_⟩))
            · rfl
            · rfl
    · (repeat (first | refine XK.norm rfl rfl ?_ | refine XK.rgnA hT rfl rfl rfl ?_ | refine XK.rgnB hT hm rfl rfl rfl ?_))
      (first | refine XK.outR [0, 1, 2, 3] hN rfl rfl rfl ?_ rfl rfl ?_ | refine XK.outRN [0, 1, 2, 3] hN rfl rfl rfl ?_ rfl rfl ?_)
      · (repeat' (first | exact rfl | exact AvIs.refl _ | exact trivial | exact fun _ _ => rfl | exact fun _ _ => ⟨rfl, AvIs.refl _⟩ | refine ⟨?_, ?_⟩))
      · (repeat' (first | exact rfl | exact AvIs.refl _ | exact trivial | exact fun _ _ => rfl | exact fun _ _ => ⟨rfl, AvIs.refl _⟩ | refine ⟨?_, ?_⟩))
end Go.Proofs.YtofdehlikigonaaGreat
end
