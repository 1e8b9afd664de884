import Derived.Test.YtlcfoelfcnhenaaGreatDoorZz14
import Derived.Test.YtlcfoelfcnhenaaGreatDoorZz20
import Derived.Test.YtlcfoelfcnhenaaGreatDoorZz18
set_option linter.unusedSimpArgs false
set_option linter.unusedVariables false
set_option maxRecDepth 10000
namespace Go.Proofs.YtlcfoelfcnhenaaGreatDoor
section
open Go.Eng
theorem doerM_ok (k : K) (hk : KFacts k) (w : Wk) (a : Nat) (ha : a < k.acts.length) : DoesM Tryz.prog 78 [kV k, .agg [.c (.int .i64 w.day), .vec 0 0, .vec 1 0, .vec 2 0], .c (.int .i64 a)] (wRows k w) (.c (.int .i64 (doerW k w.hold a))) (wRows k w) := by
  refine DoesM.mk (fun _ => false) 100 TT_ok Tryz.func78 rfl (by kernel_rfl) Tryz.ntmps78 rfl rfl rfl fun E hT hE hN hR => ?_
  have hm := mixO hE
  have fc : k.acts.getD (a : Int).toNat default = acAt k a := rfl
  have hr := (actF (hk.act a ha)).1
  (repeat (first | refine XK.n ?_ | refine XK.a ?_ | refine XK.b ?_))
  rw [fc]
  generalize hx : acAt k a = x at *
  (repeat (first | refine XK.n ?_ | refine XK.a ?_ | refine XK.b ?_)); refine XK.cond rfl (fun h0 => ?_) (fun h0 => ?_) <;> (try simp at h0)
  · (repeat (first | refine XK.n ?_ | refine XK.a ?_ | refine XK.b ?_))
    (first | refine XK.outR [0, 1, 2] hN rfl rfl rfl ?_ rfl rfl ?_ | refine XK.outRN [0, 1, 2] hN rfl rfl rfl ?_ rfl rfl ?_)
    · exact frI
    · rw [doerW, hx, if_pos h0]; exact AvIs.refl _
  · (repeat (first | refine XK.n ?_ | refine XK.a ?_ | refine XK.b ?_))
    rw [fc]
    (first | refine XK.outR [0, 1, 2] hN rfl rfl rfl ?_ rfl rfl ?_ | refine XK.outRN [0, 1, 2] hN rfl rfl rfl ?_ rfl rfl ?_)
    · exact frI
    · rw [doerW, hx, if_neg h0]
      rfl
def fxA : Ob := .vec 161 1 0 5 (rowOf [.c .nilFunc, .fn (.func 76) [] [], .fn (.func 77) [] [], .fn (.func 72) [] [], .fn (.func 72) [] []] 1)
theorem wact_ok (k : K) (hk : KFacts k) (w : Wk) (a : Nat) (ha : a < k.acts.length) (hl : ∀ i, i < k.clauses.length → runsM (w.mark i) = true → RunF k (clAt k i) (w.mark i)) : DoesM Tryz.prog 42 [.ptr 0 0, .c (.int .i64 a)] (wOs k w) (.tup []) (wOs k (actW' k w a)) := by
  refine DoesM.mk (fun _ => false) 100 TT_ok Tryz.func42 rfl (by kernel_rfl) Tryz.ntmps42 rfl rfl rfl fun E hT hE hN hR => ?_
  have hm := mixO hE
  have hnc := hk.nc
  have fc : k.acts.getD (a : Int).toNat default = acAt k a := rfl
  (repeat (first | refine XK.n ?_ | refine XK.a ?_ | refine XK.b ?_))
  refine XK.weak (Weak.trans (Weak.frozenC (k := 103) hN rfl rfl rfl) (Weak.trans (Weak.frozenC (k := 236) hN rfl rfl rfl) (Weak.of (L := [(2, .ptr 102 0), (3, .rptr [.c (.int .i64 (a : Nat))]), (4, .rptr (actC (acAt k a))), (30, .c (.bool ((acAt k a).kind != 1 && w.used a)))]) (O := (102, .cells 101 [.ptr 0 0]) :: wN k w) (nx := 1000) (nt := 132) (md := fun _ => false) hN rfl rfl rfl frI frI))) ?_
  unfold actW'
  (repeat (first | refine XK.n ?_ | refine XK.a ?_ | refine XK.b ?_)); refine XK.cond rfl (fun h1 => ?_) (fun h1 => ?_) <;> (try simp at h1)
  · rw [if_pos (show (acAt k a).kind ≠ 1 ∧ w.used a = true by simpa using h1)]
    (repeat (first | refine XK.n ?_ | refine XK.a ?_ | refine XK.b ?_))
    (first | refine XK.outR [0, 1, 2, 3] hN rfl rfl rfl ?_ rfl rfl ?_ | refine XK.outRN [0, 1, 2, 3] hN rfl rfl rfl ?_ rfl rfl ?_)
    · exact frI
    · exact frI
  · rw [if_neg (show ¬ ((acAt k a).kind ≠ 1 ∧ w.used a = true) by simpa using h1)]
    clear h1
    have hpre : preA k w a = mapRun (effM k a (doerW k w.hold a)) (mapRun (pauseM k a) w k.clauses.length) k.clauses.length := rfl
    have hl1 : ∀ i, i < k.clauses.length → runsM ((mapRun (pauseM k a) w k.clauses.length).mark i) = true → RunF k (clAt k i) ((mapRun (pauseM k a) w k.clauses.length).mark i) := fun i hi hr => by
      rw [mapRun_mk hi] at hr ⊢
      split at hr
      · rename_i h2
        rw [if_pos h2]
        exact pause_keep (hl i hi h2) (by omega)
      · rename_i h2
        exact absurd hr h2
    have hd1 : doerW k (mapRun (pauseM k a) w k.clauses.length).hold a = doerW k w.hold a := rfl
    (repeat (first | refine XK.n ?_ | refine XK.a ?_ | refine XK.b ?_)); refine XK.region ?_; refine XL.g ?_
    refine XL.callMA [0, 1, 2, 3, 701] hE rfl rfl rfl rfl trivial (wrunning_ok k w) rfl rfl rfl rfl rfl ?_
    refine XL.g ?_; refine XL.fin ?_; (repeat (first | refine XK.n ?_ | refine XK.a ?_ | refine XK.b ?_))
    refine XK.weak (Weak.of (L := [(2, .ptr 102 0), (3, .rptr [.c (.int .i64 (a : Nat))]), (4, .rptr (actC (acAt k a))), (32, .fn (.func 124) [] [.ptr 701 0])]) (O := (701, .cells 101 [.ptr 0 0]) :: (102, .cells 101 [.ptr 0 0]) :: wN k w) (nx := 2000) (nt := 132) (md := fun _ => false) hN rfl rfl rfl frI frI) ?_
    refine XK.rangeFunc 900 [701, 0, 1, 2, 3, 102] (frL 132 [(2, .ptr 102 0), (3, .rptr [.c (.int .i64 (a : Nat))])])
      (ST.of [(2, .ptr 102 0), (3, .rptr [.c (.int .i64 (a : Nat))]), (4, .rptr (actC (acAt k a)))] ((102, .cells 101 [.ptr 0 0]) :: wN k (mapRun (pauseM k a) w k.clauses.length)) 3000 132 (fun _ => false))
      (res := .tup []) (args' := [.ptr 1 0]) (s := .ready) (pend := none) (O' := itP k a (mapRun (pauseM k a) w k.clauses.length)) (O := itP k a w) hR rfl trivial rfl (frL_length _ _) (frL_is frI) (fun L D fn => ?_) rfl frI rfl rfl frI rfl rfl (by simp) (fun L D fn cs => (Weak.of hN rfl rfl rfl frI frI)) ?_
    · rw [hE]
      refine runItP_ok k a hk w (pauseM k a) L L (recOf fn _ _ _ D .ready none) (fun i hi hr => ?_)
      have hs := mapRun_succ (pauseM k a) w i
      rw [if_pos hr] at hs
      have hm0 : (mapRun (pauseM k a) w i).mark i = w.mark i := mapRun_ge (Nat.lt_irrefl i)
      rw [hs]
      generalize mapRun (pauseM k a) w i = w2 at *
      have fc2 : k.clauses.getD (i : Int).toNat default = clAt k i := rfl
      refine DoesR.mkT TT_ok (fun _ => false) 100 (ST.of [(2, .ptr 6 0), (3, .rptr [.c (.int .i64 (a : Nat))]), (5, .c (.int .i64 i))] ((0, .lrec (recOf fn _ _ _ D .ready none) L (csP k a)) :: itNP k a w2) 1000 132 (fun _ => false)) rfl ?_ (Nat.le_refl 6) (fun E hT hE hN hR => ?_) rfl (fun E hT hE hN hR => ?_)
      · intro x hx
        simp only [List.mem_toArray, List.mem_singleton] at hx
        subst hx
        show 33 < (frL 132 _).length
        rw [frL_length]
        omega
      · have hm := mixO hE
        (repeat (first | refine XK.n ?_ | refine XK.a ?_ | refine XK.b ?_))
        exact XK.nil ⟨rfl, (Weak.of hN rfl rfl rfl frI frI)⟩
      · have hm := mixO hE
        unfold pauseM
        (repeat (first | refine XK.n ?_ | refine XK.a ?_ | refine XK.b ?_))
        rw [fc2]
        (repeat (first | refine XK.n ?_ | refine XK.a ?_ | refine XK.b ?_)); refine XK.cond rfl (fun h5 => ?_) (fun h5 => ?_) <;> (try simp at h5)
        · rw [if_pos (show (a : Int) = (clAt k i).pause by simpa using h5), ← hm0]
          (repeat (first | refine XK.n ?_ | refine XK.a ?_ | refine XK.b ?_))
          (first | refine XK.outY [0, 1, 2, 3, 4, 5, 6] hN rfl rfl rfl ?_ ?_ ?_ | refine XK.outYN [0, 1, 2, 3, 4, 5, 6] hN rfl rfl rfl ?_ ?_ ?_)
          · (repeat' (first | exact rfl | exact AvIs.refl _ | exact trivial | exact fun _ _ => rfl | exact fun _ _ => ⟨rfl, AvIs.refl _⟩ | exact fun _ hi => absurd hi (Nat.not_lt_zero _) | (intro i hi; cases Nat.lt_one_iff.1 hi; rfl) | (intro j hj; by_cases hji : j = (i); (· subst hji; simp [setRowF, setL, mkC, Wk.upM]; done); (· simp [setRowF, beq_false hji, Wk.upM, hji, lt_succ_ne hji]; done)) | refine ⟨?_, ?_⟩))
          · rfl
          · rfl
        · rw [if_neg (show ¬ (a : Int) = (clAt k i).pause by simpa using h5), ← hm0]
          (repeat (first | refine XK.n ?_ | refine XK.a ?_ | refine XK.b ?_))
          rw [fc2]
          (repeat (first | refine XK.n ?_ | refine XK.a ?_ | refine XK.b ?_)); refine XK.cond rfl (fun h6 => ?_) (fun h6 => ?_) <;> (try simp at h6)
          · rw [if_pos (show (a : Int) = (clAt k i).resume by simpa using h6)]
            (repeat (first | refine XK.n ?_ | refine XK.a ?_ | refine XK.b ?_))
            (first | refine XK.outY [0, 1, 2, 3, 4, 5, 6] hN rfl rfl rfl ?_ ?_ ?_ | refine XK.outYN [0, 1, 2, 3, 4, 5, 6] hN rfl rfl rfl ?_ ?_ ?_)
            · (repeat' (first | exact rfl | exact AvIs.refl _ | exact trivial | exact fun _ _ => rfl | exact fun _ _ => ⟨rfl, AvIs.refl _⟩ | exact fun _ hi => absurd hi (Nat.not_lt_zero _) | (intro i hi; cases Nat.lt_one_iff.1 hi; rfl) | (intro j hj; by_cases hji : j = (i); (· subst hji; simp [setRowF, setL, mkC, Wk.upM]; done); (· simp [setRowF, beq_false hji, Wk.upM, hji, lt_succ_ne hji]; done)) | refine ⟨?_, ?_⟩))
            · rfl
            · rfl
          · rw [if_neg (show ¬ (a : Int) = (clAt k i).resume by simpa using h6), upM_self]
            (repeat (first | refine XK.n ?_ | refine XK.a ?_ | refine XK.b ?_))
            (first | refine XK.outY [0, 1, 2, 3, 4, 5, 6] hN rfl rfl rfl ?_ ?_ ?_ | refine XK.outYN [0, 1, 2, 3, 4, 5, 6] hN rfl rfl rfl ?_ ?_ ?_)
            · exact frI
            · rfl
            · rfl
    · generalize mapRun (pauseM k a) w k.clauses.length = w1 at *
      rw [← hd1] at hpre
      (repeat (first | refine XK.n ?_ | refine XK.a ?_ | refine XK.b ?_))
      refine XK.weak (Weak.of (L := [(2, .ptr 102 0), (3, .rptr [.c (.int .i64 (a : Nat))]), (4, .rptr (actC (acAt k a))), (6, .vptr 3006 0 1 0 0)]) (O := (102, .cells 101 [.ptr 0 0]) :: (3006, fxA) :: wN k w1) (nx := 4000) (nt := 132) (md := fun _ => false) hN rfl rfl rfl frI frI) ?_
      have hdm := doerM_ok k hk w1 a ha
      generalize doerW k w1.hold a = by_ at *
      (repeat (first | refine XK.n ?_ | refine XK.a ?_ | refine XK.b ?_)); refine XK.drawn hm ?_; refine XD.goA hT rfl rfl rfl rfl ?_
      refine XD.callMA [1, 2, 3] hE rfl rfl rfl rfl trivial (hdm) rfl rfl rfl rfl rfl ?_
      refine XD.goA hT rfl rfl rfl rfl ?_; refine XD.fin (by kernel_rfl) ?_; (repeat (first | refine XK.n ?_ | refine XK.a ?_ | refine XK.b ?_))
      refine XK.weak (Weak.trans (Weak.frozenC (k := 4007) hN rfl rfl rfl) (Weak.of (L := [(2, .ptr 102 0), (3, .rptr [.c (.int .i64 (a : Nat))]), (4, .rptr (actC (acAt k a))), (6, .vptr 3006 0 1 0 0), (7, .rptr [.c (.int .i64 by_)])]) (O := (102, .cells 101 [.ptr 0 0]) :: (3006, fxA) :: wN k w1) (nx := 5000) (nt := 132) (md := fun _ => false) hN rfl rfl rfl frI frI)) ?_
      (repeat (first | refine XK.n ?_ | refine XK.a ?_ | refine XK.b ?_)); refine XK.region ?_; refine XL.g ?_
      refine XL.callMA [0, 1, 2, 3, 701] hE rfl rfl rfl rfl trivial (wrunning_ok k w1) rfl rfl rfl rfl rfl ?_
      refine XL.g ?_; refine XL.fin ?_; (repeat (first | refine XK.n ?_ | refine XK.a ?_ | refine XK.b ?_))
      refine XK.weak (Weak.of (L := [(2, .ptr 102 0), (3, .rptr [.c (.int .i64 (a : Nat))]), (4, .rptr (actC (acAt k a))), (6, .vptr 3006 0 1 0 0), (7, .rptr [.c (.int .i64 by_)]), (85, .fn (.func 124) [] [.ptr 701 0])]) (O := (701, .cells 101 [.ptr 0 0]) :: (102, .cells 101 [.ptr 0 0]) :: (3006, fxA) :: wN k w1) (nx := 6000) (nt := 132) (md := fun _ => false) hN rfl rfl rfl frI frI) ?_
      refine XK.rangeFunc 900 [701, 0, 1, 2, 3, 102, 3006] (frL 132 [(2, .ptr 102 0), (3, .rptr [.c (.int .i64 (a : Nat))]), (6, .vptr 3006 0 1 0 0), (7, .rptr [.c (.int .i64 by_)])])
        (ST.of [(2, .ptr 102 0), (3, .rptr [.c (.int .i64 (a : Nat))]), (4, .rptr (actC (acAt k a)))] ((102, .cells 101 [.ptr 0 0]) :: wN k (mapRun (effM k a by_) w1 k.clauses.length)) 7000 132 (fun _ => false))
        (res := .tup []) (args' := [.ptr 1 0]) (s := .ready) (pend := none) (O' := itA k a by_ (mapRun (effM k a by_) w1 k.clauses.length)) (O := itA k a by_ w1) hR rfl trivial rfl (frL_length _ _) (frL_is frI) (fun L D fn => ?_) rfl frI rfl rfl frI rfl rfl (by simp) (fun L D fn cs => (Weak.of hN rfl rfl rfl frI frI)) ?_
      · rw [hE]
        refine runItA_ok k a by_ hk w1 (effM k a by_) L L (recOf fn _ _ _ D .ready none) (fun i hi hr => ?_)
        have hs := mapRun_succ (effM k a by_) w1 i
        rw [if_pos hr] at hs
        have hm0 : (mapRun (effM k a by_) w1 i).mark i = w1.mark i := mapRun_ge (Nat.lt_irrefl i)
        have hrf := hl1 i hi hr
        have hbd := (run_bd hk hi hrf).1
        rw [hs]
        generalize mapRun (effM k a by_) w1 i = w2 at *
        have fc2 : k.clauses.getD (i : Int).toNat default = clAt k i := rfl
        have hkw := kindW (hk.clB hi).2.2.1
        have hk4 : (clAt k i).kind = 1 ∨ (clAt k i).kind = 2 ∨ (clAt k i).kind = 3 ∨ (clAt k i).kind = 4 := by omega
        refine DoesR.mkT TT_ok (fun _ => false) 100 (ST.of [(2, .ptr 6 0), (3, .rptr [.c (.int .i64 (a : Nat))]), (6, .vptr 7 0 1 0 0), (7, .rptr [.c (.int .i64 by_)]), (8, .c (.int .i64 i))] ((0, .lrec (recOf fn _ _ _ D .ready none) L (csA k a by_)) :: itNA k a by_ w2) 1000 132 (fun _ => false)) rfl ?_ (Nat.le_refl 7) (fun E hT hE hN hR => ?_) rfl (fun E hT hE hN hR => ?_)
        · intro x hx
          simp only [List.mem_toArray, List.mem_singleton] at hx
          subst hx
          show 86 < (frL 132 _).length
          rw [frL_length]
          omega
        · have hm := mixO hE
          (repeat (first | refine XK.n ?_ | refine XK.a ?_ | refine XK.b ?_))
          exact XK.nil ⟨rfl, (Weak.of hN rfl rfl rfl frI frI)⟩
        · have hm := mixO hE
          unfold effM
          rw [← hm0] at hbd ⊢
          (repeat (first | refine XK.n ?_ | refine XK.a ?_ | refine XK.b ?_))
          rw [fc2]
          (repeat (first | refine XK.n ?_ | refine XK.a ?_ | refine XK.b ?_)); refine XK.cond rfl (fun h5 => ?_) (fun h5 => ?_)
          · have h5 : ((clAt k i).act == (a : Int) && ((clAt k i).kind == 4 || (w2.mark i).bearer == by_)) = true := h5
            rw [if_pos (show (clAt k i).act = (a : Int) ∧ ((clAt k i).kind = 4 ∨ (w2.mark i).bearer = by_) by simpa using h5)]
            refine XK.weak (Weak.of (L := [(2, .ptr 6 0), (3, .rptr [.c (.int .i64 (a : Nat))]), (6, .vptr 7 0 1 0 0), (7, .rptr [.c (.int .i64 by_)]), (8, .c (.int .i64 i)), (9, .ptr 1009 0)]) (O := (1009, .cells 56 (clC (clAt k i))) :: (0, .lrec (recOf fn _ _ _ D .busy none) L (csA k a by_)) :: itNA k a by_ w2) (nx := 2000) (nt := 132) (md := fun _ => false) hN rfl rfl rfl frI frI) ?_
            unfold doM
            rcases hk4 with h7 | h7 | h7 | h7
            · rw [if_pos h7, clC_kind h7]
              (repeat (first | refine XK.n ?_ | refine XK.a ?_ | refine XK.b ?_)); refine XK.drawn hm ?_; refine XD.goA hT rfl rfl rfl rfl ?_
              refine XD.callMA [2, 3, 4, 5] hE rfl rfl rfl rfl trivial (perform_ok k hk w2 i hi (by omega)) rfl rfl rfl rfl rfl ?_
              refine XD.goA hT rfl rfl rfl rfl ?_; refine XD.fin (by kernel_rfl) ?_; (repeat (first | refine XK.n ?_ | refine XK.a ?_ | refine XK.b ?_))
              (first | refine XK.outY [0, 1, 2, 3, 4, 5, 6, 7] hN rfl rfl rfl ?_ ?_ ?_ | refine XK.outYN [0, 1, 2, 3, 4, 5, 6, 7] hN rfl rfl rfl ?_ ?_ ?_)
              · exact frI
              · rfl
              · rfl
            · rw [if_neg (by omega), if_pos h7, clC_kind h7]
              (repeat (first | refine XK.n ?_ | refine XK.a ?_ | refine XK.b ?_)); refine XK.drawn hm ?_; refine XD.goA hT rfl rfl rfl rfl ?_
              refine XD.callMA [2, 3, 4, 5] hE rfl rfl rfl rfl trivial (violate_ok k w2 i hi) rfl rfl rfl rfl rfl ?_
              refine XD.goA hT rfl rfl rfl rfl ?_; refine XD.fin (by kernel_rfl) ?_; (repeat (first | refine XK.n ?_ | refine XK.a ?_ | refine XK.b ?_))
              (first | refine XK.outY [0, 1, 2, 3, 4, 5, 6, 7] hN rfl rfl rfl ?_ ?_ ?_ | refine XK.outYN [0, 1, 2, 3, 4, 5, 6, 7] hN rfl rfl rfl ?_ ?_ ?_)
              · exact frI
              · rfl
              · rfl
            · rw [if_neg (by omega), if_neg (by omega), clC_kind h7]
              (repeat (first | refine XK.n ?_ | refine XK.a ?_ | refine XK.b ?_)); refine XK.drawn hm ?_; refine XD.goA hT rfl rfl rfl rfl ?_
              refine XD.callMA [2, 3, 4, 5] hE rfl rfl rfl rfl trivial (done_ok k w2 i hi) rfl rfl rfl rfl rfl ?_
              refine XD.goA hT rfl rfl rfl rfl ?_; refine XD.fin (by kernel_rfl) ?_; (repeat (first | refine XK.n ?_ | refine XK.a ?_ | refine XK.b ?_))
              (first | refine XK.outY [0, 1, 2, 3, 4, 5, 6, 7] hN rfl rfl rfl ?_ ?_ ?_ | refine XK.outYN [0, 1, 2, 3, 4, 5, 6, 7] hN rfl rfl rfl ?_ ?_ ?_)
              · exact frI
              · rfl
              · rfl
            · rw [if_neg (by omega), if_neg (by omega), clC_kind h7]
              (repeat (first | refine XK.n ?_ | refine XK.a ?_ | refine XK.b ?_)); refine XK.drawn hm ?_; refine XD.goA hT rfl rfl rfl rfl ?_
              refine XD.callMA [2, 3, 4, 5] hE rfl rfl rfl rfl trivial (done_ok k w2 i hi) rfl rfl rfl rfl rfl ?_
              refine XD.goA hT rfl rfl rfl rfl ?_; refine XD.fin (by kernel_rfl) ?_; (repeat (first | refine XK.n ?_ | refine XK.a ?_ | refine XK.b ?_))
              (first | refine XK.outY [0, 1, 2, 3, 4, 5, 6, 7] hN rfl rfl rfl ?_ ?_ ?_ | refine XK.outYN [0, 1, 2, 3, 4, 5, 6, 7] hN rfl rfl rfl ?_ ?_ ?_)
              · exact frI
              · rfl
              · rfl
          · have h5 : ((clAt k i).act == (a : Int) && ((clAt k i).kind == 4 || (w2.mark i).bearer == by_)) = false := h5
            rw [if_neg (show ¬ ((clAt k i).act = (a : Int) ∧ ((clAt k i).kind = 4 ∨ (w2.mark i).bearer = by_)) by simpa using h5), upM_self]
            (repeat (first | refine XK.n ?_ | refine XK.a ?_ | refine XK.b ?_))
            (first | refine XK.outY [0, 1, 2, 3, 4, 5, 6, 7] hN rfl rfl rfl ?_ ?_ ?_ | refine XK.outYN [0, 1, 2, 3, 4, 5, 6, 7] hN rfl rfl rfl ?_ ?_ ?_)
            · exact frI
            · rfl
            · rfl
      · generalize mapRun (effM k a by_) w1 k.clauses.length = w3 at *
        have hpG : preG k w a = if (acAt k a).kind ≠ 1 then giveW k w3 a else w3 := by rw [← hpre]; rfl
        rw [hpG]
        (repeat (first | refine XK.n ?_ | refine XK.a ?_ | refine XK.b ?_)); refine XK.cond rfl (fun h9 => ?_) (fun h9 => ?_) <;> (try simp at h9)
        · rw [if_pos h9]
          (repeat (first | refine XK.n ?_ | refine XK.a ?_ | refine XK.b ?_))
          (repeat (first | refine XK.n ?_ | refine XK.a ?_ | refine XK.b ?_)); refine XK.region ?_; refine XL.g ?_
          refine XL.callMA [0, 1, 2, 3] hE rfl rfl rfl rfl trivial (wshift_ok k hk w3 a ha h9) rfl rfl rfl rfl rfl ?_
          refine XL.g ?_; refine XL.fin ?_; (repeat (first | refine XK.n ?_ | refine XK.a ?_ | refine XK.b ?_))
          (repeat (first | refine XK.n ?_ | refine XK.a ?_ | refine XK.b ?_)); refine XK.region ?_; refine XL.g ?_
          refine XL.callMA [0, 1, 2, 3] hE rfl rfl rfl rfl trivial (wstart_ok k hk (giveW k w3 a)) rfl rfl rfl rfl rfl ?_
          refine XL.g ?_; refine XL.fin ?_; (repeat (first | refine XK.n ?_ | refine XK.a ?_ | refine XK.b ?_))
          (first | refine XK.outR [0, 1, 2, 3] hN rfl rfl rfl ?_ rfl rfl ?_ | refine XK.outRN [0, 1, 2, 3] hN rfl rfl rfl ?_ rfl rfl ?_)
          · exact frI
          · exact frI
        · rw [if_neg (by simpa using h9)]
          (repeat (first | refine XK.n ?_ | refine XK.a ?_ | refine XK.b ?_))
          (repeat (first | refine XK.n ?_ | refine XK.a ?_ | refine XK.b ?_)); refine XK.region ?_; refine XL.g ?_
          refine XL.callMA [0, 1, 2, 3] hE rfl rfl rfl rfl trivial (wstart_ok k hk w3) rfl rfl rfl rfl rfl ?_
          refine XL.g ?_; refine XL.fin ?_; (repeat (first | refine XK.n ?_ | refine XK.a ?_ | refine XK.b ?_))
          (first | refine XK.outR [0, 1, 2, 3] hN rfl rfl rfl ?_ rfl rfl ?_ | refine XK.outRN [0, 1, 2, 3] hN rfl rfl rfl ?_ rfl rfl ?_)
          · exact frI
          · exact frI
end
section
open Go.Eng
def outS (k : K) (w : Wk) : St := ⟨w.day, (List.range k.holders.length).map w.hold, (List.range k.acts.length).map w.used, (List.range k.clauses.length).map w.mark⟩
def zS : St := ⟨0, [], [], []⟩
noncomputable def stepS (k : K) (s : St) (t : Int) : St × Int := if (!validS k s || decide (t < -1) || decide ((k.acts.length : Int) ≤ t)) = true then (zS, 1) else if s.day = k.days then (zS, 13) else (outS k (stepW k s.wk t), 0)
def sr (r : St × Int) : AV := .tup [stV r.1, .c (.int .i64 r.2)]
def nilS : AV := .agg [.c (.int .i64 0), .c (.slice none 0 0), .c (.slice none 0 0), .c (.slice none 0 0)]
def rawS (k : K) (w : Wk) : AV := .agg [.c (.int .i64 w.day), .rs 1 k.holders.length (fun i => [.c (.int .i64 (w.hold i))]), .rs 1 k.acts.length (fun i => [.c (.bool (w.used i))]), .rs 5 k.clauses.length (fun i => mkC (w.mark i))]
theorem map_getD {β : Type} [Inhabited β] (f : Nat → β) {n i : Nat} (h : i < n) : ((List.range n).map f).getD i default = f i := by
  simp [List.getD, h]
theorem AvS.tup {l l' : List AV} (h : AvSL l l') : AvS (.tup l) (.tup l') := by
  intro w G ρ v hr
  obtain ⟨h1, h2⟩ := h.at_
  obtain ⟨cs, rfl, hs, hc⟩ : ∃ cs, v = .tuple cs ∧ cs.size = l.length ∧ ∀ i a, l[i]? = some a → R w G ρ a (cs.getD i undef) := by
    cases hr with
    | tup hs hc => exact ⟨_, rfl, hs, hc⟩
  refine .tup (by omega) fun i y hy => ?_
  obtain ⟨x, hx, hxy⟩ := h2 i y hy
  exact hxy _ _ _ _ (hc i x hx)
theorem outS_is (k : K) (w : Wk) : AvS (.tup [rawS k w, .c (.int .i64 0)]) (.tup [stV (outS k w), .c (.int .i64 0)]) := by
  have rs {sz n m : Nat} {f g : Nat → List AV} (h : m = n) (h2 : ∀ i, i < n → f i = g i) : AvS (.rs sz n f) (.rs sz m g) := by
    subst h
    exact AvS.rs fun i hi => by rw [h2 i hi]; exact AvSL.refl _
  refine AvS.tup ⟨AvS.agg ⟨AvS.refl _, rs (by simp [outS]) fun i hi => ?_, rs (by simp [outS]) fun i hi => ?_, rs (by simp [outS]) fun i hi => ?_, trivial⟩, AvS.refl _, trivial⟩
  · show _ = iC (((List.range k.holders.length).map w.hold).getD i default)
    rw [map_getD _ hi]; rfl
  · show _ = bC (((List.range k.acts.length).map w.used).getD i default)
    rw [map_getD _ hi]; rfl
  · show _ = mkC (((List.range k.clauses.length).map w.mark).getD i default)
    rw [map_getD _ hi]
theorem stepErr_ok (k : K) (hk : kW k) (s : St) (t : Int) (h : (!validS k s || decide (t < -1) || decide ((k.acts.length : Int) ≤ t)) = true) : Does Tryz.prog 13 [kV k, stV s, .c (.int .i64 t)] (.tup [nilS, .c (.int .i64 1)]) := by
  refine Does.mk (fun _ => false) TT_ok Tryz.func13 rfl (by kernel_rfl) Tryz.ntmps13 rfl rfl fun E hT hE hN hR => ?_
  have hm := mixO hE
  (repeat (first | refine XK.n ?_ | refine XK.a ?_ | refine XK.b ?_)); refine XK.region ?_; refine XL.g ?_
  refine XL.callLA hE rfl rfl rfl rfl trivial rfl (validS_ok k hk s) rfl ?_
  refine XL.g ?_; refine XL.fin ?_; (repeat (first | refine XK.n ?_ | refine XK.a ?_ | refine XK.b ?_))
  (repeat (first | refine XK.n ?_ | refine XK.a ?_ | refine XK.b ?_)); refine XK.cond rfl (fun h1 => ?_) (fun h1 => ?_)
  · (repeat (first | refine XK.n ?_ | refine XK.a ?_ | refine XK.b ?_))
    (first | refine XK.o ?_ | refine XK.p ?_)
    rfl
  · have h1 : (!validS k s || decide (t < -1) || decide ((k.acts.length : Int) ≤ t)) = false := h1
    rw [h] at h1
    cases h1
theorem stepEnd_ok (k : K) (hk : kW k) (s : St) (t : Int) (h : (!validS k s || decide (t < -1) || decide ((k.acts.length : Int) ≤ t)) = false) (hd : s.day = k.days) : Does Tryz.prog 13 [kV k, stV s, .c (.int .i64 t)] (.tup [nilS, .c (.int .i64 13)]) := by
  refine Does.mk (fun _ => false) TT_ok Tryz.func13 rfl (by kernel_rfl) Tryz.ntmps13 rfl rfl fun E hT hE hN hR => ?_
  have hm := mixO hE
  (repeat (first | refine XK.n ?_ | refine XK.a ?_ | refine XK.b ?_)); refine XK.region ?_; refine XL.g ?_
  refine XL.callLA hE rfl rfl rfl rfl trivial rfl (validS_ok k hk s) rfl ?_
  refine XL.g ?_; refine XL.fin ?_; (repeat (first | refine XK.n ?_ | refine XK.a ?_ | refine XK.b ?_))
  (repeat (first | refine XK.n ?_ | refine XK.a ?_ | refine XK.b ?_)); refine XK.cond rfl (fun h1 => ?_) (fun h1 => ?_)
  · have h1 : (!validS k s || decide (t < -1) || decide ((k.acts.length : Int) ≤ t)) = true := h1
    rw [h] at h1
    cases h1
  · (repeat (first | refine XK.n ?_ | refine XK.a ?_ | refine XK.b ?_)); refine XK.cond rfl (fun h2 => ?_) (fun h2 => ?_) <;> (try simp at h2)
    · (repeat (first | refine XK.n ?_ | refine XK.a ?_ | refine XK.b ?_))
      (first | refine XK.o ?_ | refine XK.p ?_)
      rfl
    · exact absurd hd h2
theorem validS_W {k : K} {s : St} (h : validS k s = true) : WOk k s.wk := by
  obtain ⟨h1, h2, h3, h4, h5, h6, h7, h8⟩ := validS_len h
  refine ⟨h5, fun i hi => h6 i (by omega), fun i hi hu => ?_, fun i hi => ?_, fun i hi => ?_⟩
  · have := h7 i (by omega)
    have hu : s.used.getD i default = true := hu
    rw [hu] at this
    simpa using this
  · have := h8 i (by omega)
    simp only [Bool.and_eq_true] at this
    exact this.1
  · have := h8 i (by omega)
    simp only [Bool.and_eq_true, Bool.not_eq_true'] at this
    exact this.2
theorem stepGo_ok (k : K) (hk : kW k) (s : St) (t : Int) (h : (!validS k s || decide (t < -1) || decide ((k.acts.length : Int) ≤ t)) = false) (hd : s.day ≠ k.days) : Does Tryz.prog 13 [kV k, stV s, .c (.int .i64 t)] (.tup [rawS k (stepW k s.wk t), .c (.int .i64 0)]) := by
  refine Does.mk (fun _ => false) TT_ok Tryz.func13 rfl (by kernel_rfl) Tryz.ntmps13 rfl rfl fun E hT hE hN hR => ?_
  have hm := mixO hE
  have h' := h
  simp only [Bool.or_eq_false_iff, Bool.not_eq_false', decide_eq_false_iff_not] at h'
  obtain ⟨⟨hv, ht1⟩, ht2⟩ := h'
  have hl := validS_len hv
  have hF := (show kOk k from ⟨hk, hl.1⟩).facts
  have hW := validS_W hv
  (repeat (first | refine XK.n ?_ | refine XK.a ?_ | refine XK.b ?_)); refine XK.region ?_; refine XL.g ?_
  refine XL.callLA hE rfl rfl rfl rfl trivial rfl (validS_ok k hk s) rfl ?_
  refine XL.g ?_; refine XL.fin ?_; (repeat (first | refine XK.n ?_ | refine XK.a ?_ | refine XK.b ?_))
  (repeat (first | refine XK.n ?_ | refine XK.a ?_ | refine XK.b ?_)); refine XK.cond rfl (fun h1 => ?_) (fun h1 => ?_)
  · have h1 : (!validS k s || decide (t < -1) || decide ((k.acts.length : Int) ≤ t)) = true := h1
    rw [h] at h1
    cases h1
  · (repeat (first | refine XK.n ?_ | refine XK.a ?_ | refine XK.b ?_)); refine XK.cond rfl (fun h2 => ?_) (fun h2 => ?_) <;> (try simp at h2)
    · exact absurd h2 hd
    · obtain ⟨l1, l2, l3, l4, l5, -⟩ := hl
      have b1 := hF.nh
      have b2 := hF.na
      have b3 := hF.nc
      (repeat (first | refine XK.n ?_ | refine XK.a ?_ | refine XK.b ?_))
      refine XK.weak (Weak.of (L := [(2, .c (.int .i64 t)), (6, .ptr 6 0), (7, .c (.int .i64 0)), (8, .ptr 300 0), (74, .c (.bool (t == -1)))]) (O := (6, .cells 45 [.c (.int .i64 0), .c (.slice none 0 0), .c (.slice none 0 0), .c (.slice none 0 0)]) :: (300, wO k s.wk 289 293 297) :: (289, wHold k s.wk) :: (293, wUsed k s.wk) :: (297, wMark k s.wk) :: []) (nx := 1000) (nt := 84) (md := fun _ => false) hN rfl rfl rfl frI ⟨frI, frI, ⟨⟨rfl, rfl, rfl⟩, l2, fun i hi => (cpF_lt (m := s.holders.length) (f := fun i => [.c (.int .i64 (s.holders.getD i default))]) hi).symm⟩, ⟨⟨rfl, rfl, rfl⟩, l3, fun i hi => (cpF_lt (m := s.used.length) (f := fun i => [.c (.bool (s.used.getD i default))]) hi).symm⟩, ⟨⟨rfl, rfl, rfl⟩, l4, fun i hi => (cpF_lt (m := s.marks.length) (f := fun i => mkC (s.marks.getD i default)) hi).symm⟩⟩) ?_
      have hrun : ∀ i, i < k.clauses.length → runsM (s.wk.mark i) = true → RunF k (clAt k i) (s.wk.mark i) := fun i hi hr => (markB_run hr).1 (hW.mark i hi)
      have hdw : s.wk.day = s.day := rfl
      have hdd := hF.days
      (repeat (first | refine XK.n ?_ | refine XK.a ?_ | refine XK.b ?_)); refine XK.cond rfl (fun h3 => ?_) (fun h3 => ?_) <;> (try simp at h3)
      · have hst : stepW k s.wk t = tickW k s.wk := by unfold stepW; rw [if_pos h3]
        rw [hst]
        (repeat (first | refine XK.n ?_ | refine XK.a ?_ | refine XK.b ?_))
        (repeat (first | refine XK.n ?_ | refine XK.a ?_ | refine XK.b ?_)); refine XK.region ?_; refine XL.g ?_
        refine XL.callMA [300, 289, 293, 297] hE rfl rfl rfl rfl trivial (wtick_ok k hF s.wk (by rw [hdw]; omega) hrun) rfl rfl rfl rfl rfl ?_
        refine XL.g ?_; refine XL.fin ?_; (repeat (first | refine XK.n ?_ | refine XK.a ?_ | refine XK.b ?_))
        generalize tickW k s.wk = w' at *
        refine XK.weak (Weak.trans (Weak.of (L := [(6, .ptr 6 0), (7, .c (.int .i64 0))]) (O := (6, .cells 45 [.c (.int .i64 w'.day), .vec 289 0, .vec 293 0, .vec 297 0]) :: (289, wHold k w') :: (293, wUsed k w') :: (297, wMark k w') :: []) (nx := 5000) (nt := 84) (md := fun _ => false) hN rfl rfl rfl frI frI)
          (Weak.trans (Weak.frozen (k := 289) hN rfl rfl) (Weak.trans (Weak.frozen (k := 293) hN rfl rfl) (Weak.frozen (k := 297) hN rfl rfl)))) ?_
        (first | refine XK.o ?_ | refine XK.p ?_)
        rfl
      · obtain ⟨n, rfl⟩ : ∃ n : Nat, t = (n : Int) := ⟨t.toNat, by omega⟩
        have hst : stepW k s.wk (n : Int) = actW' k s.wk n := by unfold stepW; rw [if_neg h3]; rfl
        rw [hst]
        (repeat (first | refine XK.n ?_ | refine XK.a ?_ | refine XK.b ?_))
        (repeat (first | refine XK.n ?_ | refine XK.a ?_ | refine XK.b ?_)); refine XK.region ?_; refine XL.g ?_
        refine XL.callMA [300, 289, 293, 297] hE rfl rfl rfl rfl trivial (wact_ok k hF s.wk n (by omega) hrun) rfl rfl rfl rfl rfl ?_
        refine XL.g ?_; refine XL.fin ?_; (repeat (first | refine XK.n ?_ | refine XK.a ?_ | refine XK.b ?_))
        generalize actW' k s.wk n = w' at *
        refine XK.weak (Weak.trans (Weak.of (L := [(6, .ptr 6 0), (7, .c (.int .i64 0))]) (O := (6, .cells 45 [.c (.int .i64 w'.day), .vec 289 0, .vec 293 0, .vec 297 0]) :: (289, wHold k w') :: (293, wUsed k w') :: (297, wMark k w') :: []) (nx := 5000) (nt := 84) (md := fun _ => false) hN rfl rfl rfl frI frI)
          (Weak.trans (Weak.frozen (k := 289) hN rfl rfl) (Weak.trans (Weak.frozen (k := 293) hN rfl rfl) (Weak.frozen (k := 297) hN rfl rfl)))) ?_
        (first | refine XK.o ?_ | refine XK.p ?_)
        rfl
theorem stepS_ok (k : K) (hk : kW k) (s : St) (t : Int) : Does Tryz.prog 13 [kV k, stV s, .c (.int .i64 t)] (sr (stepS k s t)) := by
  have nil (e : Int) : AvS (.tup [nilS, .c (.int .i64 e)]) (sr (zS, e)) := AvS.tup ⟨AvS.agg ⟨AvS.refl _, AvS.nil, AvS.nil, AvS.nil, trivial⟩, AvS.refl _, trivial⟩
  unfold stepS
  split
  · rename_i h
    exact (stepErr_ok k hk s t h).weaken (nil 1)
  · rename_i h
    have h : (!validS k s || decide (t < -1) || decide ((k.acts.length : Int) ≤ t)) = false := Bool.eq_false_iff.2 h
    split
    · rename_i h2
      exact (stepEnd_ok k hk s t h h2).weaken (nil 13)
    · rename_i h2
      exact (stepGo_ok k hk s t h h2).weaken (outS_is k _)
end
section
open Go.Eng
theorem cloneI_ok (l : List Int) (h0 : 0 < l.length) (hl : l.length ≤ 1000000) : DoesM Tryz.prog 35 [intsV l] [] (.vec 0 0) [.vec 3 1 0 l.length (fun i => [.c (.int .i64 (l.getD i default))])] := by
  refine DoesM.mk (fun d => Nat.beq d 5) 100 TT_ok Tryz.func35 rfl (by kernel_rfl) Tryz.ntmps35 rfl rfl rfl fun E hT hE hN hR => ?_
  have hm := mixO hE
  (repeat (first | refine XK.n ?_ | refine XK.a ?_ | refine XK.b ?_)); refine XK.cond rfl (fun h1 => ?_) (fun h1 => ?_)
  · cases h1
  · (repeat (first | refine XK.n ?_ | refine XK.a ?_ | refine XK.b ?_))
    refine XK.weak (Weak.trans (Weak.stamp (k := 121) (t := 0) hN rfl rfl) (Weak.of (L := [(2, .vec 121 0)]) (O := [(121, .vec 3 1 0 l.length (fun i => [.c (.int .i64 (l.getD i default))]))]) (nx := 1000) (nt := 8) (md := fun _ => false) hN rfl rfl rfl frI ⟨⟨rfl, rfl, rfl⟩, Nat.zero_add _, fun j hj => by rcases j with _ | j <;> rfl⟩)) ?_
    (first | refine XK.outR [121] hN rfl rfl rfl ?_ rfl rfl ?_ | refine XK.outRN [121] hN rfl rfl rfl ?_ rfl rfl ?_)
    · exact frI
    · exact frI
def initTo (k : K) (i : Nat) : Wk := ⟨0, fun i => k.holders.getD i default, fun _ => false, fun j => if j < i then initM (clAt k j) else ⟨0, 0, 0, 0, false⟩⟩
theorem startGo_ok (k : K) (hk : kW k) (h : (kValid k).1 = 0) : Does Tryz.prog 11 [kV k] (.tup [rawS k (startW k (initW k)), .c (.int .i64 0)]) := by
  refine Does.mk (fun _ => false) TT_ok Tryz.func11 rfl (by kernel_rfl) Tryz.ntmps11 rfl rfl fun E hT hE hN hR => ?_
  have hm := mixO hE
  have hF := (show kOk k from ⟨hk, h⟩).facts
  have b1 := hF.nh
  have b2 := hF.na
  have b3 := hF.nc
  (repeat (first | refine XK.n ?_ | refine XK.a ?_ | refine XK.b ?_)); refine XK.region ?_; refine XL.g ?_
  refine XL.callLA hE rfl rfl rfl rfl trivial rfl (kValid_ok k hk) rfl ?_
  refine XL.g ?_; refine XL.fin ?_; (repeat (first | refine XK.n ?_ | refine XK.a ?_ | refine XK.b ?_))
  (repeat (first | refine XK.n ?_ | refine XK.a ?_ | refine XK.b ?_)); refine XK.cond rfl (fun h1 => ?_) (fun h1 => ?_) <;> (try simp at h1)
  · exact absurd h h1
  · (repeat (first | refine XK.n ?_ | refine XK.a ?_ | refine XK.b ?_)); refine XK.drawn hm ?_; refine XD.goA hT rfl rfl rfl rfl ?_
    refine XD.callMA [700] hE rfl rfl rfl rfl trivial (cloneI_ok k.holders (by omega) (by omega)) rfl rfl rfl rfl rfl ?_
    refine XD.goA hT rfl rfl rfl rfl ?_; refine XD.fin (by kernel_rfl) ?_; (repeat (first | refine XK.n ?_ | refine XK.a ?_ | refine XK.b ?_))
    refine XK.loop (ι := Nat) (fun i => ST.of [(2, .ptr 2 0), (6, .ptr 226 0), (33, clsV k.clauses), (34, .c (.int .i64 k.clauses.length)), (35, .c (.int .i64 i))] [(2, .cells 45 [.c (.int .i64 0), .c (.slice none 0 0), .c (.slice none 0 0), .c (.slice none 0 0)]), (226, wO k (initTo k i) 700 219 223), (700, wHold k (initTo k i)), (219, wUsed k (initTo k i)), (223, wMark k (initTo k i))] 1000 65 (fun _ => false))
      (fun i => i ≤ k.clauses.length) (fun i => k.clauses.length - i) 0 (Nat.zero_le _)
      (Weak.of hN rfl rfl rfl frI (by (repeat' (first | exact rfl | exact AvIs.refl _ | exact trivial | exact fun _ _ => rfl | exact fun _ _ => ⟨rfl, AvIs.refl _⟩ | exact fun _ hi => absurd hi (Nat.not_lt_zero _) | (intro i hi; cases Nat.lt_one_iff.1 hi; rfl) | (intro j hj; by_cases hji : j = (0); (· subst hji; simp [setRowF, setL, mkC, Wk.upM, initTo]; done); (· simp [setRowF, beq_false hji, Wk.upM, initTo, hji, lt_succ_ne hji]; done)) | refine ⟨?_, ?_⟩)))) fun i hi => ?_
    (repeat (first | refine XK.n ?_ | refine XK.a ?_ | refine XK.b ?_)); refine XK.cond rfl (fun hlt => ?_) (fun hlt => ?_) <;> (try simp at hlt)
    · have fc : k.clauses.getD (i : Int).toNat default = clAt k i := rfl
      (repeat (first | refine XK.n ?_ | refine XK.a ?_ | refine XK.b ?_))
      rw [fc]
      (repeat (first | refine XK.n ?_ | refine XK.a ?_ | refine XK.b ?_)); refine XK.cond rfl (fun h5 => ?_) (fun h5 => ?_) <;> (try simp at h5)
      · (repeat (first | refine XK.n ?_ | refine XK.a ?_ | refine XK.b ?_))
        refine XK.inv ⟨i + 1, hlt, Weak.of hN rfl rfl rfl frI (by (repeat' (first | exact rfl | exact AvIs.refl _ | exact trivial | exact fun _ _ => rfl | exact fun _ _ => ⟨rfl, AvIs.refl _⟩ | exact fun _ hi => absurd hi (Nat.not_lt_zero _) | (intro i hi; cases Nat.lt_one_iff.1 hi; rfl) | (intro j hj; by_cases hji : j = (i); (· subst hji; simp [setRowF, setL, mkC, Wk.upM, initTo, initM, h5]; done); (· simp [setRowF, beq_false hji, Wk.upM, initTo, initM, h5, hji, lt_succ_ne hji]; done)) | refine ⟨?_, ?_⟩))), by omega⟩
      · (repeat (first | refine XK.n ?_ | refine XK.a ?_ | refine XK.b ?_))
        refine XK.inv ⟨i + 1, hlt, Weak.of hN rfl rfl rfl frI (by (repeat' (first | exact rfl | exact AvIs.refl _ | exact trivial | exact fun _ _ => rfl | exact fun _ _ => ⟨rfl, AvIs.refl _⟩ | exact fun _ hi => absurd hi (Nat.not_lt_zero _) | (intro i hi; cases Nat.lt_one_iff.1 hi; rfl) | (intro j hj; by_cases hji : j = (i); (· subst hji; simp [setRowF, setL, mkC, Wk.upM, initTo, initM, h5]; done); (· simp [setRowF, beq_false hji, Wk.upM, initTo, initM, h5, hji, lt_succ_ne hji]; done)) | refine ⟨?_, ?_⟩))), by omega⟩
    · have hie : i = k.clauses.length := by omega
      subst hie
      refine XK.weak (Weak.of (L := [(2, .ptr 2 0), (6, .ptr 226 0)]) (O := [(2, .cells 45 [.c (.int .i64 0), .c (.slice none 0 0), .c (.slice none 0 0), .c (.slice none 0 0)]), (226, wO k (initW k) 700 219 223), (700, wHold k (initW k)), (219, wUsed k (initW k)), (223, wMark k (initW k))]) (nx := 3000) (nt := 65) (md := fun _ => false) hN rfl rfl rfl frI ⟨frI, frI, frI, frI, ⟨⟨rfl, rfl, rfl⟩, rfl, fun j hj => ?_⟩⟩) ?_
      · show mkC (initM (clAt k j)) = mkC (if j < k.clauses.length then initM (clAt k j) else _)
        rw [if_pos hj]
      · (repeat (first | refine XK.n ?_ | refine XK.a ?_ | refine XK.b ?_))
        (repeat (first | refine XK.n ?_ | refine XK.a ?_ | refine XK.b ?_)); refine XK.region ?_; refine XL.g ?_
        refine XL.callMA [226, 700, 219, 223] hE rfl rfl rfl rfl trivial (wstart_ok k hF (initW k)) rfl rfl rfl rfl rfl ?_
        refine XL.g ?_; refine XL.fin ?_; (repeat (first | refine XK.n ?_ | refine XK.a ?_ | refine XK.b ?_))
        generalize startW k (initW k) = w' at *
        refine XK.weak (Weak.trans (Weak.of (L := [(2, .ptr 2 0), (3, .c (.int .i64 0))]) (O := (2, .cells 45 [.c (.int .i64 w'.day), .vec 700 0, .vec 219 0, .vec 223 0]) :: (700, wHold k w') :: (219, wUsed k w') :: (223, wMark k w') :: []) (nx := 5000) (nt := 65) (md := fun _ => false) hN rfl rfl rfl frI frI)
          (Weak.trans (Weak.frozen (k := 700) hN rfl rfl) (Weak.trans (Weak.frozen (k := 219) hN rfl rfl) (Weak.frozen (k := 223) hN rfl rfl)))) ?_
        (first | refine XK.o ?_ | refine XK.p ?_)
        rfl
theorem startErr_ok (k : K) (hk : kW k) (h : (kValid k).1 ≠ 0) : Does Tryz.prog 11 [kV k] (.tup [nilS, .c (.int .i64 1)]) := by
  refine Does.mk (fun _ => false) TT_ok Tryz.func11 rfl (by kernel_rfl) Tryz.ntmps11 rfl rfl fun E hT hE hN hR => ?_
  have hm := mixO hE
  (repeat (first | refine XK.n ?_ | refine XK.a ?_ | refine XK.b ?_)); refine XK.region ?_; refine XL.g ?_
  refine XL.callLA hE rfl rfl rfl rfl trivial rfl (kValid_ok k hk) rfl ?_
  refine XL.g ?_; refine XL.fin ?_; (repeat (first | refine XK.n ?_ | refine XK.a ?_ | refine XK.b ?_))
  (repeat (first | refine XK.n ?_ | refine XK.a ?_ | refine XK.b ?_)); refine XK.cond rfl (fun h1 => ?_) (fun h1 => ?_) <;> (try simp at h1)
  · (repeat (first | refine XK.n ?_ | refine XK.a ?_ | refine XK.b ?_))
    (first | refine XK.o ?_ | refine XK.p ?_)
    rfl
  · exact absurd h1 h
noncomputable def startS (k : K) : St × Int := if (kValid k).1 ≠ 0 then (zS, 1) else (outS k (startW k (initW k)), 0)
theorem startS_ok (k : K) (hk : kW k) : Does Tryz.prog 11 [kV k] (sr (startS k)) := by
  have nil (e : Int) : AvS (.tup [nilS, .c (.int .i64 e)]) (sr (zS, e)) := AvS.tup ⟨AvS.agg ⟨AvS.refl _, AvS.nil, AvS.nil, AvS.nil, trivial⟩, AvS.refl _, trivial⟩
  unfold startS
  split
  · rename_i h
    exact (startErr_ok k hk h).weaken (nil 1)
  · rename_i h
    exact (startGo_ok k hk (by simpa using h)).weaken (outS_is k _)
end
section
open Go.Eng
theorem getD_memW {α : Type} [Inhabited α] {l : List α} {i : Nat} (h : i < l.length) : l.getD i default ∈ l := by
  rw [List.getD_eq_getElem?_getD, List.getElem?_eq_getElem h]
  exact List.getElem_mem h
def smallQ (k : K) (n : Int) : Bool :=
  if (decide ((20 : Int) < k.holders.length) || decide ((30 : Int) < k.units.length) || decide ((70 : Int) < k.acts.length) || decide (n < k.clauses.length) || decide ((100 : Int) < k.off.length)) = true then false
  else k.clauses.all (fun x => decide (x.start.length ≤ 20))
theorem smallQ_ok (k : K) (n : Int) : Does Tryz.prog 5 [kV k, .c (.int .i64 n)] (.c (.bool (smallQ k n))) := by
  refine Does.mk (fun _ => false) TT_ok Tryz.func5 rfl (by kernel_rfl) Tryz.ntmps5 rfl rfl fun E hT hE hN hR => ?_
  have hm := mixO hE
  (repeat (first | refine XK.n ?_ | refine XK.a ?_ | refine XK.b ?_)); refine XK.cond rfl (fun h1 => ?_) (fun h1 => ?_)
  · (repeat (first | refine XK.n ?_ | refine XK.a ?_ | refine XK.b ?_))
    (first | refine XK.o ?_ | refine XK.p ?_)
    simp only [smallQ, if_pos h1]
  · rw [smallQ, if_neg (by rw [h1]; simp)]
    (repeat (first | refine XK.n ?_ | refine XK.a ?_ | refine XK.b ?_))
    refine XK.loop (ι := Nat) (fun i => ST.of [(2, .ptr 2 0), (4, .c (.bool false)), (5, .c (.int .i64 i))] [(2, .cells 27 (kC k))] 1000 50 (fun _ => false))
      (fun i => i ≤ k.clauses.length ∧ ∀ j, j < i → decide ((k.clauses.getD j default).start.length ≤ 20) = true) (fun i => k.clauses.length - i) 0 ⟨Nat.zero_le _, fun j hj => absurd hj (Nat.not_lt_zero _)⟩
      (Weak.of hN rfl rfl rfl frI frI) fun i hi => ?_
    obtain ⟨hi1, hi2⟩ := hi
    (repeat (first | refine XK.n ?_ | refine XK.a ?_ | refine XK.b ?_))
    refine XK.fact (Sat.rs_len (j := 37) rfl) fun hlen => ?_
    have hm' : k.clauses.length ≤ 9223372036854775807 := hlen.1
    (repeat (first | refine XK.n ?_ | refine XK.a ?_ | refine XK.b ?_)); refine XK.cond rfl (fun hlt => ?_) (fun hlt => ?_) <;> (try simp at hlt)
    · (repeat (first | refine XK.n ?_ | refine XK.a ?_ | refine XK.b ?_)); refine XK.cond rfl (fun h2 => ?_) (fun h2 => ?_) <;> (try simp at h2)
      · (repeat (first | refine XK.n ?_ | refine XK.a ?_ | refine XK.b ?_))
        (first | refine XK.o ?_ | refine XK.p ?_)
        have : k.clauses.all (fun x => decide (x.start.length ≤ 20)) = false := all_not hlt (by simp at h2 ⊢; omega)
        rw [this]
      · (repeat (first | refine XK.n ?_ | refine XK.a ?_ | refine XK.b ?_))
        refine XK.inv ⟨i + 1, ⟨hlt, fun j hj => ?_⟩, (Weak.of hN rfl rfl rfl frI frI), by omega⟩
        by_cases h : j = i
        · subst h; simp at h2 ⊢; omega
        · exact hi2 j (by omega)
    · (repeat (first | refine XK.n ?_ | refine XK.a ?_ | refine XK.b ?_))
      (first | refine XK.o ?_ | refine XK.p ?_)
      have : k.clauses.all (fun x => decide (x.start.length ≤ 20)) = true := all_at.2 fun j hj => hi2 j (by omega)
      rw [this]
noncomputable def runE (k : K) (l : List Int) : Nat → St × Int
  | 0 => startS k
  | n + 1 => if (runE k l n).2 = 0 then stepS k (runE k l n).1 (l.getD n default) else runE k l n
theorem runE_stop {k : K} {l : List Int} {i : Nat} (h : (runE k l i).2 ≠ 0) : ∀ j, i ≤ j → runE k l j = runE k l i := by
  intro j hj
  induction j with
  | zero => obtain rfl : i = 0 := by omega
            rfl
  | succ j ih =>
    by_cases e : i = j + 1
    · subst e; rfl
    · have := ih (by omega)
      rw [runE, this, if_neg h]
end
section
open Go.Eng
def idleMk : Mk := ⟨0, 0, 0, -1, false⟩
def voidM (m : Mk) : Mk := if (m.status == 0 || runsM m) = true then endM m 5 else m
def contP (next : Cl) (m : Mk) : Mk := ⟨m.status, m.left, m.got, m.bearer, m.paused && (next.pause != -1)⟩
def contM (old next : Cl) (m : Mk) : Mk :=
  if next.kind = 1 ∧ next.need ≤ m.got then endM (contP next m) 3
  else if m.status = 1 then ⟨m.status, max 1 (m.left + next.after - old.after), m.got, m.bearer, m.paused && (next.pause != -1)⟩
  else if next.grace = 0 then ⟨1, 1, m.got, m.bearer, m.paused && (next.pause != -1)⟩
  else ⟨m.status, max 1 (m.left + next.grace - old.grace), m.got, m.bearer, m.paused && (next.pause != -1)⟩
def restM (old next : Cl) (m : Mk) (hold : List Int) : Mk := ⟨1, next.after, 0, if next.kind = 4 then -1 else if old.kind = 4 then hold.getD next.role.toNat default else m.bearer, false⟩
def spanM (d : Int) (old : Cl) (m : Mk) : Mk := if m.status = 1 then ⟨m.status, max 1 (m.left + d - old.after), m.got, m.bearer, m.paused⟩ else m
theorem idleM_ok : Does Tryz.prog 145 [] (.agg (mkC idleMk)) := by
  refine Does.mk (fun _ => false) TT_ok Tryz.func145 rfl (by kernel_rfl) Tryz.ntmps145 rfl rfl fun E hT hE hN hR => ?_
  have hm := mixO hE
  (repeat (first | refine XK.n ?_ | refine XK.a ?_ | refine XK.b ?_))
  (first | refine XK.o ?_ | refine XK.p ?_)
  rfl
theorem mruns_ok (m : Mk) : Does Tryz.prog 149 [.agg (mkC m)] (.c (.bool (runsM m))) := by
  refine Does.mk (fun _ => false) TT_ok Tryz.func149 rfl (by kernel_rfl) Tryz.ntmps149 rfl rfl fun E hT hE hN hR => ?_
  have hm := mixO hE
  (repeat (first | refine XK.n ?_ | refine XK.a ?_ | refine XK.b ?_))
  (first | refine XK.o ?_ | refine XK.p ?_)
  rfl
theorem mended_ok (m : Mk) (s : Int) : Does Tryz.prog 175 [.agg (mkC m), .c (.int .i64 s)] (.agg (mkC (endM m s))) := by
  refine Does.mk (fun _ => false) TT_ok Tryz.func175 rfl (by kernel_rfl) Tryz.ntmps175 rfl rfl fun E hT hE hN hR => ?_
  have hm := mixO hE
  (repeat (first | refine XK.n ?_ | refine XK.a ?_ | refine XK.b ?_))
  (first | refine XK.o ?_ | refine XK.p ?_)
  rfl
theorem voided_ok (m : Mk) : Does Tryz.prog 148 [.agg (mkC m)] (.agg (mkC (voidM m))) := by
  refine Does.mk (fun _ => false) TT_ok Tryz.func148 rfl (by kernel_rfl) Tryz.ntmps148 rfl rfl fun E hT hE hN hR => ?_
  have hm := mixO hE
  (repeat (first | refine XK.n ?_ | refine XK.a ?_ | refine XK.b ?_)); refine XK.region ?_; refine XL.g ?_
  refine XL.callGA hE rfl rfl rfl rfl rfl rfl rfl rfl (mruns_ok m) rfl ?_
  refine XL.g ?_; refine XL.fin ?_; (repeat (first | refine XK.n ?_ | refine XK.a ?_ | refine XK.b ?_))
  (repeat (first | refine XK.n ?_ | refine XK.a ?_ | refine XK.b ?_)); refine XK.cond rfl (fun h => ?_) (fun h => ?_)
  · (repeat (first | refine XK.n ?_ | refine XK.a ?_ | refine XK.b ?_)); refine XK.region ?_; refine XL.g ?_
    refine XL.callLA hE rfl rfl rfl rfl trivial rfl (mended_ok m 5) rfl ?_
    refine XL.g ?_; refine XL.fin ?_; (repeat (first | refine XK.n ?_ | refine XK.a ?_ | refine XK.b ?_))
    (first | refine XK.o ?_ | refine XK.p ?_)
    rw [voidM, if_pos h]
    rfl
  · (repeat (first | refine XK.n ?_ | refine XK.a ?_ | refine XK.b ?_))
    (first | refine XK.o ?_ | refine XK.p ?_)
    rw [voidM, if_neg (by rw [h]; exact Bool.false_ne_true)]
    rfl
theorem mx1 (x : Int) : (bif true then (if 1 < x then x else (1 : Int)) else if x < 1 then x else 1) = max 1 x := by
  rw [cond_true]; split <;> omega
def dB (x : Cl) : Prop := (-1000000 ≤ x.after ∧ x.after ≤ 1000000) ∧ (-1000000 ≤ x.grace ∧ x.grace ≤ 1000000)
def lB (m : Mk) : Prop := -1000000 ≤ m.left ∧ m.left ≤ 1000000
theorem continued_ok (old next : Cl) (m : Mk) (ho : dB old) (hn : dB next) (hb : lB m) :
    Does Tryz.prog 150 [clV old, clV next, .agg (mkC m)] (.agg (mkC (contM old next m))) := by
  obtain ⟨⟨o1, o2⟩, o3, o4⟩ := ho
  obtain ⟨⟨n1, n2⟩, n3, n4⟩ := hn
  obtain ⟨b1, b2⟩ := hb
  refine Does.mk (fun _ => false) TT_ok Tryz.func150 rfl (by kernel_rfl) Tryz.ntmps150 rfl rfl fun E hT hE hN hR => ?_
  have hm := mixO hE
  (repeat (first | refine XK.n ?_ | refine XK.a ?_ | refine XK.b ?_)); refine XK.cond rfl (fun h1 => ?_) (fun h1 => ?_)
  · (repeat (first | refine XK.n ?_ | refine XK.a ?_ | refine XK.b ?_)); refine XK.region ?_; refine XL.g ?_
    refine XL.callLA hE rfl rfl rfl rfl trivial rfl (mended_ok (contP next m) 3) rfl ?_
    refine XL.g ?_; refine XL.fin ?_; (repeat (first | refine XK.n ?_ | refine XK.a ?_ | refine XK.b ?_))
    (first | refine XK.o ?_ | refine XK.p ?_)
    simp only [Bool.and_eq_true, beq_iff_eq, decide_eq_true_eq] at h1
    rw [contM, if_pos h1]
    rfl
  have h1' : ¬ (next.kind = 1 ∧ next.need ≤ m.got) := fun e => by
    simp only [e.1, e.2, decide_true, Bool.and_true, beq_self_eq_true] at h1
    cases h1
  rw [contM, if_neg h1']
  (repeat (first | refine XK.n ?_ | refine XK.a ?_ | refine XK.b ?_)); refine XK.cond rfl (fun h2 => ?_) (fun h2 => ?_) <;> (try simp at h2)
  · rw [if_pos h2]
    (repeat (first | refine XK.n ?_ | refine XK.a ?_ | refine XK.b ?_))
    (first | refine XK.o ?_ | refine XK.p ?_)
    rw [mx1]; rfl
  rw [if_neg h2]
  (repeat (first | refine XK.n ?_ | refine XK.a ?_ | refine XK.b ?_)); refine XK.cond rfl (fun h3 => ?_) (fun h3 => ?_) <;> (try simp at h3)
  · rw [if_pos h3]
    (repeat (first | refine XK.n ?_ | refine XK.a ?_ | refine XK.b ?_))
    (first | refine XK.o ?_ | refine XK.p ?_)
    rfl
  rw [if_neg h3]
  (repeat (first | refine XK.n ?_ | refine XK.a ?_ | refine XK.b ?_))
  (first | refine XK.o ?_ | refine XK.p ?_)
  rw [mx1]; rfl
theorem restarted_ok (old next : Cl) (m : Mk) (hold : List Int) (hr : next.kind ≠ 4 → 0 ≤ next.role ∧ next.role < hold.length) :
    Does Tryz.prog 151 [clV old, clV next, .agg (mkC m), intsV hold] (.agg (mkC (restM old next m hold))) := by
  refine Does.mk (fun _ => false) TT_ok Tryz.func151 rfl (by kernel_rfl) Tryz.ntmps151 rfl rfl fun E hT hE hN hR => ?_
  have hm := mixO hE
  (repeat (first | refine XK.n ?_ | refine XK.a ?_ | refine XK.b ?_)); refine XK.cond rfl (fun h1 => ?_) (fun h1 => ?_) <;> (try simp at h1)
  · (repeat (first | refine XK.n ?_ | refine XK.a ?_ | refine XK.b ?_))
    (first | refine XK.o ?_ | refine XK.p ?_)
    rw [restM, if_pos h1]
    rfl
  · obtain ⟨r1, r2⟩ := hr h1
    (repeat (first | refine XK.n ?_ | refine XK.a ?_ | refine XK.b ?_)); refine XK.cond rfl (fun h2 => ?_) (fun h2 => ?_) <;> (try simp at h2)
    · (repeat (first | refine XK.n ?_ | refine XK.a ?_ | refine XK.b ?_))
      (first | refine XK.o ?_ | refine XK.p ?_)
      rw [restM, if_neg h1, if_pos h2]
      rfl
    · (repeat (first | refine XK.n ?_ | refine XK.a ?_ | refine XK.b ?_))
      (first | refine XK.o ?_ | refine XK.p ?_)
      rw [restM, if_neg h1, if_neg h2]
      rfl
theorem change1_ok (k : K) (p : Pt) (x : Nat) (hx : x < k.clauses.length) (m : Mk) (ho : dB (clAt k x)) (hd : -1000000 ≤ p.days ∧ p.days ≤ 1000000) (hb : lB m) :
    Does Tryz.prog 146 [.c (.int .i64 x), .agg (mkC m), .rptr (ptC p), .rptr (kC k)] (.agg (mkC (spanM p.days (clAt k x) m))) := by
  obtain ⟨⟨o1, o2⟩, o3, o4⟩ := ho
  obtain ⟨b1, b2⟩ := hb
  obtain ⟨d1, d2⟩ := hd
  refine Does.mk (fun _ => false) TT_ok Tryz.func146 rfl (by kernel_rfl) Tryz.ntmps146 rfl rfl fun E hT hE hN hR => ?_
  have hm := mixO hE
  have fx : k.clauses.getD (x : Int).toNat default = clAt k x := rfl
  (repeat (first | refine XK.n ?_ | refine XK.a ?_ | refine XK.b ?_)); refine XK.cond rfl (fun h1 => ?_) (fun h1 => ?_) <;> (try simp at h1)
  · rw [spanM, if_pos h1]
    (repeat (first | refine XK.n ?_ | refine XK.a ?_ | refine XK.b ?_))
    (first | refine XK.o ?_ | refine XK.p ?_)
    rw [fx, mx1]; rfl
  · rw [spanM, if_neg h1]
    (repeat (first | refine XK.n ?_ | refine XK.a ?_ | refine XK.b ?_))
    (first | refine XK.o ?_ | refine XK.p ?_)
    rfl
def replM (new old : Cl) (m : Mk) (hold : List Int) : Mk := if new.waived = true then voidM m else if runsM m = false then m else if new.kind = old.kind then contM old new m else restM old new m hold
theorem change2_ok (k : K) (p : Pt) (hold : List Int) (x : Nat) (hx : x < k.clauses.length) (m : Mk) (ho : dB (clAt k x)) (hn : dB p.new) (hb : lB m) (hr : p.new.kind ≠ 4 → 0 ≤ p.new.role ∧ p.new.role < hold.length) :
    Does Tryz.prog 147 [.c (.int .i64 x), .agg (mkC m), .rptr (ptC p), .rptr (kC k), .rptr [intsV hold]] (.agg (mkC (replM p.new (clAt k x) m hold))) := by
  refine Does.mk (fun _ => false) TT_ok Tryz.func147 rfl (by kernel_rfl) Tryz.ntmps147 rfl rfl fun E hT hE hN hR => ?_
  have hm := mixO hE
  have fx : k.clauses.getD (x : Int).toNat default = clAt k x := rfl
  have hc := continued_ok (clAt k x) p.new m ho hn hb
  have hs := restarted_ok (clAt k x) p.new m hold hr
  (repeat (first | refine XK.n ?_ | refine XK.a ?_ | refine XK.b ?_)); refine XK.cond rfl (fun h1 => ?_) (fun h1 => ?_)
  · rw [replM, if_pos h1]
    (repeat (first | refine XK.n ?_ | refine XK.a ?_ | refine XK.b ?_)); refine XK.region ?_; refine XL.g ?_
    refine XL.callLA hE rfl rfl rfl rfl trivial rfl (voided_ok m) rfl ?_
    refine XL.g ?_; refine XL.fin ?_; (repeat (first | refine XK.n ?_ | refine XK.a ?_ | refine XK.b ?_))
    (first | refine XK.o ?_ | refine XK.p ?_)
    rfl
  rw [replM, if_neg (by rw [h1]; exact Bool.false_ne_true)]
  (repeat (first | refine XK.n ?_ | refine XK.a ?_ | refine XK.b ?_)); refine XK.region ?_; refine XL.g ?_
  refine XL.callLA hE rfl rfl rfl rfl trivial rfl (mruns_ok m) rfl ?_
  refine XL.g ?_; refine XL.fin ?_; (repeat (first | refine XK.n ?_ | refine XK.a ?_ | refine XK.b ?_))
  (repeat (first | refine XK.n ?_ | refine XK.a ?_ | refine XK.b ?_)); refine XK.cond rfl (fun h2 => ?_) (fun h2 => ?_) <;> (try simp at h2)
  · rw [if_pos h2]
    (repeat (first | refine XK.n ?_ | refine XK.a ?_ | refine XK.b ?_))
    (first | refine XK.o ?_ | refine XK.p ?_)
    rfl
  rw [if_neg (by rw [h2]; simp)]
  (repeat (first | refine XK.n ?_ | refine XK.a ?_ | refine XK.b ?_))
  rw [fx]
  (repeat (first | refine XK.n ?_ | refine XK.a ?_ | refine XK.b ?_)); refine XK.cond rfl (fun h3 => ?_) (fun h3 => ?_) <;> (try simp at h3)
  · rw [if_pos h3]
    (repeat (first | refine XK.n ?_ | refine XK.a ?_ | refine XK.b ?_)); refine XK.drawn hm ?_; refine XD.goA hT rfl rfl rfl rfl ?_
    rw [fx]
    refine XD.callLA hE rfl rfl rfl rfl trivial rfl (hc) rfl ?_
    refine XD.goA hT rfl rfl rfl rfl ?_; refine XD.fin (by kernel_rfl) ?_; (repeat (first | refine XK.n ?_ | refine XK.a ?_ | refine XK.b ?_))
    (first | refine XK.o ?_ | refine XK.p ?_)
    rfl
  · rw [if_neg h3]
    (repeat (first | refine XK.n ?_ | refine XK.a ?_ | refine XK.b ?_)); refine XK.drawn hm ?_; refine XD.goA hT rfl rfl rfl rfl ?_
    rw [fx]
    refine XD.callLA hE rfl rfl rfl rfl trivial rfl (hs) rfl ?_
    refine XD.goA hT rfl rfl rfl rfl ?_; refine XD.fin (by kernel_rfl) ?_; (repeat (first | refine XK.n ?_ | refine XK.a ?_ | refine XK.b ?_))
    (first | refine XK.o ?_ | refine XK.p ?_)
    rfl
def addM (new : Cl) (m : Mk) : Mk := if new.waived = true then voidM m else m
theorem change3_ok (p : Pt) (x : Int) (m : Mk) : Does Tryz.prog 152 [.c (.int .i64 x), .agg (mkC m), .rptr (ptC p)] (.agg (mkC (addM p.new m))) := by
  refine Does.mk (fun _ => false) TT_ok Tryz.func152 rfl (by kernel_rfl) Tryz.ntmps152 rfl rfl fun E hT hE hN hR => ?_
  have hm := mixO hE
  (repeat (first | refine XK.n ?_ | refine XK.a ?_ | refine XK.b ?_)); refine XK.cond rfl (fun h1 => ?_) (fun h1 => ?_)
  · rw [addM, if_pos h1]
    (repeat (first | refine XK.n ?_ | refine XK.a ?_ | refine XK.b ?_)); refine XK.region ?_; refine XL.g ?_
    refine XL.callLA hE rfl rfl rfl rfl trivial rfl (voided_ok m) rfl ?_
    refine XL.g ?_; refine XL.fin ?_; (repeat (first | refine XK.n ?_ | refine XK.a ?_ | refine XK.b ?_))
    (first | refine XK.o ?_ | refine XK.p ?_)
    rfl
  · rw [addM, if_neg (by rw [h1]; exact Bool.false_ne_true)]
    (repeat (first | refine XK.n ?_ | refine XK.a ?_ | refine XK.b ?_))
    (first | refine XK.o ?_ | refine XK.p ?_)
    rfl
theorem change4_ok (x : Int) (m : Mk) : Does Tryz.prog 153 [.c (.int .i64 x), .agg (mkC m)] (.agg (mkC (voidM m))) := by
  refine Does.mk (fun _ => false) TT_ok Tryz.func153 rfl (by kernel_rfl) Tryz.ntmps153 rfl rfl fun E hT hE hN hR => ?_
  have hm := mixO hE
  (repeat (first | refine XK.n ?_ | refine XK.a ?_ | refine XK.b ?_)); refine XK.region ?_; refine XL.g ?_
  refine XL.callLA hE rfl rfl rfl rfl trivial rfl (voided_ok m) rfl ?_
  refine XL.g ?_; refine XL.fin ?_; (repeat (first | refine XK.n ?_ | refine XK.a ?_ | refine XK.b ?_))
  (first | refine XK.o ?_ | refine XK.p ?_)
  rfl
end
end Go.Proofs.YtlcfoelfcnhenaaGreatDoor
