import Derived.Test.YtlcfoelfcnhenaaGreatDoorZz14
import Derived.Test.YtlcfoelfcnhenaaGreatDoorZz19
set_option linter.unusedSimpArgs false
set_option linter.unusedVariables false
set_option maxRecDepth 10000
namespace Go.Proofs.YtlcfoelfcnhenaaGreatDoor
section
open Go.Eng
theorem wrunning_ok (k : K) (w : Wk) : DoesM Tryz.prog 75 [.ptr 0 0] (wOs k w) (.fn (.func 124) [] [.ptr 4 0]) (wOs k w ++ [.cells 101 [.ptr 0 0]]) := by
  refine DoesM.mk (fun _ => false) 100 TT_ok Tryz.func75 rfl (by kernel_rfl) Tryz.ntmps75 rfl rfl rfl fun E hT hE hN hR => ?_
  have hm := mixO hE
  (repeat (first | refine XK.n ?_ | refine XK.a ?_ | refine XK.b ?_))
  (first | refine XK.outR [0, 1, 2, 3, 101] hN rfl rfl rfl ?_ rfl rfl ?_ | refine XK.outRN [0, 1, 2, 3, 101] hN rfl rfl rfl ?_ rfl rfl ?_)
  · exact frI
  · exact frI
def csS (k : K) (a : Nat) : List AV := frL 66 [(2, .ptr 6 0), (4, .rptr (actC (acAt k a)))]
def itS (k : K) (a : Nat) (w : Wk) : List Ob := [.cells 101 [.ptr 2 0], wO k w 3 4 5, wHold k w, wUsed k w, wMark k w, .cells 101 [.ptr 2 0]]
def itNS (k : K) (a : Nat) (w : Wk) : List (Nat × Ob) := [(1, .cells 101 [.ptr 2 0]), (2, wO k w 3 4 5), (3, wHold k w), (4, wUsed k w), (5, wMark k w), (6, .cells 101 [.ptr 2 0])]
theorem runItS_ok (k : K) (a : Nat) (hk : KFacts k) (w : Wk) (f : Nat → Mk → Mk) (L b : Nat) (rc : Array Value → Obj)
    (hY : ∀ i, i < k.clauses.length → runsM (w.mark i) = true → DoesR Tryz.prog L [.c (.int .i64 i)] (.lrec rc b (csS k a) :: itS k a (mapRun f w i)) (.c (.bool true)) (.lrec rc b (csS k a) :: itS k a (mapRun f w (i + 1)))) :
    DoesM Tryz.prog 124 [.fn (.yield L) [] [], .ptr 1 0] (.lrec rc b (csS k a) :: itS k a w) (.tup []) (.lrec rc b (csS k a) :: itS k a (mapRun f w k.clauses.length)) := by
  refine DoesM.mk (fun _ => false) 100 TT_ok Tryz.func124 rfl (by kernel_rfl) Tryz.ntmps124 rfl rfl rfl fun E hT hE hN hR => ?_
  have hm := mixO hE
  have hnc := hk.nc
  (repeat (first | refine XK.n ?_ | refine XK.a ?_ | refine XK.b ?_))
  refine XK.loop (ι := Nat) (fun i => ST.of [(0, .fn (.yield L) [] []), (1, .ptr 1 0), (9, .c (.int .i64 k.clauses.length)), (10, .c (.int .i64 i))] ((0, .lrec rc b (csS k a)) :: itNS k a (mapRun f w i)) 1000 29 (fun _ => false))
    (fun i => i ≤ k.clauses.length) (fun i => k.clauses.length - i) 0 (Nat.zero_le _)
    (Weak.of hN rfl rfl rfl frI (by simp only [mapRun_zero]; (repeat' (first | exact rfl | exact AvIs.refl _ | exact trivial | exact fun _ _ => rfl | exact fun _ _ => ⟨rfl, AvIs.refl _⟩ | refine ⟨?_, ?_⟩)))) fun i hi => ?_
  (repeat (first | refine XK.n ?_ | refine XK.a ?_ | refine XK.b ?_)); refine XK.cond rfl (fun hlt => ?_) (fun hlt => ?_) <;> (try simp at hlt)
  · have hYi := hY i hlt
    have hs := mapRun_succ f w i
    have hm0 : (mapRun f w i).mark i = w.mark i := mapRun_ge (Nat.lt_irrefl i)
    have fm : (mapRun f w i).mark (i : Int).toNat = w.mark i := hm0
    (repeat (first | refine XK.n ?_ | refine XK.a ?_ | refine XK.b ?_))
    (repeat (first | refine XK.n ?_ | refine XK.a ?_ | refine XK.b ?_)); refine XK.region ?_; refine XL.g ?_
    refine XL.callLA hE rfl rfl rfl rfl trivial rfl (running_ok ((mapRun f w i).mark (i : Int).toNat)) rfl ?_
    rw [fm]
    refine XL.g ?_
    refine XL.yieldMG [0, 1, 2, 3, 4, 5, 6] (.c (.bool false)) hE rfl rfl rfl rfl rfl rfl (fun hgd => ?_) rfl (fun hgd => ?_) (fun hgd => hYi hgd) rfl ?_ rfl (fun hgd => ?_) rfl rfl rfl (fun hgd => ?_)
    · rw [if_neg (by rw [hgd]; simp)] at hs
      refine XL.g ?_; refine XL.fin ?_; (repeat (first | refine XK.n ?_ | refine XK.a ?_ | refine XK.b ?_))
      (repeat (first | refine XK.n ?_ | refine XK.a ?_ | refine XK.b ?_)); refine XK.cond rfl (fun hb => ?_) (fun hb => ?_)
      · exact absurd hb (by rw [hgd]; simp)
      · (repeat (first | refine XK.n ?_ | refine XK.a ?_ | refine XK.b ?_))
        refine XK.inv ⟨i + 1, hlt, ?_, by omega⟩
        rw [hs]
        exact (Weak.of hN rfl rfl rfl frI frI)
    · simp only [AllP, impG, hgd]; simp
    · exact frI
    · exact frI
    · refine XL.g ?_; refine XL.fin ?_; (repeat (first | refine XK.n ?_ | refine XK.a ?_ | refine XK.b ?_))
      (repeat (first | refine XK.n ?_ | refine XK.a ?_ | refine XK.b ?_)); refine XK.cond rfl (fun hb => ?_) (fun hb => ?_)
      · exact absurd hb (by simp)
      · (repeat (first | refine XK.n ?_ | refine XK.a ?_ | refine XK.b ?_))
        refine XK.inv ⟨i + 1, hlt, ?_, by omega⟩
        exact (Weak.of hN rfl rfl rfl frI frI)
  · have hie : i = k.clauses.length := by omega
    subst hie
    (repeat (first | refine XK.n ?_ | refine XK.a ?_ | refine XK.b ?_))
    (first | refine XK.outR [0, 1, 2, 3, 4, 5, 6] hN rfl rfl rfl ?_ rfl rfl ?_ | refine XK.outRN [0, 1, 2, 3, 4, 5, 6] hN rfl rfl rfl ?_ rfl rfl ?_)
    · exact frI
    · exact frI
def csT (k : K) (free : Bool) : List AV := frL 89 [(1, .ptr 6 0), (2, .vptr 7 0 1 0 0), (4, .rptr [.c (.bool free)])]
def itT (k : K) (free : Bool) (w : Wk) : List Ob := [.cells 101 [.ptr 2 0], wO k w 3 4 5, wHold k w, wUsed k w, wMark k w, .cells 101 [.ptr 2 0], .vec 161 1 0 5 (rowOf [.c .nilFunc, .fn (.func 71) [] [], .fn (.func 72) [] [], .fn (.func 73) [] [], .fn (.func 73) [] []] 1)]
def itNT (k : K) (free : Bool) (w : Wk) : List (Nat × Ob) := [(1, .cells 101 [.ptr 2 0]), (2, wO k w 3 4 5), (3, wHold k w), (4, wUsed k w), (5, wMark k w), (6, .cells 101 [.ptr 2 0]), (7, .vec 161 1 0 5 (rowOf [.c .nilFunc, .fn (.func 71) [] [], .fn (.func 72) [] [], .fn (.func 73) [] [], .fn (.func 73) [] []] 1))]
theorem runItT_ok (k : K) (free : Bool) (hk : KFacts k) (w : Wk) (f : Nat → Mk → Mk) (L b : Nat) (rc : Array Value → Obj)
    (hY : ∀ i, i < k.clauses.length → runsM (w.mark i) = true → DoesR Tryz.prog L [.c (.int .i64 i)] (.lrec rc b (csT k free) :: itT k free (mapRun f w i)) (.c (.bool true)) (.lrec rc b (csT k free) :: itT k free (mapRun f w (i + 1)))) :
    DoesM Tryz.prog 124 [.fn (.yield L) [] [], .ptr 1 0] (.lrec rc b (csT k free) :: itT k free w) (.tup []) (.lrec rc b (csT k free) :: itT k free (mapRun f w k.clauses.length)) := by
  refine DoesM.mk (fun _ => false) 100 TT_ok Tryz.func124 rfl (by kernel_rfl) Tryz.ntmps124 rfl rfl rfl fun E hT hE hN hR => ?_
  have hm := mixO hE
  have hnc := hk.nc
  (repeat (first | refine XK.n ?_ | refine XK.a ?_ | refine XK.b ?_))
  refine XK.loop (ι := Nat) (fun i => ST.of [(0, .fn (.yield L) [] []), (1, .ptr 1 0), (9, .c (.int .i64 k.clauses.length)), (10, .c (.int .i64 i))] ((0, .lrec rc b (csT k free)) :: itNT k free (mapRun f w i)) 1000 29 (fun _ => false))
    (fun i => i ≤ k.clauses.length) (fun i => k.clauses.length - i) 0 (Nat.zero_le _)
    (Weak.of hN rfl rfl rfl frI (by simp only [mapRun_zero]; (repeat' (first | exact rfl | exact AvIs.refl _ | exact trivial | exact fun _ _ => rfl | exact fun _ _ => ⟨rfl, AvIs.refl _⟩ | refine ⟨?_, ?_⟩)))) fun i hi => ?_
  (repeat (first | refine XK.n ?_ | refine XK.a ?_ | refine XK.b ?_)); refine XK.cond rfl (fun hlt => ?_) (fun hlt => ?_) <;> (try simp at hlt)
  · have hYi := hY i hlt
    have hs := mapRun_succ f w i
    have hm0 : (mapRun f w i).mark i = w.mark i := mapRun_ge (Nat.lt_irrefl i)
    have fm : (mapRun f w i).mark (i : Int).toNat = w.mark i := hm0
    (repeat (first | refine XK.n ?_ | refine XK.a ?_ | refine XK.b ?_))
    (repeat (first | refine XK.n ?_ | refine XK.a ?_ | refine XK.b ?_)); refine XK.region ?_; refine XL.g ?_
    refine XL.callLA hE rfl rfl rfl rfl trivial rfl (running_ok ((mapRun f w i).mark (i : Int).toNat)) rfl ?_
    rw [fm]
    refine XL.g ?_
    refine XL.yieldMG [0, 1, 2, 3, 4, 5, 6, 7] (.c (.bool false)) hE rfl rfl rfl rfl rfl rfl (fun hgd => ?_) rfl (fun hgd => ?_) (fun hgd => hYi hgd) rfl ?_ rfl (fun hgd => ?_) rfl rfl rfl (fun hgd => ?_)
    · rw [if_neg (by rw [hgd]; simp)] at hs
      refine XL.g ?_; refine XL.fin ?_; (repeat (first | refine XK.n ?_ | refine XK.a ?_ | refine XK.b ?_))
      (repeat (first | refine XK.n ?_ | refine XK.a ?_ | refine XK.b ?_)); refine XK.cond rfl (fun hb => ?_) (fun hb => ?_)
      · exact absurd hb (by rw [hgd]; simp)
      · (repeat (first | refine XK.n ?_ | refine XK.a ?_ | refine XK.b ?_))
        refine XK.inv ⟨i + 1, hlt, ?_, by omega⟩
        rw [hs]
        exact (Weak.of hN rfl rfl rfl frI frI)
    · simp only [AllP, impG, hgd]; simp
    · exact frI
    · exact frI
    · refine XL.g ?_; refine XL.fin ?_; (repeat (first | refine XK.n ?_ | refine XK.a ?_ | refine XK.b ?_))
      (repeat (first | refine XK.n ?_ | refine XK.a ?_ | refine XK.b ?_)); refine XK.cond rfl (fun hb => ?_) (fun hb => ?_)
      · exact absurd hb (by simp)
      · (repeat (first | refine XK.n ?_ | refine XK.a ?_ | refine XK.b ?_))
        refine XK.inv ⟨i + 1, hlt, ?_, by omega⟩
        exact (Weak.of hN rfl rfl rfl frI frI)
  · have hie : i = k.clauses.length := by omega
    subst hie
    (repeat (first | refine XK.n ?_ | refine XK.a ?_ | refine XK.b ?_))
    (first | refine XK.outR [0, 1, 2, 3, 4, 5, 6, 7] hN rfl rfl rfl ?_ rfl rfl ?_ | refine XK.outRN [0, 1, 2, 3, 4, 5, 6, 7] hN rfl rfl rfl ?_ rfl rfl ?_)
    · exact frI
    · exact frI
def csP (k : K) (a : Nat) : List AV := frL 132 [(2, .ptr 6 0), (3, .rptr [.c (.int .i64 (a : Nat))])]
def itP (k : K) (a : Nat) (w : Wk) : List Ob := [.cells 101 [.ptr 2 0], wO k w 3 4 5, wHold k w, wUsed k w, wMark k w, .cells 101 [.ptr 2 0]]
def itNP (k : K) (a : Nat) (w : Wk) : List (Nat × Ob) := [(1, .cells 101 [.ptr 2 0]), (2, wO k w 3 4 5), (3, wHold k w), (4, wUsed k w), (5, wMark k w), (6, .cells 101 [.ptr 2 0])]
theorem runItP_ok (k : K) (a : Nat) (hk : KFacts k) (w : Wk) (f : Nat → Mk → Mk) (L b : Nat) (rc : Array Value → Obj)
    (hY : ∀ i, i < k.clauses.length → runsM (w.mark i) = true → DoesR Tryz.prog L [.c (.int .i64 i)] (.lrec rc b (csP k a) :: itP k a (mapRun f w i)) (.c (.bool true)) (.lrec rc b (csP k a) :: itP k a (mapRun f w (i + 1)))) :
    DoesM Tryz.prog 124 [.fn (.yield L) [] [], .ptr 1 0] (.lrec rc b (csP k a) :: itP k a w) (.tup []) (.lrec rc b (csP k a) :: itP k a (mapRun f w k.clauses.length)) := by
  refine DoesM.mk (fun _ => false) 100 TT_ok Tryz.func124 rfl (by kernel_rfl) Tryz.ntmps124 rfl rfl rfl fun E hT hE hN hR => ?_
  have hm := mixO hE
  have hnc := hk.nc
  (repeat (first | refine XK.n ?_ | refine XK.a ?_ | refine XK.b ?_))
  refine XK.loop (ι := Nat) (fun i => ST.of [(0, .fn (.yield L) [] []), (1, .ptr 1 0), (9, .c (.int .i64 k.clauses.length)), (10, .c (.int .i64 i))] ((0, .lrec rc b (csP k a)) :: itNP k a (mapRun f w i)) 1000 29 (fun _ => false))
    (fun i => i ≤ k.clauses.length) (fun i => k.clauses.length - i) 0 (Nat.zero_le _)
    (Weak.of hN rfl rfl rfl frI (by simp only [mapRun_zero]; (repeat' (first | exact rfl | exact AvIs.refl _ | exact trivial | exact fun _ _ => rfl | exact fun _ _ => ⟨rfl, AvIs.refl _⟩ | refine ⟨?_, ?_⟩)))) fun i hi => ?_
  (repeat (first | refine XK.n ?_ | refine XK.a ?_ | refine XK.b ?_)); refine XK.cond rfl (fun hlt => ?_) (fun hlt => ?_) <;> (try simp at hlt)
  · have hYi := hY i hlt
    have hs := mapRun_succ f w i
    have hm0 : (mapRun f w i).mark i = w.mark i := mapRun_ge (Nat.lt_irrefl i)
    have fm : (mapRun f w i).mark (i : Int).toNat = w.mark i := hm0
    (repeat (first | refine XK.n ?_ | refine XK.a ?_ | refine XK.b ?_))
    (repeat (first | refine XK.n ?_ | refine XK.a ?_ | refine XK.b ?_)); refine XK.region ?_; refine XL.g ?_
    refine XL.callLA hE rfl rfl rfl rfl trivial rfl (running_ok ((mapRun f w i).mark (i : Int).toNat)) rfl ?_
    rw [fm]
    refine XL.g ?_
    refine XL.yieldMG [0, 1, 2, 3, 4, 5, 6] (.c (.bool false)) hE rfl rfl rfl rfl rfl rfl (fun hgd => ?_) rfl (fun hgd => ?_) (fun hgd => hYi hgd) rfl ?_ rfl (fun hgd => ?_) rfl rfl rfl (fun hgd => ?_)
    · rw [if_neg (by rw [hgd]; simp)] at hs
      refine XL.g ?_; refine XL.fin ?_; (repeat (first | refine XK.n ?_ | refine XK.a ?_ | refine XK.b ?_))
      (repeat (first | refine XK.n ?_ | refine XK.a ?_ | refine XK.b ?_)); refine XK.cond rfl (fun hb => ?_) (fun hb => ?_)
      · exact absurd hb (by rw [hgd]; simp)
      · (repeat (first | refine XK.n ?_ | refine XK.a ?_ | refine XK.b ?_))
        refine XK.inv ⟨i + 1, hlt, ?_, by omega⟩
        rw [hs]
        exact (Weak.of hN rfl rfl rfl frI frI)
    · simp only [AllP, impG, hgd]; simp
    · exact frI
    · exact frI
    · refine XL.g ?_; refine XL.fin ?_; (repeat (first | refine XK.n ?_ | refine XK.a ?_ | refine XK.b ?_))
      (repeat (first | refine XK.n ?_ | refine XK.a ?_ | refine XK.b ?_)); refine XK.cond rfl (fun hb => ?_) (fun hb => ?_)
      · exact absurd hb (by simp)
      · (repeat (first | refine XK.n ?_ | refine XK.a ?_ | refine XK.b ?_))
        refine XK.inv ⟨i + 1, hlt, ?_, by omega⟩
        exact (Weak.of hN rfl rfl rfl frI frI)
  · have hie : i = k.clauses.length := by omega
    subst hie
    (repeat (first | refine XK.n ?_ | refine XK.a ?_ | refine XK.b ?_))
    (first | refine XK.outR [0, 1, 2, 3, 4, 5, 6] hN rfl rfl rfl ?_ rfl rfl ?_ | refine XK.outRN [0, 1, 2, 3, 4, 5, 6] hN rfl rfl rfl ?_ rfl rfl ?_)
    · exact frI
    · exact frI
def csA (k : K) (a : Nat) (by_ : Int) : List AV := frL 132 [(2, .ptr 6 0), (3, .rptr [.c (.int .i64 (a : Nat))]), (6, .vptr 7 0 1 0 0), (7, .rptr [.c (.int .i64 by_)])]
def itA (k : K) (a : Nat) (by_ : Int) (w : Wk) : List Ob := [.cells 101 [.ptr 2 0], wO k w 3 4 5, wHold k w, wUsed k w, wMark k w, .cells 101 [.ptr 2 0], .vec 161 1 0 5 (rowOf [.c .nilFunc, .fn (.func 76) [] [], .fn (.func 77) [] [], .fn (.func 72) [] [], .fn (.func 72) [] []] 1)]
def itNA (k : K) (a : Nat) (by_ : Int) (w : Wk) : List (Nat × Ob) := [(1, .cells 101 [.ptr 2 0]), (2, wO k w 3 4 5), (3, wHold k w), (4, wUsed k w), (5, wMark k w), (6, .cells 101 [.ptr 2 0]), (7, .vec 161 1 0 5 (rowOf [.c .nilFunc, .fn (.func 76) [] [], .fn (.func 77) [] [], .fn (.func 72) [] [], .fn (.func 72) [] []] 1))]
theorem runItA_ok (k : K) (a : Nat) (by_ : Int) (hk : KFacts k) (w : Wk) (f : Nat → Mk → Mk) (L b : Nat) (rc : Array Value → Obj)
    (hY : ∀ i, i < k.clauses.length → runsM (w.mark i) = true → DoesR Tryz.prog L [.c (.int .i64 i)] (.lrec rc b (csA k a by_) :: itA k a by_ (mapRun f w i)) (.c (.bool true)) (.lrec rc b (csA k a by_) :: itA k a by_ (mapRun f w (i + 1)))) :
    DoesM Tryz.prog 124 [.fn (.yield L) [] [], .ptr 1 0] (.lrec rc b (csA k a by_) :: itA k a by_ w) (.tup []) (.lrec rc b (csA k a by_) :: itA k a by_ (mapRun f w k.clauses.length)) := by
  refine DoesM.mk (fun _ => false) 100 TT_ok Tryz.func124 rfl (by kernel_rfl) Tryz.ntmps124 rfl rfl rfl fun E hT hE hN hR => ?_
  have hm := mixO hE
  have hnc := hk.nc
  (repeat (first | refine XK.n ?_ | refine XK.a ?_ | refine XK.b ?_))
  refine XK.loop (ι := Nat) (fun i => ST.of [(0, .fn (.yield L) [] []), (1, .ptr 1 0), (9, .c (.int .i64 k.clauses.length)), (10, .c (.int .i64 i))] ((0, .lrec rc b (csA k a by_)) :: itNA k a by_ (mapRun f w i)) 1000 29 (fun _ => false))
    (fun i => i ≤ k.clauses.length) (fun i => k.clauses.length - i) 0 (Nat.zero_le _)
    (Weak.of hN rfl rfl rfl frI (by simp only [mapRun_zero]; (repeat' (first | exact rfl | exact AvIs.refl _ | exact trivial | exact fun _ _ => rfl | exact fun _ _ => ⟨rfl, AvIs.refl _⟩ | refine ⟨?_, ?_⟩)))) fun i hi => ?_
  (repeat (first | refine XK.n ?_ | refine XK.a ?_ | refine XK.b ?_)); refine XK.cond rfl (fun hlt => ?_) (fun hlt => ?_) <;> (try simp at hlt)
  · have hYi := hY i hlt
    have hs := mapRun_succ f w i
    have hm0 : (mapRun f w i).mark i = w.mark i := mapRun_ge (Nat.lt_irrefl i)
    have fm : (mapRun f w i).mark (i : Int).toNat = w.mark i := hm0
    (repeat (first | refine XK.n ?_ | refine XK.a ?_ | refine XK.b ?_))
    (repeat (first | refine XK.n ?_ | refine XK.a ?_ | refine XK.b ?_)); refine XK.region ?_; refine XL.g ?_
    refine XL.callLA hE rfl rfl rfl rfl trivial rfl (running_ok ((mapRun f w i).mark (i : Int).toNat)) rfl ?_
    rw [fm]
    refine XL.g ?_
    refine XL.yieldMG [0, 1, 2, 3, 4, 5, 6, 7] (.c (.bool false)) hE rfl rfl rfl rfl rfl rfl (fun hgd => ?_) rfl (fun hgd => ?_) (fun hgd => hYi hgd) rfl ?_ rfl (fun hgd => ?_) rfl rfl rfl (fun hgd => ?_)
    · rw [if_neg (by rw [hgd]; simp)] at hs
      refine XL.g ?_; refine XL.fin ?_; (repeat (first | refine XK.n ?_ | refine XK.a ?_ | refine XK.b ?_))
      (repeat (first | refine XK.n ?_ | refine XK.a ?_ | refine XK.b ?_)); refine XK.cond rfl (fun hb => ?_) (fun hb => ?_)
      · exact absurd hb (by rw [hgd]; simp)
      · (repeat (first | refine XK.n ?_ | refine XK.a ?_ | refine XK.b ?_))
        refine XK.inv ⟨i + 1, hlt, ?_, by omega⟩
        rw [hs]
        exact (Weak.of hN rfl rfl rfl frI frI)
    · simp only [AllP, impG, hgd]; simp
    · exact frI
    · exact frI
    · refine XL.g ?_; refine XL.fin ?_; (repeat (first | refine XK.n ?_ | refine XK.a ?_ | refine XK.b ?_))
      (repeat (first | refine XK.n ?_ | refine XK.a ?_ | refine XK.b ?_)); refine XK.cond rfl (fun hb => ?_) (fun hb => ?_)
      · exact absurd hb (by simp)
      · (repeat (first | refine XK.n ?_ | refine XK.a ?_ | refine XK.b ?_))
        refine XK.inv ⟨i + 1, hlt, ?_, by omega⟩
        exact (Weak.of hN rfl rfl rfl frI frI)
  · have hie : i = k.clauses.length := by omega
    subst hie
    (repeat (first | refine XK.n ?_ | refine XK.a ?_ | refine XK.b ?_))
    (first | refine XK.outR [0, 1, 2, 3, 4, 5, 6, 7] hN rfl rfl rfl ?_ rfl rfl ?_ | refine XK.outRN [0, 1, 2, 3, 4, 5, 6, 7] hN rfl rfl rfl ?_ rfl rfl ?_)
    · exact frI
    · exact frI
end
section
open Go.Eng
theorem wshift_ok (k : K) (hk : KFacts k) (w : Wk) (a : Nat) (ha : a < k.acts.length) (hx : (acAt k a).kind ≠ 1) : DoesM Tryz.prog 79 [.ptr 0 0, .c (.int .i64 a)] (wOs k w) (.tup []) (wOs k (giveW k w a)) := by
  refine DoesM.mk (fun _ => false) 100 TT_ok Tryz.func79 rfl (by kernel_rfl) Tryz.ntmps79 rfl rfl rfl fun E hT hE hN hR => ?_
  have hm := mixO hE
  have fc : k.acts.getD (a : Int).toNat default = acAt k a := rfl
  have hf := actF (hk.act a ha)
  have hg : 0 ≤ (acAt k a).give ∧ (acAt k a).give < k.holders.length := by omega
  have hnc := hk.nc
  (repeat (first | refine XK.n ?_ | refine XK.a ?_ | refine XK.b ?_))
  refine XK.weak (Weak.of (L := [(2, .ptr 102 0), (4, .ptr 170 0), (34, .c (.bool ((acAt k a).kind != 3)))]) (O := (102, .cells 101 [.ptr 0 0]) :: (170, .cells 115 (actC (acAt k a))) :: wN k (shiftW k w a)) (nx := 1000) (nt := 66) (md := fun _ => false) hN rfl rfl rfl frI ?_) ?_
  · refine ⟨frI, frI, frI, ⟨⟨rfl, rfl, rfl⟩, rfl, fun j hj => ?_⟩, ⟨⟨rfl, rfl, rfl⟩, rfl, fun j hj => ?_⟩, frI⟩
    · show _ = setRowF (fun i => [.c (.int .i64 (w.hold i))]) (acAt k a).give.toNat 0 [.c (.int .i64 (acAt k a).to)] j
      by_cases hji : j = (acAt k a).give.toNat
      · subst hji; simp [setRowF, setL, shiftW]
      · simp [setRowF, beq_false hji, shiftW, hji]
    · by_cases hji : j = a
      · subst hji; simp [setRowF, setL, shiftW]
      · simp [setRowF, beq_false hji, shiftW, hji]
  unfold giveW
  generalize shiftW k w a = w1
  (repeat (first | refine XK.n ?_ | refine XK.a ?_ | refine XK.b ?_)); refine XK.cond rfl (fun h3 => ?_) (fun h3 => ?_) <;> (try simp at h3)
  · rw [if_pos h3]
    (repeat (first | refine XK.n ?_ | refine XK.a ?_ | refine XK.b ?_))
    (first | refine XK.outR [0, 1, 2, 3] hN rfl rfl rfl ?_ rfl rfl ?_ | refine XK.outRN [0, 1, 2, 3] hN rfl rfl rfl ?_ rfl rfl ?_)
    · exact frI
    · exact frI
  · rw [if_neg (by simpa using h3)]
    (repeat (first | refine XK.n ?_ | refine XK.a ?_ | refine XK.b ?_))
    (repeat (first | refine XK.n ?_ | refine XK.a ?_ | refine XK.b ?_)); refine XK.region ?_; refine XL.g ?_
    refine XL.callMA [0, 1, 2, 3, 701] hE rfl rfl rfl rfl trivial (wrunning_ok k w1) rfl rfl rfl rfl rfl ?_
    refine XL.g ?_; refine XL.fin ?_; (repeat (first | refine XK.n ?_ | refine XK.a ?_ | refine XK.b ?_))
    refine XK.weak (Weak.trans (Weak.frozenC (k := 170) hN rfl rfl rfl) (Weak.of (L := [(2, .ptr 102 0), (4, .rptr (actC (acAt k a))), (36, .fn (.func 124) [] [.ptr 701 0])]) (O := (701, .cells 101 [.ptr 0 0]) :: (102, .cells 101 [.ptr 0 0]) :: wN k w1) (nx := 2000) (nt := 66) (md := fun _ => false) hN rfl rfl rfl frI frI)) ?_
    refine XK.rangeFunc 900 [701, 0, 1, 2, 3, 102] (frL 66 [(2, .ptr 102 0), (4, .rptr (actC (acAt k a)))])
      (ST.of [] (wN k (mapRun (bearM k (acAt k a)) w1 k.clauses.length)) 3000 66 (fun _ => false))
      (res := .tup []) (args' := [.ptr 1 0]) (s := .ready) (pend := none) (O' := itS k a (mapRun (bearM k (acAt k a)) w1 k.clauses.length)) (O := itS k a w1) hR rfl trivial rfl (frL_length _ _) (frL_is frI) (fun L D fn => ?_) rfl frI rfl rfl frI rfl rfl (by simp) (fun L D fn cs => (Weak.of hN rfl rfl rfl frI frI)) ?_
    · rw [hE]
      refine runItS_ok k a hk w1 (bearM k (acAt k a)) L L (recOf fn _ _ _ D .ready none) (fun i hi hr => ?_)
      · have hs := mapRun_succ (bearM k (acAt k a)) w1 i
        rw [if_pos hr] at hs
        have hm0 : (mapRun (bearM k (acAt k a)) w1 i).mark i = w1.mark i := mapRun_ge (Nat.lt_irrefl i)
        rw [hs]
        generalize mapRun (bearM k (acAt k a)) w1 i = w2 at *
        have fc2 : k.clauses.getD (i : Int).toNat default = clAt k i := rfl
        refine DoesR.mkT TT_ok (fun _ => false) 100 (ST.of [(2, .ptr 6 0), (4, .rptr (actC (acAt k a))), (5, .c (.int .i64 i))] ((0, .lrec (recOf fn _ _ _ D .ready none) L (csS k a)) :: itNS k a w2) 1000 66 (fun _ => false)) rfl ?_ (Nat.le_refl 6) (fun E hT hE hN hR => ?_) rfl (fun E hT hE hN hR => ?_)
        · intro x hx
          simp only [List.mem_toArray, List.mem_singleton] at hx
          subst hx
          show 37 < (frL 66 _).length
          rw [frL_length]
          omega
        · have hm := mixO hE
          (repeat (first | refine XK.n ?_ | refine XK.a ?_ | refine XK.b ?_))
          exact XK.nil ⟨rfl, (Weak.of hN rfl rfl rfl frI frI)⟩
        · have hm := mixO hE
          unfold bearM
          (repeat (first | refine XK.n ?_ | refine XK.a ?_ | refine XK.b ?_))
          rw [fc2]
          (repeat (first | refine XK.n ?_ | refine XK.a ?_ | refine XK.b ?_)); refine XK.cond rfl (fun h5 => ?_) (fun h5 => ?_) <;> (try simp at h5)
          · rw [if_pos (show (clAt k i).kind ≠ 4 ∧ (clAt k i).role = (acAt k a).give by simpa using h5), ← hm0]
            (repeat (first | refine XK.n ?_ | refine XK.a ?_ | refine XK.b ?_))
            (first | refine XK.outY [0, 1, 2, 3, 4, 5, 6] hN rfl rfl rfl ?_ ?_ ?_ | refine XK.outYN [0, 1, 2, 3, 4, 5, 6] hN rfl rfl rfl ?_ ?_ ?_)
            · (repeat' (first | exact rfl | exact AvIs.refl _ | exact trivial | exact fun _ _ => rfl | exact fun _ _ => ⟨rfl, AvIs.refl _⟩ | exact fun _ hi => absurd hi (Nat.not_lt_zero _) | (intro i hi; cases Nat.lt_one_iff.1 hi; rfl) | (intro j hj; by_cases hji : j = (i); (· subst hji; simp [setRowF, setL, mkC, Wk.upM]; done); (· simp [setRowF, beq_false hji, Wk.upM, hji, lt_succ_ne hji]; done)) | refine ⟨?_, ?_⟩))
            · rfl
            · rfl
          · rw [if_neg (show ¬ ((clAt k i).kind ≠ 4 ∧ (clAt k i).role = (acAt k a).give) by simpa using h5), ← hm0, upM_self]
            (repeat (first | refine XK.n ?_ | refine XK.a ?_ | refine XK.b ?_))
            (first | refine XK.outY [0, 1, 2, 3, 4, 5, 6] hN rfl rfl rfl ?_ ?_ ?_ | refine XK.outYN [0, 1, 2, 3, 4, 5, 6] hN rfl rfl rfl ?_ ?_ ?_)
            · exact frI
            · rfl
            · rfl
    · (repeat (first | refine XK.n ?_ | refine XK.a ?_ | refine XK.b ?_))
      (first | refine XK.outR [0, 1, 2, 3] hN rfl rfl rfl ?_ rfl rfl ?_ | refine XK.outRN [0, 1, 2, 3] hN rfl rfl rfl ?_ rfl rfl ?_)
      · exact frI
      · exact frI
end
section
open Go.Eng
theorem halfW (i j : Nat) : Int.fdiv ((i : Int) + j) (2 ^ (min (Int.toNat 1) (IntKind.bits .u64))) = (((i + j) / 2 : Nat) : Int) := by
  have : (2 : Int) ^ (min (Int.toNat 1) (IntKind.bits .u64)) = 2 := by decide
  rw [this, Int.fdiv_eq_ediv_of_nonneg _ (by omega)]
  omega
theorem offW_mono {k : K} (h : offB k = true) : ∀ i j, i < j → j < k.off.length → k.off.getD i default < k.off.getD j default := by
  have h1 : ∀ i, i < k.off.length → offPrev k i < k.off.getD i default := fun i hi => by
    have := List.all_eq_true.1 h i (List.mem_range.2 hi)
    simp only [Bool.and_eq_true, decide_eq_true_eq] at this
    exact this.1
  intro i j hij hj
  induction j with
  | zero => omega
  | succ j ih =>
    have h2 := h1 (j + 1) hj
    simp only [offPrev, Nat.add_sub_cancel, Nat.succ_ne_zero, if_false, Nat.add_one_ne_zero] at h2
    by_cases h3 : i = j
    · subst h3; exact h2
    · have := ih (by omega) (by omega)
      omega
theorem offW_len {k : K} (hk : KFacts k) : k.off.length ≤ 1000000 := by
  have hmono := offW_mono hk.off
  have hlow : ∀ i, i < k.off.length → (i : Int) ≤ k.off.getD i default := fun i => by
    induction i with
    | zero =>
      intro hi
      have := List.all_eq_true.1 hk.off 0 (List.mem_range.2 hi)
      simp [offPrev] at this
      simp
      omega
    | succ i ih =>
      intro hi
      have h1 := ih (by omega)
      have h2 := hmono i (i + 1) (by omega) hi
      omega
  rcases Nat.eq_zero_or_pos k.off.length with h | h
  · omega
  · have h1 := hlow (k.off.length - 1) (by omega)
    have h2 := List.all_eq_true.1 hk.off (k.off.length - 1) (List.mem_range.2 (by omega))
    simp only [Bool.and_eq_true, decide_eq_true_eq] at h2
    have h3 := hk.days
    omega
theorem anyW {l : List Int} {d : Int} : l.any (fun x => x == d) = true ↔ ∃ i, i < l.length ∧ l.getD i default = d := by
  rw [List.any_eq_true]
  constructor
  · rintro ⟨x, hx, h⟩
    obtain ⟨i, hi, rfl⟩ := List.getElem_of_mem hx
    exact ⟨i, hi, by simpa only [List.getD_eq_getElem?_getD, List.getElem?_eq_getElem hi, Option.getD_some, beq_iff_eq] using h⟩
  · rintro ⟨i, hi, h⟩
    refine ⟨_, List.getElem_mem hi, ?_⟩
    simpa only [List.getD_eq_getElem?_getD, List.getElem?_eq_getElem hi, Option.getD_some, beq_iff_eq] using h
theorem nanS_ok (x : Int) : Does Tryz.prog 123 [.c (.int .i64 x)] (.c (.bool false)) := by
  refine Does.mk (fun _ => false) TT_ok Tryz.func123 rfl (by kernel_rfl) Tryz.ntmps123 rfl rfl fun E hT hE hN hR => ?_
  have hm := mixO hE
  (repeat (first | refine XK.n ?_ | refine XK.a ?_ | refine XK.b ?_))
  (first | refine XK.o ?_ | refine XK.p ?_)
  simp
theorem nanC_ok (x : Int) : Does Tryz.prog 144 [.c (.int .i64 x)] (.c (.bool false)) := by
  refine Does.mk (fun _ => false) TT_ok Tryz.func144 rfl (by kernel_rfl) Tryz.ntmps144 rfl rfl fun E hT hE hN hR => ?_
  have hm := mixO hE
  (repeat (first | refine XK.n ?_ | refine XK.a ?_ | refine XK.b ?_))
  (first | refine XK.o ?_ | refine XK.p ?_)
  simp
theorem less_ok (x y : Int) : Does Tryz.prog 122 [.c (.int .i64 x), .c (.int .i64 y)] (.c (.bool (decide (x < y)))) := by
  refine Does.mk (fun _ => false) TT_ok Tryz.func122 rfl (by kernel_rfl) Tryz.ntmps122 rfl rfl fun E hT hE hN hR => ?_
  have hm := mixO hE
  (repeat (first | refine XK.n ?_ | refine XK.a ?_ | refine XK.b ?_)); refine XK.region ?_; refine XL.g ?_
  refine XL.callLA hE rfl rfl rfl rfl trivial rfl (nanC_ok x) rfl ?_
  refine XL.g ?_
  refine XL.callGA hE rfl rfl rfl rfl rfl rfl rfl rfl (nanC_ok y) rfl ?_
  refine XL.g ?_; refine XL.fin ?_; (repeat (first | refine XK.n ?_ | refine XK.a ?_ | refine XK.b ?_))
  (first | refine XK.o ?_ | refine XK.p ?_)
  simp
theorem bsearch_ok (k : K) (hk : KFacts k) (day : Int) : ∃ m : Nat, m ≤ 1000000 ∧ Does Tryz.prog 74 [intsV k.off, .c (.int .i64 day)] (.tup [.c (.int .i64 m), .c (.bool (offD k day))]) := by
  have hmono := offW_mono hk.off
  have hlen := offW_len hk
  have hm1 : ∀ i j, i ≤ j → j < k.off.length → ¬ k.off.getD i default < day → ¬ k.off.getD j default < day := fun i j hij hj h => by
    by_cases e : i = j
    · subst e; exact h
    · have := hmono i j (by omega) hj
      omega
  -- the least index from which the days are not before
  obtain ⟨m, m1, m2, m3⟩ : ∃ m : Nat, m ≤ k.off.length ∧ (∀ i, i < m → k.off.getD i default < day) ∧ ∀ i, m ≤ i → i < k.off.length → ¬ k.off.getD i default < day := by
    have key : ∀ n, n ≤ k.off.length → ∃ m : Nat, m ≤ n ∧ (∀ i, i < m → k.off.getD i default < day) ∧ ∀ i, m ≤ i → i < n → ¬ k.off.getD i default < day := by
      intro n
      induction n with
      | zero => exact fun _ => ⟨0, Nat.le_refl _, fun i hi => absurd hi (Nat.not_lt_zero _), fun i _ hi => absurd hi (Nat.not_lt_zero _)⟩
      | succ n ih =>
        intro hn
        obtain ⟨m, h1, h2, h3⟩ := ih (by omega)
        by_cases hd : k.off.getD n default < day
        · refine ⟨n + 1, Nat.le_refl _, fun i hi => ?_, fun i h4 h5 => by omega⟩
          by_cases e : i = n
          · subst e; exact hd
          · have := hmono i n (by omega) (by omega)
            omega
        · refine ⟨m, by omega, h2, fun i h4 h5 => ?_⟩
          by_cases e : i = n
          · subst e; exact hd
          · exact h3 i h4 (by omega)
    exact key _ (Nat.le_refl _)
  have hfin : offD k day = (decide (m < k.off.length) && k.off.getD m default == day) := by
    unfold offD
    rw [Bool.eq_iff_iff, anyW]
    constructor
    · rintro ⟨i, hi, he⟩
      have h4 : ¬ i < m := fun h => by have := m2 i h; omega
      have h5 : m < k.off.length := by omega
      have h6 := m3 m (Nat.le_refl _) h5
      have h7 : ¬ m < i := fun h => by have := hmono m i h hi; omega
      have : m = i := by omega
      subst this
      rw [decide_eq_true hi, Bool.true_and, beq_iff_eq]
      exact he
    · intro h
      simp only [Bool.and_eq_true, decide_eq_true_eq, beq_iff_eq] at h
      exact ⟨m, h.1, h.2⟩
  refine ⟨m, by omega, ?_⟩
  refine Does.mk (fun _ => false) TT_ok Tryz.func74 rfl (by kernel_rfl) Tryz.ntmps74 rfl rfl fun E hT hE hN hR => ?_
  have hm := mixO hE
  (repeat (first | refine XK.n ?_ | refine XK.a ?_ | refine XK.b ?_))
  refine XK.loop (ι := Nat × Nat) (fun p => ST.of [(0, intsV k.off), (1, .c (.int .i64 day)), (6, .c (.int .i64 k.off.length)), (7, .c (.int .i64 p.1)), (8, .c (.int .i64 p.2))] [] 1000 54 (fun _ => false))
    (fun p => p.1 ≤ m ∧ m ≤ p.2 ∧ p.2 ≤ k.off.length) (fun p => p.2 - p.1) (0, k.off.length) ⟨Nat.zero_le _, m1, Nat.le_refl _⟩
    (Weak.of hN rfl rfl rfl frI frI) fun p hp => ?_
  obtain ⟨a, b⟩ := p
  obtain ⟨h1, h2, h3⟩ := hp
  simp only at h1 h2 h3
  (repeat (first | refine XK.n ?_ | refine XK.a ?_ | refine XK.b ?_)); refine XK.cond rfl (fun hlt => ?_) (fun hlt => ?_) <;> (try simp at hlt)
  · have hh := halfW a b
    (repeat (first | refine XK.n ?_ | refine XK.a ?_ | refine XK.b ?_))
    refine XK.weak (Weak.of (L := [(0, intsV k.off), (1, .c (.int .i64 day)), (6, .c (.int .i64 k.off.length)), (7, .c (.int .i64 a)), (8, .c (.int .i64 b)), (9, .c (.int .i64 (((a + b) / 2 : Nat) : Int)))]) (O := []) (nx := 3000) (nt := 54) (md := fun _ => false) hN rfl rfl rfl ⟨AvIs.refl _, rfl, rfl, rfl, rfl, cI hh⟩ trivial) ?_
    have hlt2 : (a + b) / 2 < k.off.length := by omega
    have fo : k.off.getD ((((a + b) / 2 : Nat) : Int)).toNat default = k.off.getD ((a + b) / 2) default := rfl
    (repeat (first | refine XK.n ?_ | refine XK.a ?_ | refine XK.b ?_)); refine XK.region ?_; refine XL.g ?_
    refine XL.callLA hE rfl rfl rfl rfl trivial rfl (less_ok (k.off.getD ((((a + b) / 2 : Nat) : Int)).toNat default) day) rfl ?_
    refine XL.g ?_; refine XL.fin ?_; (repeat (first | refine XK.n ?_ | refine XK.a ?_ | refine XK.b ?_))
    rw [fo]
    (repeat (first | refine XK.n ?_ | refine XK.a ?_ | refine XK.b ?_)); refine XK.cond rfl (fun h5 => ?_) (fun h5 => ?_) <;> (try simp at h5)
    · (repeat (first | refine XK.n ?_ | refine XK.a ?_ | refine XK.b ?_))
      have h6 : (a + b) / 2 < m := Decidable.byContradiction fun h => m3 ((a + b) / 2) (by omega) hlt2 (by simpa using h5)
      exact XK.inv ⟨((a + b) / 2 + 1, b), ⟨by omega, h2, h3⟩, (Weak.of hN rfl rfl rfl frI frI), by omega⟩
    · (repeat (first | refine XK.n ?_ | refine XK.a ?_ | refine XK.b ?_))
      have h6 : m ≤ (a + b) / 2 := Decidable.byContradiction fun h => by have h7 := m2 ((a + b) / 2) (by omega); rw [List.getD_eq_getElem?_getD] at h7; exact absurd h7 (Int.not_lt.2 h5)
      exact XK.inv ⟨(a, (a + b) / 2), ⟨h1, h6, by show (a + b) / 2 ≤ _; omega⟩, (Weak.of hN rfl rfl rfl frI frI), by show (a + b) / 2 - a < b - a; omega⟩
  · have hab : a = m := by omega
    subst hab
    rw [hfin]
    (repeat (first | refine XK.n ?_ | refine XK.a ?_ | refine XK.b ?_)); refine XK.region ?_; refine XL.g ?_
    refine XL.callGA hE rfl rfl rfl rfl rfl rfl rfl rfl (nanS_ok (k.off.getD (a : Int).toNat default)) rfl ?_
    refine XL.g ?_
    refine XL.callGA hE rfl rfl rfl rfl rfl rfl rfl rfl (nanS_ok day) rfl ?_
    refine XL.g ?_; refine XL.fin ?_; (repeat (first | refine XK.n ?_ | refine XK.a ?_ | refine XK.b ?_))
    (first | refine XK.o ?_ | refine XK.p ?_)
    simp
end
section
open Go.Eng
def fxT : Ob := .vec 161 1 0 5 (rowOf [.c .nilFunc, .fn (.func 71) [] [], .fn (.func 72) [] [], .fn (.func 73) [] [], .fn (.func 73) [] []] 1)
theorem clC_kind {x : Cl} {n : Int} (h : x.kind = n) : clC x = .c (.int .i64 n) :: (clC x).tail := by
  subst h; rfl
theorem wtick_ok (k : K) (hk : KFacts k) (w : Wk) (hd : 0 ≤ w.day ∧ w.day ≤ 100000) (hl : ∀ i, i < k.clauses.length → runsM (w.mark i) = true → RunF k (clAt k i) (w.mark i)) : DoesM Tryz.prog 41 [.ptr 0 0] (wOs k w) (.tup []) (wOs k (tickW k w)) := by
  refine DoesM.mk (fun _ => false) 100 TT_ok Tryz.func41 rfl (by kernel_rfl) Tryz.ntmps41 rfl rfl rfl fun E hT hE hN hR => ?_
  have hm := mixO hE
  have hnc := hk.nc
  obtain ⟨m, hm1, hbs⟩ := bsearch_ok k hk w.day
  (repeat (first | refine XK.n ?_ | refine XK.a ?_ | refine XK.b ?_))
  refine XK.weak (Weak.of (L := [(1, .ptr 101 0), (2, .vptr 191 0 1 0 0)]) (O := (101, .cells 101 [.ptr 0 0]) :: (191, fxT) :: wN k w) (nx := 1000) (nt := 89) (md := fun _ => false) hN rfl rfl rfl frI frI) ?_
  (repeat (first | refine XK.n ?_ | refine XK.a ?_ | refine XK.b ?_)); refine XK.drawn hm ?_; refine XD.goA hT rfl rfl rfl rfl ?_
  refine XD.callLA hE rfl rfl rfl rfl trivial rfl (hbs) rfl ?_
  refine XD.goA hT rfl rfl rfl rfl ?_; refine XD.fin (by kernel_rfl) ?_; (repeat (first | refine XK.n ?_ | refine XK.a ?_ | refine XK.b ?_))
  (repeat (first | refine XK.n ?_ | refine XK.a ?_ | refine XK.b ?_)); refine XK.region ?_; refine XL.g ?_
  refine XL.callMA [0, 1, 2, 3, 701] hE rfl rfl rfl rfl trivial (wrunning_ok k w) rfl rfl rfl rfl rfl ?_
  refine XL.g ?_; refine XL.fin ?_; (repeat (first | refine XK.n ?_ | refine XK.a ?_ | refine XK.b ?_))
  have hT0 : tickW k w = startW k { mapRun (tickM k (offD k w.day)) w k.clauses.length with day := w.day + 1 } := rfl
  rw [hT0]
  generalize offD k w.day = free
  refine XK.weak (Weak.trans (Weak.frozenC (k := 1004) hN rfl rfl rfl) (Weak.of (L := [(1, .ptr 101 0), (2, .vptr 191 0 1 0 0), (4, .rptr [.c (.bool free)]), (23, .fn (.func 124) [] [.ptr 701 0])]) (O := (701, .cells 101 [.ptr 0 0]) :: (101, .cells 101 [.ptr 0 0]) :: (191, fxT) :: wN k w) (nx := 2000) (nt := 89) (md := fun _ => false) hN rfl rfl rfl frI frI)) ?_
  refine XK.rangeFunc 900 [701, 0, 1, 2, 3, 101, 191] (frL 89 [(1, .ptr 101 0), (2, .vptr 191 0 1 0 0), (4, .rptr [.c (.bool free)])])
    (ST.of [(1, .ptr 101 0)] ((101, .cells 101 [.ptr 0 0]) :: wN k (mapRun (tickM k free) w k.clauses.length)) 3000 89 (fun _ => false))
    (res := .tup []) (args' := [.ptr 1 0]) (s := .ready) (pend := none) (O' := itT k free (mapRun (tickM k free) w k.clauses.length)) (O := itT k free w) hR rfl trivial rfl (frL_length _ _) (frL_is frI) (fun L D fn => ?_) rfl frI rfl rfl frI rfl rfl (by simp) (fun L D fn cs => (Weak.of hN rfl rfl rfl frI frI)) ?_
  · rw [hE]
    refine runItT_ok k free hk w (tickM k free) L L (recOf fn _ _ _ D .ready none) (fun i hi hr => ?_)
    have hs := mapRun_succ (tickM k free) w i
    rw [if_pos hr] at hs
    have hm0 : (mapRun (tickM k free) w i).mark i = w.mark i := mapRun_ge (Nat.lt_irrefl i)
    have hrf := hl i hi hr
    rw [hs]
    generalize mapRun (tickM k free) w i = w2 at *
    have fc2 : k.clauses.getD (i : Int).toNat default = clAt k i := rfl
    have hkw := kindW (hk.clB hi).2.2.1
    have hlb := hrf.left
    have hlc := (hk.clB hi).2.1
    have hst := hrf.stat
    refine DoesR.mkT TT_ok (fun _ => false) 100 (ST.of [(1, .ptr 6 0), (2, .vptr 7 0 1 0 0), (4, .rptr [.c (.bool free)]), (5, .c (.int .i64 i))] ((0, .lrec (recOf fn _ _ _ D .ready none) L (csT k free)) :: itNT k free w2) 1000 89 (fun _ => false)) rfl ?_ (Nat.le_refl 7) (fun E hT hE hN hR => ?_) rfl (fun E hT hE hN hR => ?_)
    · intro x hx
      simp only [List.mem_toArray, List.mem_singleton] at hx
      subst hx
      show 24 < (frL 89 _).length
      rw [frL_length]
      omega
    · have hm := mixO hE
      (repeat (first | refine XK.n ?_ | refine XK.a ?_ | refine XK.b ?_))
      exact XK.nil ⟨rfl, (Weak.of hN rfl rfl rfl frI frI)⟩
    · have hm := mixO hE
      unfold tickM
      (repeat (first | refine XK.n ?_ | refine XK.a ?_ | refine XK.b ?_))
      rw [fc2]
      (repeat (first | refine XK.n ?_ | refine XK.a ?_ | refine XK.b ?_)); refine XK.cond rfl (fun h5 => ?_) (fun h5 => ?_)
      · have h5 : ((w2.mark i).paused || (clAt k i).business && free) = true := h5
        rw [hm0] at h5
        rw [if_pos h5, ← hm0, upM_self]
        (repeat (first | refine XK.n ?_ | refine XK.a ?_ | refine XK.b ?_))
        (first | refine XK.outY [0, 1, 2, 3, 4, 5, 6, 7] hN rfl rfl rfl ?_ ?_ ?_ | refine XK.outYN [0, 1, 2, 3, 4, 5, 6, 7] hN rfl rfl rfl ?_ ?_ ?_)
        · exact frI
        · rfl
        · rfl
      · have h5 : ((w2.mark i).paused || (clAt k i).business && free) = false := h5
        rw [hm0] at h5
        rw [if_neg (by rw [h5]; simp)]
        generalize hmm : w.mark i = mm at *
        have fm : w2.mark (i : Int).toNat = mm := hm0
        (repeat (first | refine XK.n ?_ | refine XK.a ?_ | refine XK.b ?_))
        refine XK.weak (Weak.of (L := [(1, .ptr 6 0), (2, .vptr 7 0 1 0 0), (4, .rptr [.c (.bool free)]), (5, .c (.int .i64 i)), (6, .ptr 1006 0)]) (O := (1006, .cells 56 (clC (clAt k i))) :: (0, .lrec (recOf fn _ _ _ D .busy none) L (csT k free)) :: itNT k free (w2.upM i (lessM mm))) (nx := 2000) (nt := 89) (md := fun _ => false) hN rfl rfl rfl frI (by (repeat' (first | exact rfl | exact AvIs.refl _ | exact trivial | exact fun _ _ => rfl | exact fun _ _ => ⟨rfl, AvIs.refl _⟩ | exact fun _ hi => absurd hi (Nat.not_lt_zero _) | (intro i hi; cases Nat.lt_one_iff.1 hi; rfl) | (intro j hj; by_cases hji : j = (i); (· subst hji; simp [setRowF, setL, mkC, Wk.upM, lessM, hm0]; done); (· simp [setRowF, beq_false hji, Wk.upM, lessM, hm0, hji, lt_succ_ne hji]; done)) | refine ⟨?_, ?_⟩)))) ?_
        have f2 : (w2.upM i (lessM mm)).mark (i : Int).toNat = lessM mm := upM_same _ _ _
        have hk4 : (clAt k i).kind = 1 ∨ (clAt k i).kind = 2 ∨ (clAt k i).kind = 3 ∨ (clAt k i).kind = 4 := by omega
        (repeat (first | refine XK.n ?_ | refine XK.a ?_ | refine XK.b ?_))
        rw [f2]
        (repeat (first | refine XK.n ?_ | refine XK.a ?_ | refine XK.b ?_)); refine XK.cond rfl (fun h6 => ?_) (fun h6 => ?_) <;> (try simp at h6)
        · have h6 : mm.left - 1 = 0 := h6
          rw [if_pos h6]
          unfold dayM
          rcases hk4 with h7 | h7 | h7 | h7
          · rw [if_pos h7, clC_kind h7]
            (repeat (first | refine XK.n ?_ | refine XK.a ?_ | refine XK.b ?_)); refine XK.drawn hm ?_; refine XD.goA hT rfl rfl rfl rfl ?_
            refine XD.callMA [2, 3, 4, 5] hE rfl rfl rfl rfl trivial (expire_ok k hk (w2.upM i (lessM mm)) i hi) rfl rfl rfl rfl rfl ?_
            refine XD.goA hT rfl rfl rfl rfl ?_; refine XD.fin (by kernel_rfl) ?_; (repeat (first | refine XK.n ?_ | refine XK.a ?_ | refine XK.b ?_))
            rw [upM_same, upM_upM]
            (first | refine XK.outY [0, 1, 2, 3, 4, 5, 6, 7] hN rfl rfl rfl ?_ ?_ ?_ | refine XK.outYN [0, 1, 2, 3, 4, 5, 6, 7] hN rfl rfl rfl ?_ ?_ ?_)
            · exact frI
            · rfl
            · rfl
          · rw [if_neg (by omega), if_pos h7, clC_kind h7]
            (repeat (first | refine XK.n ?_ | refine XK.a ?_ | refine XK.b ?_)); refine XK.drawn hm ?_; refine XD.goA hT rfl rfl rfl rfl ?_
            refine XD.callMA [2, 3, 4, 5] hE rfl rfl rfl rfl trivial (done_ok k (w2.upM i (lessM mm)) i hi) rfl rfl rfl rfl rfl ?_
            refine XD.goA hT rfl rfl rfl rfl ?_; refine XD.fin (by kernel_rfl) ?_; (repeat (first | refine XK.n ?_ | refine XK.a ?_ | refine XK.b ?_))
            rw [upM_same, upM_upM]
            (first | refine XK.outY [0, 1, 2, 3, 4, 5, 6, 7] hN rfl rfl rfl ?_ ?_ ?_ | refine XK.outYN [0, 1, 2, 3, 4, 5, 6, 7] hN rfl rfl rfl ?_ ?_ ?_)
            · exact frI
            · rfl
            · rfl
          · rw [if_neg (by omega), if_neg (by omega), clC_kind h7]
            (repeat (first | refine XK.n ?_ | refine XK.a ?_ | refine XK.b ?_)); refine XK.drawn hm ?_; refine XD.goA hT rfl rfl rfl rfl ?_
            refine XD.callMA [2, 3, 4, 5] hE rfl rfl rfl rfl trivial (lapse_ok k (w2.upM i (lessM mm)) i hi) rfl rfl rfl rfl rfl ?_
            refine XD.goA hT rfl rfl rfl rfl ?_; refine XD.fin (by kernel_rfl) ?_; (repeat (first | refine XK.n ?_ | refine XK.a ?_ | refine XK.b ?_))
            rw [upM_same, upM_upM]
            (first | refine XK.outY [0, 1, 2, 3, 4, 5, 6, 7] hN rfl rfl rfl ?_ ?_ ?_ | refine XK.outYN [0, 1, 2, 3, 4, 5, 6, 7] hN rfl rfl rfl ?_ ?_ ?_)
            · exact frI
            · rfl
            · rfl
          · rw [if_neg (by omega), if_neg (by omega), clC_kind h7]
            (repeat (first | refine XK.n ?_ | refine XK.a ?_ | refine XK.b ?_)); refine XK.drawn hm ?_; refine XD.goA hT rfl rfl rfl rfl ?_
            refine XD.callMA [2, 3, 4, 5] hE rfl rfl rfl rfl trivial (lapse_ok k (w2.upM i (lessM mm)) i hi) rfl rfl rfl rfl rfl ?_
            refine XD.goA hT rfl rfl rfl rfl ?_; refine XD.fin (by kernel_rfl) ?_; (repeat (first | refine XK.n ?_ | refine XK.a ?_ | refine XK.b ?_))
            rw [upM_same, upM_upM]
            (first | refine XK.outY [0, 1, 2, 3, 4, 5, 6, 7] hN rfl rfl rfl ?_ ?_ ?_ | refine XK.outYN [0, 1, 2, 3, 4, 5, 6, 7] hN rfl rfl rfl ?_ ?_ ?_)
            · exact frI
            · rfl
            · rfl
        · have h6 : ¬ mm.left - 1 = 0 := h6
          rw [if_neg h6]
          (repeat (first | refine XK.n ?_ | refine XK.a ?_ | refine XK.b ?_))
          (first | refine XK.outY [0, 1, 2, 3, 4, 5, 6, 7] hN rfl rfl rfl ?_ ?_ ?_ | refine XK.outYN [0, 1, 2, 3, 4, 5, 6, 7] hN rfl rfl rfl ?_ ?_ ?_)
          · exact frI
          · rfl
          · rfl
  · have hd2 : 0 ≤ (mapRun (tickM k free) w k.clauses.length).day ∧ (mapRun (tickM k free) w k.clauses.length).day ≤ 100000 := hd
    have hd3 : (mapRun (tickM k free) w k.clauses.length).day = w.day := rfl
    rw [← hd3]
    generalize mapRun (tickM k free) w k.clauses.length = w2 at *
    (repeat (first | refine XK.n ?_ | refine XK.a ?_ | refine XK.b ?_))
    refine XK.weak (Weak.of (L := [(1, .ptr 101 0)]) (O := (101, .cells 101 [.ptr 0 0]) :: wN k { w2 with day := w2.day + 1 }) (nx := 4000) (nt := 89) (md := fun _ => false) hN rfl rfl rfl frI frI) ?_
    (repeat (first | refine XK.n ?_ | refine XK.a ?_ | refine XK.b ?_)); refine XK.region ?_; refine XL.g ?_
    refine XL.callMA [0, 1, 2, 3] hE rfl rfl rfl rfl trivial (wstart_ok k hk { w2 with day := w2.day + 1 }) rfl rfl rfl rfl rfl ?_
    refine XL.g ?_; refine XL.fin ?_; (repeat (first | refine XK.n ?_ | refine XK.a ?_ | refine XK.b ?_))
    (first | refine XK.outR [0, 1, 2, 3] hN rfl rfl rfl ?_ rfl rfl ?_ | refine XK.outRN [0, 1, 2, 3] hN rfl rfl rfl ?_ rfl rfl ?_)
    · exact frI
    · exact frI
end
end Go.Proofs.YtlcfoelfcnhenaaGreatDoor
