import Derived.Test.YtbheoblmfjjaaaaS2
section
/- Contracts: package system: the small changes of a state. -/
namespace Go.Proofs.Ytbheoblmfjjaaaa
open Go.Eng
set_option maxRecDepth 10000
set_option linter.unusedSimpArgs false
set_option linter.unusedVariables false
/-- A state that is being changed, with its rows h, u, m. -/
def wO (k : K) (w : Wk) (h u m : Nat) : Ob := .cells 111 [.c (.int .i64 k.parties), intsV k.holders, unitsV k.units, actsV k.acts, clsV k.clauses, .c (.int .i64 k.days), intsV k.off,
  .c (.int .i64 w.day), .vec h 0, .vec u 0, .vec m 0]
def wOs (k : K) (w : Wk) : List Ob := [wO k w 1 2 3, wHold k w, wUsed k w, wMark k w]
def wN (k : K) (w : Wk) : List (Nat × Ob) := [(0, wO k w 1 2 3), (1, wHold k w), (2, wUsed k w), (3, wMark k w)]
theorem wend_ok (k : K) (w : Wk) (i : Nat) (s : Int) (hi : i < k.clauses.length) : DoesM Try.prog 107 [.ptr 0 0, .c (.int .i64 i), .c (.int .i64 s)] (wOs k w) (.tup []) (wOs k (w.upM i (endM (w.mark i) s))) := by
  refine DoesM.mk (fun _ => false) 100 TT_ok Try.func107 rfl (by kernel_rfl) Try.ntmps107 rfl rfl rfl fun E hT hE hN hR => ?_
  have hm : E.P.follows .mixedOrders = true := by rw [hE]; kernel_rfl
  (repeat (first | refine XK.norm rfl rfl ?_ | refine XK.rgnA hT rfl rfl rfl ?_ | refine XK.rgnB hT hm rfl rfl rfl ?_))
  (first | refine XK.outR [0, 1, 2, 3] hN rfl rfl rfl ?_ rfl rfl ?_ | refine XK.outRN [0, 1, 2, 3] hN rfl rfl rfl ?_ rfl rfl ?_)
  · (repeat' (first | exact rfl | exact AvIs.refl _ | exact trivial | exact fun _ _ => rfl | exact fun _ _ => ⟨rfl, AvIs.refl _⟩ | exact fun _ hi => absurd hi (Nat.not_lt_zero _) | (intro i hi; cases Nat.lt_one_iff.1 hi; rfl) | (intro j hj; by_cases hji : j = (i); (· subst hji; simp [setRowF, setL, mkC, Wk.upM, endM]; done); (· simp [setRowF, beq_false hji, Wk.upM, endM, hji, lt_succ_ne hji]; done)) | refine ⟨?_, ?_⟩))
  · (repeat' (first | exact rfl | exact AvIs.refl _ | exact trivial | exact fun _ _ => rfl | exact fun _ _ => ⟨rfl, AvIs.refl _⟩ | refine ⟨?_, ?_⟩))
theorem done_ok (k : K) (w : Wk) (i : Nat) (hi : i < k.clauses.length) : DoesM Try.prog 86 [.ptr 0 0, .c (.int .i64 i)] (wOs k w) (.tup []) (wOs k (w.upM i (endM (w.mark i) 3))) := by
  refine DoesM.mk (fun _ => false) 100 TT_ok Try.func86 rfl (by kernel_rfl) Try.ntmps86 rfl rfl rfl fun E hT hE hN hR => ?_
  have hm : E.P.follows .mixedOrders = true := by rw [hE]; kernel_rfl
  (repeat (first | refine XK.norm rfl rfl ?_ | refine XK.rgnA hT rfl rfl rfl ?_ | refine XK.rgnB hT hm rfl rfl rfl ?_)); refine XK.region ?_; refine XL.goA hT rfl rfl rfl rfl ?_
  refine XL.callMA [0, 1, 2, 3] hE rfl rfl rfl rfl trivial (wend_ok k w i 3 hi) rfl rfl rfl rfl rfl ?_
  refine XL.goA hT rfl rfl rfl rfl ?_; refine XL.fin ?_; (repeat (first | refine XK.norm rfl rfl ?_ | refine XK.rgnA hT rfl rfl rfl ?_ | refine XK.rgnB hT hm rfl rfl rfl ?_))
  (first | refine XK.outR [0, 1, 2, 3] hN rfl rfl rfl ?_ rfl rfl ?_ | refine XK.outRN [0, 1, 2, 3] hN rfl rfl rfl ?_ rfl rfl ?_)
  · (repeat' (first | exact rfl | exact AvIs.refl _ | exact trivial | exact fun _ _ => rfl | exact fun _ _ => ⟨rfl, AvIs.refl _⟩ | refine ⟨?_, ?_⟩))
  · (repeat' (first | exact rfl | exact AvIs.refl _ | exact trivial | exact fun _ _ => rfl | exact fun _ _ => ⟨rfl, AvIs.refl _⟩ | refine ⟨?_, ?_⟩))
theorem lapse_ok (k : K) (w : Wk) (i : Nat) (hi : i < k.clauses.length) : DoesM Try.prog 87 [.ptr 0 0, .c (.int .i64 i)] (wOs k w) (.tup []) (wOs k (w.upM i (endM (w.mark i) 5))) := by
  refine DoesM.mk (fun _ => false) 100 TT_ok Try.func87 rfl (by kernel_rfl) Try.ntmps87 rfl rfl rfl fun E hT hE hN hR => ?_
  have hm : E.P.follows .mixedOrders = true := by rw [hE]; kernel_rfl
  (repeat (first | refine XK.norm rfl rfl ?_ | refine XK.rgnA hT rfl rfl rfl ?_ | refine XK.rgnB hT hm rfl rfl rfl ?_)); refine XK.region ?_; refine XL.goA hT rfl rfl rfl rfl ?_
  refine XL.callMA [0, 1, 2, 3] hE rfl rfl rfl rfl trivial (wend_ok k w i 5 hi) rfl rfl rfl rfl rfl ?_
  refine XL.goA hT rfl rfl rfl rfl ?_; refine XL.fin ?_; (repeat (first | refine XK.norm rfl rfl ?_ | refine XK.rgnA hT rfl rfl rfl ?_ | refine XK.rgnB hT hm rfl rfl rfl ?_))
  (first | refine XK.outR [0, 1, 2, 3] hN rfl rfl rfl ?_ rfl rfl ?_ | refine XK.outRN [0, 1, 2, 3] hN rfl rfl rfl ?_ rfl rfl ?_)
  · (repeat' (first | exact rfl | exact AvIs.refl _ | exact trivial | exact fun _ _ => rfl | exact fun _ _ => ⟨rfl, AvIs.refl _⟩ | refine ⟨?_, ?_⟩))
  · (repeat' (first | exact rfl | exact AvIs.refl _ | exact trivial | exact fun _ _ => rfl | exact fun _ _ => ⟨rfl, AvIs.refl _⟩ | refine ⟨?_, ?_⟩))
theorem upM_same (w : Wk) (i : Nat) (m : Mk) : (w.upM i m).mark i = m := by simp [Wk.upM]
theorem upM_upM (w : Wk) (i : Nat) (m m' : Mk) : (w.upM i m).upM i m' = w.upM i m' := by
  unfold Wk.upM
  congr 1
  funext j
  by_cases h : j = i <;> simp [h]
theorem upM_self (w : Wk) (i : Nat) : w.upM i (w.mark i) = w := by
  unfold Wk.upM
  have : (fun j => if j = i then w.mark i else w.mark j) = w.mark := by
    funext j
    by_cases h : j = i
    · subst h; simp
    · simp [h]
  rw [this]
theorem violate_ok (k : K) (w : Wk) (i : Nat) (hi : i < k.clauses.length) : DoesM Try.prog 91 [.ptr 0 0, .c (.int .i64 i)] (wOs k w) (.tup []) (wOs k (w.upM i (violM (w.mark i)))) := by
  refine DoesM.mk (fun _ => false) 100 TT_ok Try.func91 rfl (by kernel_rfl) Try.ntmps91 rfl rfl rfl fun E hT hE hN hR => ?_
  have hm : E.P.follows .mixedOrders = true := by rw [hE]; kernel_rfl
  have fm : w.mark (i : Int).toNat = w.mark i := rfl
  unfold violM
  (repeat (first | refine XK.norm rfl rfl ?_ | refine XK.rgnA hT rfl rfl rfl ?_ | refine XK.rgnB hT hm rfl rfl rfl ?_)); refine XK.cond rfl (fun h => ?_) (fun h => ?_) <;> (try simp at h)
  · rw [if_neg (show ¬ (w.mark i).paused = true by rw [show (w.mark i).paused = false from h]; simp)]
    (repeat (first | refine XK.norm rfl rfl ?_ | refine XK.rgnA hT rfl rfl rfl ?_ | refine XK.rgnB hT hm rfl rfl rfl ?_))
    (repeat (first | refine XK.norm rfl rfl ?_ | refine XK.rgnA hT rfl rfl rfl ?_ | refine XK.rgnB hT hm rfl rfl rfl ?_)); refine XK.region ?_; refine XL.goA hT rfl rfl rfl rfl ?_
    refine XL.callMA [0, 1, 2, 3] hE rfl rfl rfl rfl trivial (wend_ok k w i 4 hi) rfl rfl rfl rfl rfl ?_
    refine XL.goA hT rfl rfl rfl rfl ?_; refine XL.fin ?_; (repeat (first | refine XK.norm rfl rfl ?_ | refine XK.rgnA hT rfl rfl rfl ?_ | refine XK.rgnB hT hm rfl rfl rfl ?_))
    (first | refine XK.outR [0, 1, 2, 3] hN rfl rfl rfl ?_ rfl rfl ?_ | refine XK.outRN [0, 1, 2, 3] hN rfl rfl rfl ?_ rfl rfl ?_)
    · (repeat' (first | exact rfl | exact AvIs.refl _ | exact trivial | exact fun _ _ => rfl | exact fun _ _ => ⟨rfl, AvIs.refl _⟩ | refine ⟨?_, ?_⟩))
    · (repeat' (first | exact rfl | exact AvIs.refl _ | exact trivial | exact fun _ _ => rfl | exact fun _ _ => ⟨rfl, AvIs.refl _⟩ | refine ⟨?_, ?_⟩))
  · rw [if_pos (show (w.mark i).paused = true from h), upM_self]
    (repeat (first | refine XK.norm rfl rfl ?_ | refine XK.rgnA hT rfl rfl rfl ?_ | refine XK.rgnB hT hm rfl rfl rfl ?_))
    (first | refine XK.outR [0, 1, 2, 3] hN rfl rfl rfl ?_ rfl rfl ?_ | refine XK.outRN [0, 1, 2, 3] hN rfl rfl rfl ?_ rfl rfl ?_)
    · (repeat' (first | exact rfl | exact AvIs.refl _ | exact trivial | exact fun _ _ => rfl | exact fun _ _ => ⟨rfl, AvIs.refl _⟩ | refine ⟨?_, ?_⟩))
    · (repeat' (first | exact rfl | exact AvIs.refl _ | exact trivial | exact fun _ _ => rfl | exact fun _ _ => ⟨rfl, AvIs.refl _⟩ | refine ⟨?_, ?_⟩))
theorem perform_ok (k : K) (hk : KFacts k) (w : Wk) (i : Nat) (hi : i < k.clauses.length) (hg : 0 ≤ (w.mark i).got ∧ (w.mark i).got ≤ 1000) : DoesM Try.prog 90 [.ptr 0 0, .c (.int .i64 i)] (wOs k w) (.tup []) (wOs k (w.upM i (performM (clAt k i) (w.mark i)))) := by
  refine DoesM.mk (fun _ => false) 100 TT_ok Try.func90 rfl (by kernel_rfl) Try.ntmps90 rfl rfl rfl fun E hT hE hN hR => ?_
  have hm : E.P.follows .mixedOrders = true := by rw [hE]; kernel_rfl
  have fm : w.mark (i : Int).toNat = w.mark i := rfl
  have fc : k.clauses.getD (i : Int).toNat default = clAt k i := rfl
  have f2 : (w.upM i (moreM (w.mark i))).mark (i : Int).toNat = moreM (w.mark i) := upM_same w i _
  unfold performM
  (repeat (first | refine XK.norm rfl rfl ?_ | refine XK.rgnA hT rfl rfl rfl ?_ | refine XK.rgnB hT hm rfl rfl rfl ?_))
  refine XK.weak (Weak.of (L := [(0, .ptr 0 0), (1, .c (.int .i64 i))]) (O := wN k (w.upM i (moreM (w.mark i)))) (nx := 1000) (nt := 38) (md := fun _ => false) hN rfl rfl rfl (by (repeat' (first | exact rfl | exact AvIs.refl _ | exact trivial | exact fun _ _ => rfl | exact fun _ _ => ⟨rfl, AvIs.refl _⟩ | refine ⟨?_, ?_⟩))) (by (repeat' (first | exact rfl | exact AvIs.refl _ | exact trivial | exact fun _ _ => rfl | exact fun _ _ => ⟨rfl, AvIs.refl _⟩ | exact fun _ hi => absurd hi (Nat.not_lt_zero _) | (intro i hi; cases Nat.lt_one_iff.1 hi; rfl) | (intro j hj; by_cases hji : j = (i); (· subst hji; simp [setRowF, setL, mkC, Wk.upM, moreM]; done); (· simp [setRowF, beq_false hji, Wk.upM, moreM, hji, lt_succ_ne hji]; done)) | refine ⟨?_, ?_⟩)))) ?_
  (repeat (first | refine XK.norm rfl rfl ?_ | refine XK.rgnA hT rfl rfl rfl ?_ | refine XK.rgnB hT hm rfl rfl rfl ?_))
  rw [f2, fc]
  (repeat (first | refine XK.norm rfl rfl ?_ | refine XK.rgnA hT rfl rfl rfl ?_ | refine XK.rgnB hT hm rfl rfl rfl ?_)); refine XK.cond rfl (fun h => ?_) (fun h => ?_) <;> (try simp at h)
  · have h : (w.mark i).got + 1 = (clAt k i).need := h
    rw [if_pos h]
    (repeat (first | refine XK.norm rfl rfl ?_ | refine XK.rgnA hT rfl rfl rfl ?_ | refine XK.rgnB hT hm rfl rfl rfl ?_))
    (repeat (first | refine XK.norm rfl rfl ?_ | refine XK.rgnA hT rfl rfl rfl ?_ | refine XK.rgnB hT hm rfl rfl rfl ?_)); refine XK.region ?_; refine XL.goA hT rfl rfl rfl rfl ?_
    refine XL.callMA [0, 1, 2, 3] hE rfl rfl rfl rfl trivial (wend_ok k (w.upM i (moreM (w.mark i))) i 3 hi) rfl rfl rfl rfl rfl ?_
    refine XL.goA hT rfl rfl rfl rfl ?_; refine XL.fin ?_; (repeat (first | refine XK.norm rfl rfl ?_ | refine XK.rgnA hT rfl rfl rfl ?_ | refine XK.rgnB hT hm rfl rfl rfl ?_))
    rw [upM_same, upM_upM]
    (first | refine XK.outR [0, 1, 2, 3] hN rfl rfl rfl ?_ rfl rfl ?_ | refine XK.outRN [0, 1, 2, 3] hN rfl rfl rfl ?_ rfl rfl ?_)
    · (repeat' (first | exact rfl | exact AvIs.refl _ | exact trivial | exact fun _ _ => rfl | exact fun _ _ => ⟨rfl, AvIs.refl _⟩ | refine ⟨?_, ?_⟩))
    · (repeat' (first | exact rfl | exact AvIs.refl _ | exact trivial | exact fun _ _ => rfl | exact fun _ _ => ⟨rfl, AvIs.refl _⟩ | refine ⟨?_, ?_⟩))
  · have h : ¬ (w.mark i).got + 1 = (clAt k i).need := h
    rw [if_neg h]
    (repeat (first | refine XK.norm rfl rfl ?_ | refine XK.rgnA hT rfl rfl rfl ?_ | refine XK.rgnB hT hm rfl rfl rfl ?_))
    (first | refine XK.outR [0, 1, 2, 3] hN rfl rfl rfl ?_ rfl rfl ?_ | refine XK.outRN [0, 1, 2, 3] hN rfl rfl rfl ?_ rfl rfl ?_)
    · (repeat' (first | exact rfl | exact AvIs.refl _ | exact trivial | exact fun _ _ => rfl | exact fun _ _ => ⟨rfl, AvIs.refl _⟩ | refine ⟨?_, ?_⟩))
    · (repeat' (first | exact rfl | exact AvIs.refl _ | exact trivial | exact fun _ _ => rfl | exact fun _ _ => ⟨rfl, AvIs.refl _⟩ | refine ⟨?_, ?_⟩))
theorem expire_ok (k : K) (hk : KFacts k) (w : Wk) (i : Nat) (hi : i < k.clauses.length) : DoesM Try.prog 85 [.ptr 0 0, .c (.int .i64 i)] (wOs k w) (.tup []) (wOs k (w.upM i (expM (clAt k i) (w.mark i)))) := by
  refine DoesM.mk (fun _ => false) 100 TT_ok Try.func85 rfl (by kernel_rfl) Try.ntmps85 rfl rfl rfl fun E hT hE hN hR => ?_
  have hm : E.P.follows .mixedOrders = true := by rw [hE]; kernel_rfl
  have fm : w.mark (i : Int).toNat = w.mark i := rfl
  have fc : k.clauses.getD (i : Int).toNat default = clAt k i := rfl
  unfold expM
  (repeat (first | refine XK.norm rfl rfl ?_ | refine XK.rgnA hT rfl rfl rfl ?_ | refine XK.rgnB hT hm rfl rfl rfl ?_))
  rw [fm, fc]
  (repeat (first | refine XK.norm rfl rfl ?_ | refine XK.rgnA hT rfl rfl rfl ?_ | refine XK.rgnB hT hm rfl rfl rfl ?_)); refine XK.cond rfl (fun h => ?_) (fun h => ?_) <;> (try simp at h)
  · rw [if_pos h]
    (repeat (first | refine XK.norm rfl rfl ?_ | refine XK.rgnA hT rfl rfl rfl ?_ | refine XK.rgnB hT hm rfl rfl rfl ?_))
    (first | refine XK.outR [0, 1, 2, 3] hN rfl rfl rfl ?_ rfl rfl ?_ | refine XK.outRN [0, 1, 2, 3] hN rfl rfl rfl ?_ rfl rfl ?_)
    · (repeat' (first | exact rfl | exact AvIs.refl _ | exact trivial | exact fun _ _ => rfl | exact fun _ _ => ⟨rfl, AvIs.refl _⟩ | exact fun _ hi => absurd hi (Nat.not_lt_zero _) | (intro i hi; cases Nat.lt_one_iff.1 hi; rfl) | (intro j hj; by_cases hji : j = (i); (· subst hji; simp [setRowF, setL, mkC, Wk.upM, clAt]; done); (· simp [setRowF, beq_false hji, Wk.upM, clAt, hji, lt_succ_ne hji]; done)) | refine ⟨?_, ?_⟩))
    · (repeat' (first | exact rfl | exact AvIs.refl _ | exact trivial | exact fun _ _ => rfl | exact fun _ _ => ⟨rfl, AvIs.refl _⟩ | refine ⟨?_, ?_⟩))
  · rw [if_neg (by simpa using h)]
    (repeat (first | refine XK.norm rfl rfl ?_ | refine XK.rgnA hT rfl rfl rfl ?_ | refine XK.rgnB hT hm rfl rfl rfl ?_))
    (repeat (first | refine XK.norm rfl rfl ?_ | refine XK.rgnA hT rfl rfl rfl ?_ | refine XK.rgnB hT hm rfl rfl rfl ?_)); refine XK.region ?_; refine XL.goA hT rfl rfl rfl rfl ?_
    refine XL.callMA [0, 1, 2, 3] hE rfl rfl rfl rfl trivial (wend_ok k w i 4 hi) rfl rfl rfl rfl rfl ?_
    refine XL.goA hT rfl rfl rfl rfl ?_; refine XL.fin ?_; (repeat (first | refine XK.norm rfl rfl ?_ | refine XK.rgnA hT rfl rfl rfl ?_ | refine XK.rgnB hT hm rfl rfl rfl ?_))
    (first | refine XK.outR [0, 1, 2, 3] hN rfl rfl rfl ?_ rfl rfl ?_ | refine XK.outRN [0, 1, 2, 3] hN rfl rfl rfl ?_ rfl rfl ?_)
    · (repeat' (first | exact rfl | exact AvIs.refl _ | exact trivial | exact fun _ _ => rfl | exact fun _ _ => ⟨rfl, AvIs.refl _⟩ | refine ⟨?_, ?_⟩))
    · (repeat' (first | exact rfl | exact AvIs.refl _ | exact trivial | exact fun _ _ => rfl | exact fun _ _ => ⟨rfl, AvIs.refl _⟩ | refine ⟨?_, ?_⟩))
end Go.Proofs.Ytbheoblmfjjaaaa
end
section
/- Contracts: package system: start. -/
namespace Go.Proofs.Ytbheoblmfjjaaaa
open Go.Eng
set_option maxRecDepth 10000
set_option linter.unusedSimpArgs false
set_option linter.unusedVariables false
theorem idle_le (k : K) (mk : Nat → Mk) : idleN k mk ≤ k.clauses.length := by
  unfold idleN
  have := List.countP_le_length (p := fun i => (mk i).status == 0) (l := List.range k.clauses.length)
  simpa using this
theorem pass_hold {k : K} {w : Wk} {n : Nat} (h : n ≤ k.clauses.length) : (passTo k w n).1.hold = w.hold := (pass_rel n h).hold
theorem wstart_ok (k : K) (hk : KFacts k) (w : Wk) : DoesM Try.prog 57 [.ptr 0 0] (wOs k w) (.tup []) (wOs k (startW k w)) := by
  refine DoesM.mk (fun _ => false) 100 TT_ok Try.func57 rfl (by kernel_rfl) Try.ntmps57 rfl rfl rfl fun E hT hE hN hR => ?_
  have hm : E.P.follows .mixedOrders = true := by rw [hE]; kernel_rfl
  have hnc := hk.nc
  (repeat (first | refine XK.norm rfl rfl ?_ | refine XK.rgnA hT rfl rfl rfl ?_ | refine XK.rgnB hT hm rfl rfl rfl ?_))
  refine XK.loop (ι := Nat × Wk × Bool) (fun q => ST.of [(0, .ptr 0 0), (2, .c (.bool q.2.2))] (wN k q.2.1) 1000 53 (fun _ => false))
    (fun q => (q.2.2 = true → startN k q.1 q.2.1 = startW k w ∧ idleN k q.2.1.mark < q.1) ∧ (q.2.2 = false → q.2.1 = startW k w)) (fun q => if q.2.2 = true then q.1 + 1 else 0) (idleN k w.mark + 1, w, true)
    ⟨fun _ => ⟨rfl, Nat.lt_succ_self _⟩, fun h => nomatch h⟩
    (Weak.of hN rfl rfl rfl (by (repeat' (first | exact rfl | exact AvIs.refl _ | exact trivial | exact fun _ _ => rfl | exact fun _ _ => ⟨rfl, AvIs.refl _⟩ | refine ⟨?_, ?_⟩))) (by (repeat' (first | exact rfl | exact AvIs.refl _ | exact trivial | exact fun _ _ => rfl | exact fun _ _ => ⟨rfl, AvIs.refl _⟩ | refine ⟨?_, ?_⟩)))) fun q hq => ?_
  obtain ⟨f, w1, b⟩ := q
  obtain ⟨g1, g2⟩ := hq
  dsimp only at g1 g2
  dsimp only
  (repeat (first | refine XK.norm rfl rfl ?_ | refine XK.rgnA hT rfl rfl rfl ?_ | refine XK.rgnB hT hm rfl rfl rfl ?_)); refine XK.cond rfl (fun hb => ?_) (fun hb => ?_)
  · have hb : b = true := hb
    subst hb
    obtain ⟨g1, g3⟩ := g1 rfl
    clear g2
    obtain ⟨f, rfl⟩ : ∃ f', f = f' + 1 := ⟨f - 1, by omega⟩
    (repeat (first | refine XK.norm rfl rfl ?_ | refine XK.rgnA hT rfl rfl rfl ?_ | refine XK.rgnB hT hm rfl rfl rfl ?_))
    refine XK.loop (ι := Nat) (fun i => ST.of [(0, .ptr 0 0), (2, .c (.bool (passTo k w1 i).2)), (11, clsV k.clauses), (12, .c (.int .i64 k.clauses.length)), (13, .c (.int .i64 i))] (wN k (passTo k w1 i).1) 2000 53 (fun _ => false))
      (fun i => i ≤ k.clauses.length) (fun i => k.clauses.length - i) 0 (Nat.zero_le _)
      (Weak.of hN rfl rfl rfl (by (repeat' (first | exact rfl | exact AvIs.refl _ | exact trivial | exact fun _ _ => rfl | exact fun _ _ => ⟨rfl, AvIs.refl _⟩ | refine ⟨?_, ?_⟩))) (by (repeat' (first | exact rfl | exact AvIs.refl _ | exact trivial | exact fun _ _ => rfl | exact fun _ _ => ⟨rfl, AvIs.refl _⟩ | refine ⟨?_, ?_⟩)))) fun i hi => ?_
    (repeat (first | refine XK.norm rfl rfl ?_ | refine XK.rgnA hT rfl rfl rfl ?_ | refine XK.rgnB hT hm rfl rfl rfl ?_)); refine XK.cond rfl (fun hlt => ?_) (fun hlt => ?_) <;> (try simp at hlt)
    · have fc : k.clauses.getD (i : Int).toNat default = clAt k i := rfl
      have hkf := kindW (hk.clB hlt).2.2.1
      have hp : passTo k w1 (i + 1) = if rdyB k (passTo k w1 i).1.mark i = true then ((passTo k w1 i).1.upM i (liveM k (passTo k w1 i).1.hold i), true) else passTo k w1 i := rfl
      generalize passTo k w1 i = p at *
      obtain ⟨w2, b2⟩ := p
      dsimp only at hp
      dsimp only
      (repeat (first | refine XK.norm rfl rfl ?_ | refine XK.rgnA hT rfl rfl rfl ?_ | refine XK.rgnB hT hm rfl rfl rfl ?_))
      have hr := readyM_ok k hk w2 i hlt
      have hrt := fun h => (rdyB_true (k := k) (mk := w2.mark) (i := i) h).1
      generalize hrb : rdyB k w2.mark i = rb at *
      refine XK.weak (Weak.of (L := [(0, .ptr 0 0), (2, .c (.bool b2)), (3, .c (.int .i64 i)), (4, .ptr 2057 0), (11, clsV k.clauses), (12, .c (.int .i64 k.clauses.length)), (13, .c (.int .i64 i))]) (O := (2057, .cells 71 (clC (clAt k i))) :: wN k w2) (nx := 3000) (nt := 53) (md := fun _ => false) hN rfl rfl rfl (by (repeat' (first | exact rfl | exact AvIs.refl _ | exact trivial | exact fun _ _ => rfl | exact fun _ _ => ⟨rfl, AvIs.refl _⟩ | refine ⟨?_, ?_⟩))) (by (repeat' (first | exact rfl | exact AvIs.refl _ | exact trivial | exact fun _ _ => rfl | exact fun _ _ => ⟨rfl, AvIs.refl _⟩ | refine ⟨?_, ?_⟩)))) ?_
      (repeat (first | refine XK.norm rfl rfl ?_ | refine XK.rgnA hT rfl rfl rfl ?_ | refine XK.rgnB hT hm rfl rfl rfl ?_)); refine XK.drawn hm ?_; refine XD.goA hT rfl rfl rfl rfl ?_
      refine XD.callMA [1, 2, 3] hE rfl rfl rfl rfl trivial (hr) rfl rfl rfl rfl rfl ?_
      refine XD.goA hT rfl rfl rfl rfl ?_; refine XD.fin (by kernel_rfl) ?_; (repeat (first | refine XK.norm rfl rfl ?_ | refine XK.rgnA hT rfl rfl rfl ?_ | refine XK.rgnB hT hm rfl rfl rfl ?_))
      (repeat (first | refine XK.norm rfl rfl ?_ | refine XK.rgnA hT rfl rfl rfl ?_ | refine XK.rgnB hT hm rfl rfl rfl ?_)); refine XK.cond rfl (fun h1 => ?_) (fun h1 => ?_)
      · have h1 : rb = false := by simpa using h1
        subst h1
        rw [if_neg (by simp)] at hp
        (repeat (first | refine XK.norm rfl rfl ?_ | refine XK.rgnA hT rfl rfl rfl ?_ | refine XK.rgnB hT hm rfl rfl rfl ?_))
        refine XK.inv ⟨i + 1, hlt, ?_, by omega⟩
        rw [hp]
        exact (Weak.of hN rfl rfl rfl (by (repeat' (first | exact rfl | exact AvIs.refl _ | exact trivial | exact fun _ _ => rfl | exact fun _ _ => ⟨rfl, AvIs.refl _⟩ | refine ⟨?_, ?_⟩))) (by (repeat' (first | exact rfl | exact AvIs.refl _ | exact trivial | exact fun _ _ => rfl | exact fun _ _ => ⟨rfl, AvIs.refl _⟩ | refine ⟨?_, ?_⟩))))
      · have h1 : rb = true := by simpa using h1
        subst h1
        rw [if_pos rfl] at hp
        have hb := hk.clB hlt
        (repeat (first | refine XK.norm rfl rfl ?_ | refine XK.rgnA hT rfl rfl rfl ?_ | refine XK.rgnB hT hm rfl rfl rfl ?_)); refine XK.join (ST.of [(0, .ptr 0 0), (2, .c (.bool b2)), (3, .c (.int .i64 i)), (4, .ptr 2057 0), (5, .c (.int .i64 (liveM k w2.hold i).bearer)), (11, clsV k.clauses), (12, .c (.int .i64 k.clauses.length)), (13, .c (.int .i64 i))] ((2057, .cells 71 (clC (clAt k i))) :: wN k w2) 4000 53 (fun _ => false)) rfl (fun h3 => ?_) (fun h3 => ?_) ?_
        · have h3 : (clAt k i).kind ≠ 4 := by simpa using h3
          have hro : 0 ≤ (clAt k i).role ∧ (clAt k i).role < k.holders.length := by
            rcases hkf with h | h
            · exact absurd h.1 h3
            · exact h.1
          have e : (liveM k w2.hold i).bearer = w2.hold (clAt k i).role.toNat := by simp [liveM, h3]
          rw [e]
          (repeat (first | refine XK.norm rfl rfl ?_ | refine XK.rgnA hT rfl rfl rfl ?_ | refine XK.rgnB hT hm rfl rfl rfl ?_))
          exact XK.inv (Weak.of hN rfl rfl rfl (by (repeat' (first | exact rfl | exact AvIs.refl _ | exact trivial | exact fun _ _ => rfl | exact fun _ _ => ⟨rfl, AvIs.refl _⟩ | refine ⟨?_, ?_⟩))) (by (repeat' (first | exact rfl | exact AvIs.refl _ | exact trivial | exact fun _ _ => rfl | exact fun _ _ => ⟨rfl, AvIs.refl _⟩ | refine ⟨?_, ?_⟩))))
        · have h3 : (clAt k i).kind = 4 := by simpa using h3
          have e : (liveM k w2.hold i).bearer = -1 := by simp [liveM, h3]
          rw [e]
          (repeat (first | refine XK.norm rfl rfl ?_ | refine XK.rgnA hT rfl rfl rfl ?_ | refine XK.rgnB hT hm rfl rfl rfl ?_))
          exact XK.inv (Weak.of hN rfl rfl rfl (by (repeat' (first | exact rfl | exact AvIs.refl _ | exact trivial | exact fun _ _ => rfl | exact fun _ _ => ⟨rfl, AvIs.refl _⟩ | refine ⟨?_, ?_⟩))) (by (repeat' (first | exact rfl | exact AvIs.refl _ | exact trivial | exact fun _ _ => rfl | exact fun _ _ => ⟨rfl, AvIs.refl _⟩ | refine ⟨?_, ?_⟩))))
        (repeat (first | refine XK.norm rfl rfl ?_ | refine XK.rgnA hT rfl rfl rfl ?_ | refine XK.rgnB hT hm rfl rfl rfl ?_))
        refine XK.inv ⟨i + 1, hlt, ?_, by omega⟩
        rw [hp]
        exact (Weak.of hN rfl rfl rfl (by (repeat' (first | exact rfl | exact AvIs.refl _ | exact trivial | exact fun _ _ => rfl | exact fun _ _ => ⟨rfl, AvIs.refl _⟩ | refine ⟨?_, ?_⟩))) (by (repeat' (first | exact rfl | exact AvIs.refl _ | exact trivial | exact fun _ _ => rfl | exact fun _ _ => ⟨rfl, AvIs.refl _⟩ | exact fun _ hi => absurd hi (Nat.not_lt_zero _) | (intro i hi; cases Nat.lt_one_iff.1 hi; rfl) | (intro j hj; by_cases hji : j = (i); (· subst hji; simp [setRowF, setL, mkC, Wk.upM, liveM]; done); (· simp [setRowF, beq_false hji, Wk.upM, liveM, hji, lt_succ_ne hji]; done)) | refine ⟨?_, ?_⟩))))
    · have hie : i = k.clauses.length := by omega
      subst hie
      have hl := fun h => pass_less (k := k) (w := w1) k.clauses.length (Nat.le_refl _) h
      have hn := fun h => pass_none (k := k) (w := w1) k.clauses.length h
      rw [startN] at g1
      generalize passTo k w1 k.clauses.length = p at *
      obtain ⟨w2, b2⟩ := p
      dsimp only at hl hn g1
      dsimp only
      (repeat (first | refine XK.norm rfl rfl ?_ | refine XK.rgnA hT rfl rfl rfl ?_ | refine XK.rgnB hT hm rfl rfl rfl ?_))
      refine XK.inv ⟨(f, w2, b2), ⟨fun h => ?_, fun h => ?_⟩, (Weak.of hN rfl rfl rfl (by (repeat' (first | exact rfl | exact AvIs.refl _ | exact trivial | exact fun _ _ => rfl | exact fun _ _ => ⟨rfl, AvIs.refl _⟩ | refine ⟨?_, ?_⟩))) (by (repeat' (first | exact rfl | exact AvIs.refl _ | exact trivial | exact fun _ _ => rfl | exact fun _ _ => ⟨rfl, AvIs.refl _⟩ | refine ⟨?_, ?_⟩)))), ?_⟩
      · have h : b2 = true := h
        rw [if_pos h] at g1
        have := hl h
        exact ⟨g1, by show idleN k w2.mark < f; omega⟩
      · have h : b2 = false := h
        rw [if_neg (by rw [h]; simp)] at g1
        have := congrArg Prod.fst (hn h).1
        show w2 = _
        rw [← g1]
        exact this
      · dsimp only
        cases b2 <;> simp
  · have hb : b = false := hb
    subst hb
    have g2 := g2 rfl
    subst g2
    (repeat (first | refine XK.norm rfl rfl ?_ | refine XK.rgnA hT rfl rfl rfl ?_ | refine XK.rgnB hT hm rfl rfl rfl ?_))
    (first | refine XK.outR [0, 1, 2, 3] hN rfl rfl rfl ?_ rfl rfl ?_ | refine XK.outRN [0, 1, 2, 3] hN rfl rfl rfl ?_ rfl rfl ?_)
    · (repeat' (first | exact rfl | exact AvIs.refl _ | exact trivial | exact fun _ _ => rfl | exact fun _ _ => ⟨rfl, AvIs.refl _⟩ | refine ⟨?_, ?_⟩))
    · (repeat' (first | exact rfl | exact AvIs.refl _ | exact trivial | exact fun _ _ => rfl | exact fun _ _ => ⟨rfl, AvIs.refl _⟩ | refine ⟨?_, ?_⟩))
end Go.Proofs.Ytbheoblmfjjaaaa
end
section
/- Contracts: package system: the clauses that run, one after the other. -/
namespace Go.Proofs.Ytbheoblmfjjaaaa
open Go.Eng
set_option maxRecDepth 10000
set_option linter.unusedSimpArgs false
set_option linter.unusedVariables false
theorem wrunning_ok (k : K) (w : Wk) : DoesM Try.prog 89 [.ptr 0 0] (wOs k w) (.fn (.func 110) [] [.ptr 4 0]) (wOs k w ++ [.cells 108 [.ptr 0 0]]) := by
  refine DoesM.mk (fun _ => false) 100 TT_ok Try.func89 rfl (by kernel_rfl) Try.ntmps89 rfl rfl rfl fun E hT hE hN hR => ?_
  have hm : E.P.follows .mixedOrders = true := by rw [hE]; kernel_rfl
  (repeat (first | refine XK.norm rfl rfl ?_ | refine XK.rgnA hT rfl rfl rfl ?_ | refine XK.rgnB hT hm rfl rfl rfl ?_))
  (first | refine XK.outR [0, 1, 2, 3, 101] hN rfl rfl rfl ?_ rfl rfl ?_ | refine XK.outRN [0, 1, 2, 3, 101] hN rfl rfl rfl ?_ rfl rfl ?_)
  · (repeat' (first | exact rfl | exact AvIs.refl _ | exact trivial | exact fun _ _ => rfl | exact fun _ _ => ⟨rfl, AvIs.refl _⟩ | refine ⟨?_, ?_⟩))
  · (repeat' (first | exact rfl | exact AvIs.refl _ | exact trivial | exact fun _ _ => rfl | exact fun _ _ => ⟨rfl, AvIs.refl _⟩ | refine ⟨?_, ?_⟩))
def csS (k : K) (a : Nat) : List AV := frL 66 [(2, .ptr 6 0), (4, .rptr (actC (acAt k a)))]
def itS (k : K) (a : Nat) (w : Wk) : List Ob := [.cells 108 [.ptr 2 0], wO k w 3 4 5, wHold k w, wUsed k w, wMark k w, .cells 108 [.ptr 2 0]]
def itNS (k : K) (a : Nat) (w : Wk) : List (Nat × Ob) := [(1, .cells 108 [.ptr 2 0]), (2, wO k w 3 4 5), (3, wHold k w), (4, wUsed k w), (5, wMark k w), (6, .cells 108 [.ptr 2 0])]
theorem runItS_ok (k : K) (a : Nat) (hk : KFacts k) (w : Wk) (f : Nat → Mk → Mk) (L b : Nat) (rc : Array Value → Obj)
    (hY : ∀ i, i < k.clauses.length → runsM (w.mark i) = true → DoesR Try.prog L [.c (.int .i64 i)] (.lrec rc b (csS k a) :: itS k a (mapRun f w i)) (.c (.bool true)) (.lrec rc b (csS k a) :: itS k a (mapRun f w (i + 1)))) :
    DoesM Try.prog 110 [.fn (.yield L) [] [], .ptr 1 0] (.lrec rc b (csS k a) :: itS k a w) (.tup []) (.lrec rc b (csS k a) :: itS k a (mapRun f w k.clauses.length)) := by
  refine DoesM.mk (fun _ => false) 100 TT_ok Try.func110 rfl (by kernel_rfl) Try.ntmps110 rfl rfl rfl fun E hT hE hN hR => ?_
  have hm : E.P.follows .mixedOrders = true := by rw [hE]; kernel_rfl
  have hnc := hk.nc
  (repeat (first | refine XK.norm rfl rfl ?_ | refine XK.rgnA hT rfl rfl rfl ?_ | refine XK.rgnB hT hm rfl rfl rfl ?_))
  refine XK.loop (ι := Nat) (fun i => ST.of [(0, .fn (.yield L) [] []), (1, .ptr 1 0), (9, .c (.int .i64 k.clauses.length)), (10, .c (.int .i64 i))] ((0, .lrec rc b (csS k a)) :: itNS k a (mapRun f w i)) 1000 29 (fun _ => false))
    (fun i => i ≤ k.clauses.length) (fun i => k.clauses.length - i) 0 (Nat.zero_le _)
    (Weak.of hN rfl rfl rfl (by (repeat' (first | exact rfl | exact AvIs.refl _ | exact trivial | exact fun _ _ => rfl | exact fun _ _ => ⟨rfl, AvIs.refl _⟩ | refine ⟨?_, ?_⟩))) (by simp only [mapRun_zero]; (repeat' (first | exact rfl | exact AvIs.refl _ | exact trivial | exact fun _ _ => rfl | exact fun _ _ => ⟨rfl, AvIs.refl _⟩ | refine ⟨?_, ?_⟩)))) fun i hi => ?_
  (repeat (first | refine XK.norm rfl rfl ?_ | refine XK.rgnA hT rfl rfl rfl ?_ | refine XK.rgnB hT hm rfl rfl rfl ?_)); refine XK.cond rfl (fun hlt => ?_) (fun hlt => ?_) <;> (try simp at hlt)
  · have hYi := hY i hlt
    have hs := mapRun_succ f w i
    have hm0 : (mapRun f w i).mark i = w.mark i := mapRun_ge (Nat.lt_irrefl i)
    have fm : (mapRun f w i).mark (i : Int).toNat = w.mark i := hm0
    (repeat (first | refine XK.norm rfl rfl ?_ | refine XK.rgnA hT rfl rfl rfl ?_ | refine XK.rgnB hT hm rfl rfl rfl ?_))
    (repeat (first | refine XK.norm rfl rfl ?_ | refine XK.rgnA hT rfl rfl rfl ?_ | refine XK.rgnB hT hm rfl rfl rfl ?_)); refine XK.region ?_; refine XL.goA hT rfl rfl rfl rfl ?_
    refine XL.callLA hE rfl rfl rfl rfl trivial rfl (running_ok ((mapRun f w i).mark (i : Int).toNat)) rfl ?_
    rw [fm]
    refine XL.goA hT rfl rfl rfl rfl ?_
    refine XL.yieldMG [0, 1, 2, 3, 4, 5, 6] (.c (.bool false)) hE rfl rfl rfl rfl rfl rfl (fun hgd => ?_) rfl (fun hgd => ?_) (fun hgd => hYi hgd) rfl ?_ rfl (fun hgd => ?_) rfl rfl rfl (fun hgd => ?_)
    · rw [if_neg (by rw [hgd]; simp)] at hs
      refine XL.goA hT rfl rfl rfl rfl ?_; refine XL.fin ?_; (repeat (first | refine XK.norm rfl rfl ?_ | refine XK.rgnA hT rfl rfl rfl ?_ | refine XK.rgnB hT hm rfl rfl rfl ?_))
      (repeat (first | refine XK.norm rfl rfl ?_ | refine XK.rgnA hT rfl rfl rfl ?_ | refine XK.rgnB hT hm rfl rfl rfl ?_)); refine XK.cond rfl (fun hb => ?_) (fun hb => ?_)
      · exact absurd hb (by rw [hgd]; simp)
      · (repeat (first | refine XK.norm rfl rfl ?_ | refine XK.rgnA hT rfl rfl rfl ?_ | refine XK.rgnB hT hm rfl rfl rfl ?_))
        refine XK.inv ⟨i + 1, hlt, ?_, by omega⟩
        rw [hs]
        exact (Weak.of hN rfl rfl rfl (by (repeat' (first | exact rfl | exact AvIs.refl _ | exact trivial | exact fun _ _ => rfl | exact fun _ _ => ⟨rfl, AvIs.refl _⟩ | refine ⟨?_, ?_⟩))) (by (repeat' (first | exact rfl | exact AvIs.refl _ | exact trivial | exact fun _ _ => rfl | exact fun _ _ => ⟨rfl, AvIs.refl _⟩ | refine ⟨?_, ?_⟩))))
    · simp only [AllP, impG, hgd]; simp
    · (repeat' (first | exact rfl | exact AvIs.refl _ | exact trivial | exact fun _ _ => rfl | exact fun _ _ => ⟨rfl, AvIs.refl _⟩ | refine ⟨?_, ?_⟩))
    · (repeat' (first | exact rfl | exact AvIs.refl _ | exact trivial | exact fun _ _ => rfl | exact fun _ _ => ⟨rfl, AvIs.refl _⟩ | refine ⟨?_, ?_⟩))
    · refine XL.goA hT rfl rfl rfl rfl ?_; refine XL.fin ?_; (repeat (first | refine XK.norm rfl rfl ?_ | refine XK.rgnA hT rfl rfl rfl ?_ | refine XK.rgnB hT hm rfl rfl rfl ?_))
      (repeat (first | refine XK.norm rfl rfl ?_ | refine XK.rgnA hT rfl rfl rfl ?_ | refine XK.rgnB hT hm rfl rfl rfl ?_)); refine XK.cond rfl (fun hb => ?_) (fun hb => ?_)
      · exact absurd hb (by simp)
      · (repeat (first | refine XK.norm rfl rfl ?_ | refine XK.rgnA hT rfl rfl rfl ?_ | refine XK.rgnB hT hm rfl rfl rfl ?_))
        refine XK.inv ⟨i + 1, hlt, ?_, by omega⟩
        exact (Weak.of hN rfl rfl rfl (by (repeat' (first | exact rfl | exact AvIs.refl _ | exact trivial | exact fun _ _ => rfl | exact fun _ _ => ⟨rfl, AvIs.refl _⟩ | refine ⟨?_, ?_⟩))) (by (repeat' (first | exact rfl | exact AvIs.refl _ | exact trivial | exact fun _ _ => rfl | exact fun _ _ => ⟨rfl, AvIs.refl _⟩ | refine ⟨?_, ?_⟩))))
  · have hie : i = k.clauses.length := by omega
    subst hie
    (repeat (first | refine XK.norm rfl rfl ?_ | refine XK.rgnA hT rfl rfl rfl ?_ | refine XK.rgnB hT hm rfl rfl rfl ?_))
    (first | refine XK.outR [0, 1, 2, 3, 4, 5, 6] hN rfl rfl rfl ?_ rfl rfl ?_ | refine XK.outRN [0, 1, 2, 3, 4, 5, 6] hN rfl rfl rfl ?_ rfl rfl ?_)
    · (repeat' (first | exact rfl | exact AvIs.refl _ | exact trivial | exact fun _ _ => rfl | exact fun _ _ => ⟨rfl, AvIs.refl _⟩ | refine ⟨?_, ?_⟩))
    · (repeat' (first | exact rfl | exact AvIs.refl _ | exact trivial | exact fun _ _ => rfl | exact fun _ _ => ⟨rfl, AvIs.refl _⟩ | refine ⟨?_, ?_⟩))
def csT (k : K) (free : Bool) : List AV := frL 89 [(1, .ptr 6 0), (2, .vptr 7 0 1 0 0), (4, .rptr [.c (.bool free)])]
def itT (k : K) (free : Bool) (w : Wk) : List Ob := [.cells 108 [.ptr 2 0], wO k w 3 4 5, wHold k w, wUsed k w, wMark k w, .cells 108 [.ptr 2 0], .vec 135 1 0 5 (rowOf [.c .nilFunc, .fn (.func 85) [] [], .fn (.func 86) [] [], .fn (.func 87) [] [], .fn (.func 87) [] []] 1)]
def itNT (k : K) (free : Bool) (w : Wk) : List (Nat × Ob) := [(1, .cells 108 [.ptr 2 0]), (2, wO k w 3 4 5), (3, wHold k w), (4, wUsed k w), (5, wMark k w), (6, .cells 108 [.ptr 2 0]), (7, .vec 135 1 0 5 (rowOf [.c .nilFunc, .fn (.func 85) [] [], .fn (.func 86) [] [], .fn (.func 87) [] [], .fn (.func 87) [] []] 1))]
theorem runItT_ok (k : K) (free : Bool) (hk : KFacts k) (w : Wk) (f : Nat → Mk → Mk) (L b : Nat) (rc : Array Value → Obj)
    (hY : ∀ i, i < k.clauses.length → runsM (w.mark i) = true → DoesR Try.prog L [.c (.int .i64 i)] (.lrec rc b (csT k free) :: itT k free (mapRun f w i)) (.c (.bool true)) (.lrec rc b (csT k free) :: itT k free (mapRun f w (i + 1)))) :
    DoesM Try.prog 110 [.fn (.yield L) [] [], .ptr 1 0] (.lrec rc b (csT k free) :: itT k free w) (.tup []) (.lrec rc b (csT k free) :: itT k free (mapRun f w k.clauses.length)) := by
  refine DoesM.mk (fun _ => false) 100 TT_ok Try.func110 rfl (by kernel_rfl) Try.ntmps110 rfl rfl rfl fun E hT hE hN hR => ?_
  have hm : E.P.follows .mixedOrders = true := by rw [hE]; kernel_rfl
  have hnc := hk.nc
  (repeat (first | refine XK.norm rfl rfl ?_ | refine XK.rgnA hT rfl rfl rfl ?_ | refine XK.rgnB hT hm rfl rfl rfl ?_))
  refine XK.loop (ι := Nat) (fun i => ST.of [(0, .fn (.yield L) [] []), (1, .ptr 1 0), (9, .c (.int .i64 k.clauses.length)), (10, .c (.int .i64 i))] ((0, .lrec rc b (csT k free)) :: itNT k free (mapRun f w i)) 1000 29 (fun _ => false))
    (fun i => i ≤ k.clauses.length) (fun i => k.clauses.length - i) 0 (Nat.zero_le _)
    (Weak.of hN rfl rfl rfl (by (repeat' (first | exact rfl | exact AvIs.refl _ | exact trivial | exact fun _ _ => rfl | exact fun _ _ => ⟨rfl, AvIs.refl _⟩ | refine ⟨?_, ?_⟩))) (by simp only [mapRun_zero]; (repeat' (first | exact rfl | exact AvIs.refl _ | exact trivial | exact fun _ _ => rfl | exact fun _ _ => ⟨rfl, AvIs.refl _⟩ | refine ⟨?_, ?_⟩)))) fun i hi => ?_
  (repeat (first | refine XK.norm rfl rfl ?_ | refine XK.rgnA hT rfl rfl rfl ?_ | refine XK.rgnB hT hm rfl rfl rfl ?_)); refine XK.cond rfl (fun hlt => ?_) (fun hlt => ?_) <;> (try simp at hlt)
  · have hYi := hY i hlt
    have hs := mapRun_succ f w i
    have hm0 : (mapRun f w i).mark i = w.mark i := mapRun_ge (Nat.lt_irrefl i)
    have fm : (mapRun f w i).mark (i : Int).toNat = w.mark i := hm0
    (repeat (first | refine XK.norm rfl rfl ?_ | refine XK.rgnA hT rfl rfl rfl ?_ | refine XK.rgnB hT hm rfl rfl rfl ?_))
    (repeat (first | refine XK.norm rfl rfl ?_ | refine XK.rgnA hT rfl rfl rfl ?_ | refine XK.rgnB hT hm rfl rfl rfl ?_)); refine XK.region ?_; refine XL.goA hT rfl rfl rfl rfl ?_
    refine XL.callLA hE rfl rfl rfl rfl trivial rfl (running_ok ((mapRun f w i).mark (i : Int).toNat)) rfl ?_
    rw [fm]
    refine XL.goA hT rfl rfl rfl rfl ?_
    refine XL.yieldMG [0, 1, 2, 3, 4, 5, 6, 7] (.c (.bool false)) hE rfl rfl rfl rfl rfl rfl (fun hgd => ?_) rfl (fun hgd => ?_) (fun hgd => hYi hgd) rfl ?_ rfl (fun hgd => ?_) rfl rfl rfl (fun hgd => ?_)
    · rw [if_neg (by rw [hgd]; simp)] at hs
      refine XL.goA hT rfl rfl rfl rfl ?_; refine XL.fin ?_; (repeat (first | refine XK.norm rfl rfl ?_ | refine XK.rgnA hT rfl rfl rfl ?_ | refine XK.rgnB hT hm rfl rfl rfl ?_))
      (repeat (first | refine XK.norm rfl rfl ?_ | refine XK.rgnA hT rfl rfl rfl ?_ | refine XK.rgnB hT hm rfl rfl rfl ?_)); refine XK.cond rfl (fun hb => ?_) (fun hb => ?_)
      · exact absurd hb (by rw [hgd]; simp)
      · (repeat (first | refine XK.norm rfl rfl ?_ | refine XK.rgnA hT rfl rfl rfl ?_ | refine XK.rgnB hT hm rfl rfl rfl ?_))
        refine XK.inv ⟨i + 1, hlt, ?_, by omega⟩
        rw [hs]
        exact (Weak.of hN rfl rfl rfl (by (repeat' (first | exact rfl | exact AvIs.refl _ | exact trivial | exact fun _ _ => rfl | exact fun _ _ => ⟨rfl, AvIs.refl _⟩ | refine ⟨?_, ?_⟩))) (by (repeat' (first | exact rfl | exact AvIs.refl _ | exact trivial | exact fun _ _ => rfl | exact fun _ _ => ⟨rfl, AvIs.refl _⟩ | refine ⟨?_, ?_⟩))))
    · simp only [AllP, impG, hgd]; simp
    · (repeat' (first | exact rfl | exact AvIs.refl _ | exact trivial | exact fun _ _ => rfl | exact fun _ _ => ⟨rfl, AvIs.refl _⟩ | refine ⟨?_, ?_⟩))
    · (repeat' (first | exact rfl | exact AvIs.refl _ | exact trivial | exact fun _ _ => rfl | exact fun _ _ => ⟨rfl, AvIs.refl _⟩ | refine ⟨?_, ?_⟩))
    · refine XL.goA hT rfl rfl rfl rfl ?_; refine XL.fin ?_; (repeat (first | refine XK.norm rfl rfl ?_ | refine XK.rgnA hT rfl rfl rfl ?_ | refine XK.rgnB hT hm rfl rfl rfl ?_))
      (repeat (first | refine XK.norm rfl rfl ?_ | refine XK.rgnA hT rfl rfl rfl ?_ | refine XK.rgnB hT hm rfl rfl rfl ?_)); refine XK.cond rfl (fun hb => ?_) (fun hb => ?_)
      · exact absurd hb (by simp)
      · (repeat (first | refine XK.norm rfl rfl ?_ | refine XK.rgnA hT rfl rfl rfl ?_ | refine XK.rgnB hT hm rfl rfl rfl ?_))
        refine XK.inv ⟨i + 1, hlt, ?_, by omega⟩
        exact (Weak.of hN rfl rfl rfl (by (repeat' (first | exact rfl | exact AvIs.refl _ | exact trivial | exact fun _ _ => rfl | exact fun _ _ => ⟨rfl, AvIs.refl _⟩ | refine ⟨?_, ?_⟩))) (by (repeat' (first | exact rfl | exact AvIs.refl _ | exact trivial | exact fun _ _ => rfl | exact fun _ _ => ⟨rfl, AvIs.refl _⟩ | refine ⟨?_, ?_⟩))))
  · have hie : i = k.clauses.length := by omega
    subst hie
    (repeat (first | refine XK.norm rfl rfl ?_ | refine XK.rgnA hT rfl rfl rfl ?_ | refine XK.rgnB hT hm rfl rfl rfl ?_))
    (first | refine XK.outR [0, 1, 2, 3, 4, 5, 6, 7] hN rfl rfl rfl ?_ rfl rfl ?_ | refine XK.outRN [0, 1, 2, 3, 4, 5, 6, 7] hN rfl rfl rfl ?_ rfl rfl ?_)
    · (repeat' (first | exact rfl | exact AvIs.refl _ | exact trivial | exact fun _ _ => rfl | exact fun _ _ => ⟨rfl, AvIs.refl _⟩ | refine ⟨?_, ?_⟩))
    · (repeat' (first | exact rfl | exact AvIs.refl _ | exact trivial | exact fun _ _ => rfl | exact fun _ _ => ⟨rfl, AvIs.refl _⟩ | refine ⟨?_, ?_⟩))
def csP (k : K) (a : Nat) : List AV := frL 132 [(2, .ptr 6 0), (3, .rptr [.c (.int .i64 (a : Nat))])]
def itP (k : K) (a : Nat) (w : Wk) : List Ob := [.cells 108 [.ptr 2 0], wO k w 3 4 5, wHold k w, wUsed k w, wMark k w, .cells 108 [.ptr 2 0]]
def itNP (k : K) (a : Nat) (w : Wk) : List (Nat × Ob) := [(1, .cells 108 [.ptr 2 0]), (2, wO k w 3 4 5), (3, wHold k w), (4, wUsed k w), (5, wMark k w), (6, .cells 108 [.ptr 2 0])]
theorem runItP_ok (k : K) (a : Nat) (hk : KFacts k) (w : Wk) (f : Nat → Mk → Mk) (L b : Nat) (rc : Array Value → Obj)
    (hY : ∀ i, i < k.clauses.length → runsM (w.mark i) = true → DoesR Try.prog L [.c (.int .i64 i)] (.lrec rc b (csP k a) :: itP k a (mapRun f w i)) (.c (.bool true)) (.lrec rc b (csP k a) :: itP k a (mapRun f w (i + 1)))) :
    DoesM Try.prog 110 [.fn (.yield L) [] [], .ptr 1 0] (.lrec rc b (csP k a) :: itP k a w) (.tup []) (.lrec rc b (csP k a) :: itP k a (mapRun f w k.clauses.length)) := by
  refine DoesM.mk (fun _ => false) 100 TT_ok Try.func110 rfl (by kernel_rfl) Try.ntmps110 rfl rfl rfl fun E hT hE hN hR => ?_
  have hm : E.P.follows .mixedOrders = true := by rw [hE]; kernel_rfl
  have hnc := hk.nc
  (repeat (first | refine XK.norm rfl rfl ?_ | refine XK.rgnA hT rfl rfl rfl ?_ | refine XK.rgnB hT hm rfl rfl rfl ?_))
  refine XK.loop (ι := Nat) (fun i => ST.of [(0, .fn (.yield L) [] []), (1, .ptr 1 0), (9, .c (.int .i64 k.clauses.length)), (10, .c (.int .i64 i))] ((0, .lrec rc b (csP k a)) :: itNP k a (mapRun f w i)) 1000 29 (fun _ => false))
    (fun i => i ≤ k.clauses.length) (fun i => k.clauses.length - i) 0 (Nat.zero_le _)
    (Weak.of hN rfl rfl rfl (by (repeat' (first | exact rfl | exact AvIs.refl _ | exact trivial | exact fun _ _ => rfl | exact fun _ _ => ⟨rfl, AvIs.refl _⟩ | refine ⟨?_, ?_⟩))) (by simp only [mapRun_zero]; (repeat' (first | exact rfl | exact AvIs.refl _ | exact trivial | exact fun _ _ => rfl | exact fun _ _ => ⟨rfl, AvIs.refl _⟩ | refine ⟨?_, ?_⟩)))) fun i hi => ?_
  (repeat (first | refine XK.norm rfl rfl ?_ | refine XK.rgnA hT rfl rfl rfl ?_ | refine XK.rgnB hT hm rfl rfl rfl ?_)); refine XK.cond rfl (fun hlt => ?_) (fun hlt => ?_) <;> (try simp at hlt)
  · have hYi := hY i hlt
    have hs := mapRun_succ f w i
    have hm0 : (mapRun f w i).mark i = w.mark i := mapRun_ge (Nat.lt_irrefl i)
    have fm : (mapRun f w i).mark (i : Int).toNat = w.mark i := hm0
    (repeat (first | refine XK.norm rfl rfl ?_ | refine XK.rgnA hT rfl rfl rfl ?_ | refine XK.rgnB hT hm rfl rfl rfl ?_))
    (repeat (first | refine XK.norm rfl rfl ?_ | refine XK.rgnA hT rfl rfl rfl ?_ | refine XK.rgnB hT hm rfl rfl rfl ?_)); refine XK.region ?_; refine XL.goA hT rfl rfl rfl rfl ?_
    refine XL.callLA hE rfl rfl rfl rfl trivial rfl (running_ok ((mapRun f w i).mark (i : Int).toNat)) rfl ?_
    rw [fm]
    refine XL.goA hT rfl rfl rfl rfl ?_
    refine XL.yieldMG [0, 1, 2, 3, 4, 5, 6] (.c (.bool false)) hE rfl rfl rfl rfl rfl rfl (fun hgd => ?_) rfl (fun hgd => ?_) (fun hgd => hYi hgd) rfl ?_ rfl (fun hgd => ?_) rfl rfl rfl (fun hgd => ?_)
    · rw [if_neg (by rw [hgd]; simp)] at hs
      refine XL.goA hT rfl rfl rfl rfl ?_; refine XL.fin ?_; (repeat (first | refine XK.norm rfl rfl ?_ | refine XK.rgnA hT rfl rfl rfl ?_ | refine XK.rgnB hT hm rfl rfl rfl ?_))
      (repeat (first | refine XK.norm rfl rfl ?_ | refine XK.rgnA hT rfl rfl rfl ?_ | refine XK.rgnB hT hm rfl rfl rfl ?_)); refine XK.cond rfl (fun hb => ?_) (fun hb => ?_)
      · exact absurd hb (by rw [hgd]; simp)
      · (repeat (first | refine XK.norm rfl rfl ?_ | refine XK.rgnA hT rfl rfl rfl ?_ | refine XK.rgnB hT hm rfl rfl rfl ?_))
        refine XK.inv ⟨i + 1, hlt, ?_, by omega⟩
        rw [hs]
        exact (Weak.of hN rfl rfl rfl (by (repeat' (first | exact rfl | exact AvIs.refl _ | exact trivial | exact fun _ _ => rfl | exact fun _ _ => ⟨rfl, AvIs.refl _⟩ | refine ⟨?_, ?_⟩))) (by (repeat' (first | exact rfl | exact AvIs.refl _ | exact trivial | exact fun _ _ => rfl | exact fun _ _ => ⟨rfl, AvIs.refl _⟩ | refine ⟨?_, ?_⟩))))
    · simp only [AllP, impG, hgd]; simp
    · (repeat' (first | exact rfl | exact AvIs.refl _ | exact trivial | exact fun _ _ => rfl | exact fun _ _ => ⟨rfl, AvIs.refl _⟩ | refine ⟨?_, ?_⟩))
    · (repeat' (first | exact rfl | exact AvIs.refl _ | exact trivial | exact fun _ _ => rfl | exact fun _ _ => ⟨rfl, AvIs.refl _⟩ | refine ⟨?_, ?_⟩))
    · refine XL.goA hT rfl rfl rfl rfl ?_; refine XL.fin ?_; (repeat (first | refine XK.norm rfl rfl ?_ | refine XK.rgnA hT rfl rfl rfl ?_ | refine XK.rgnB hT hm rfl rfl rfl ?_))
      (repeat (first | refine XK.norm rfl rfl ?_ | refine XK.rgnA hT rfl rfl rfl ?_ | refine XK.rgnB hT hm rfl rfl rfl ?_)); refine XK.cond rfl (fun hb => ?_) (fun hb => ?_)
      · exact absurd hb (by simp)
      · (repeat (first | refine XK.norm rfl rfl ?_ | refine XK.rgnA hT rfl rfl rfl ?_ | refine XK.rgnB hT hm rfl rfl rfl ?_))
        refine XK.inv ⟨i + 1, hlt, ?_, by omega⟩
        exact (Weak.of hN rfl rfl rfl (by (repeat' (first | exact rfl | exact AvIs.refl _ | exact trivial | exact fun _ _ => rfl | exact fun _ _ => ⟨rfl, AvIs.refl _⟩ | refine ⟨?_, ?_⟩))) (by (repeat' (first | exact rfl | exact AvIs.refl _ | exact trivial | exact fun _ _ => rfl | exact fun _ _ => ⟨rfl, AvIs.refl _⟩ | refine ⟨?_, ?_⟩))))
  · have hie : i = k.clauses.length := by omega
    subst hie
    (repeat (first | refine XK.norm rfl rfl ?_ | refine XK.rgnA hT rfl rfl rfl ?_ | refine XK.rgnB hT hm rfl rfl rfl ?_))
    (first | refine XK.outR [0, 1, 2, 3, 4, 5, 6] hN rfl rfl rfl ?_ rfl rfl ?_ | refine XK.outRN [0, 1, 2, 3, 4, 5, 6] hN rfl rfl rfl ?_ rfl rfl ?_)
    · (repeat' (first | exact rfl | exact AvIs.refl _ | exact trivial | exact fun _ _ => rfl | exact fun _ _ => ⟨rfl, AvIs.refl _⟩ | refine ⟨?_, ?_⟩))
    · (repeat' (first | exact rfl | exact AvIs.refl _ | exact trivial | exact fun _ _ => rfl | exact fun _ _ => ⟨rfl, AvIs.refl _⟩ | refine ⟨?_, ?_⟩))
def csA (k : K) (a : Nat) (by_ : Int) : List AV := frL 132 [(2, .ptr 6 0), (3, .rptr [.c (.int .i64 (a : Nat))]), (6, .vptr 7 0 1 0 0), (7, .rptr [.c (.int .i64 by_)])]
def itA (k : K) (a : Nat) (by_ : Int) (w : Wk) : List Ob := [.cells 108 [.ptr 2 0], wO k w 3 4 5, wHold k w, wUsed k w, wMark k w, .cells 108 [.ptr 2 0], .vec 135 1 0 5 (rowOf [.c .nilFunc, .fn (.func 90) [] [], .fn (.func 91) [] [], .fn (.func 86) [] [], .fn (.func 86) [] []] 1)]
def itNA (k : K) (a : Nat) (by_ : Int) (w : Wk) : List (Nat × Ob) := [(1, .cells 108 [.ptr 2 0]), (2, wO k w 3 4 5), (3, wHold k w), (4, wUsed k w), (5, wMark k w), (6, .cells 108 [.ptr 2 0]), (7, .vec 135 1 0 5 (rowOf [.c .nilFunc, .fn (.func 90) [] [], .fn (.func 91) [] [], .fn (.func 86) [] [], .fn (.func 86) [] []] 1))]
theorem runItA_ok (k : K) (a : Nat) (by_ : Int) (hk : KFacts k) (w : Wk) (f : Nat → Mk → Mk) (L b : Nat) (rc : Array Value → Obj)
    (hY : ∀ i, i < k.clauses.length → runsM (w.mark i) = true → DoesR Try.prog L [.c (.int .i64 i)] (.lrec rc b (csA k a by_) :: itA k a by_ (mapRun f w i)) (.c (.bool true)) (.lrec rc b (csA k a by_) :: itA k a by_ (mapRun f w (i + 1)))) :
    DoesM Try.prog 110 [.fn (.yield L) [] [], .ptr 1 0] (.lrec rc b (csA k a by_) :: itA k a by_ w) (.tup []) (.lrec rc b (csA k a by_) :: itA k a by_ (mapRun f w k.clauses.length)) := by
  refine DoesM.mk (fun _ => false) 100 TT_ok Try.func110 rfl (by kernel_rfl) Try.ntmps110 rfl rfl rfl fun E hT hE hN hR => ?_
  have hm : E.P.follows .mixedOrders = true := by rw [hE]; kernel_rfl
  have hnc := hk.nc
  (repeat (first | refine XK.norm rfl rfl ?_ | refine XK.rgnA hT rfl rfl rfl ?_ | refine XK.rgnB hT hm rfl rfl rfl ?_))
  refine XK.loop (ι := Nat) (fun i => ST.of [(0, .fn (.yield L) [] []), (1, .ptr 1 0), (9, .c (.int .i64 k.clauses.length)), (10, .c (.int .i64 i))] ((0, .lrec rc b (csA k a by_)) :: itNA k a by_ (mapRun f w i)) 1000 29 (fun _ => false))
    (fun i => i ≤ k.clauses.length) (fun i => k.clauses.length - i) 0 (Nat.zero_le _)
    (Weak.of hN rfl rfl rfl (by (repeat' (first | exact rfl | exact AvIs.refl _ | exact trivial | exact fun _ _ => rfl | exact fun _ _ => ⟨rfl, AvIs.refl _⟩ | refine ⟨?_, ?_⟩))) (by simp only [mapRun_zero]; (repeat' (first | exact rfl | exact AvIs.refl _ | exact trivial | exact fun _ _ => rfl | exact fun _ _ => ⟨rfl, AvIs.refl _⟩ | refine ⟨?_, ?_⟩)))) fun i hi => ?_
  (repeat (first | refine XK.norm rfl rfl ?_ | refine XK.rgnA hT rfl rfl rfl ?_ | refine XK.rgnB hT hm rfl rfl rfl ?_)); refine XK.cond rfl (fun hlt => ?_) (fun hlt => ?_) <;> (try simp at hlt)
  · have hYi := hY i hlt
    have hs := mapRun_succ f w i
    have hm0 : (mapRun f w i).mark i = w.mark i := mapRun_ge (Nat.lt_irrefl i)
    have fm : (mapRun f w i).mark (i : Int).toNat = w.mark i := hm0
    (repeat (first | refine XK.norm rfl rfl ?_ | refine XK.rgnA hT rfl rfl rfl ?_ | refine XK.rgnB hT hm rfl rfl rfl ?_))
    (repeat (first | refine XK.norm rfl rfl ?_ | refine XK.rgnA hT rfl rfl rfl ?_ | refine XK.rgnB hT hm rfl rfl rfl ?_)); refine XK.region ?_; refine XL.goA hT rfl rfl rfl rfl ?_
    refine XL.callLA hE rfl rfl rfl rfl trivial rfl (running_ok ((mapRun f w i).mark (i : Int).toNat)) rfl ?_
    rw [fm]
    refine XL.goA hT rfl rfl rfl rfl ?_
    refine XL.yieldMG [0, 1, 2, 3, 4, 5, 6, 7] (.c (.bool false)) hE rfl rfl rfl rfl rfl rfl (fun hgd => ?_) rfl (fun hgd => ?_) (fun hgd => hYi hgd) rfl ?_ rfl (fun hgd => ?_) rfl rfl rfl (fun hgd => ?_)
    · rw [if_neg (by rw [hgd]; simp)] at hs
      refine XL.goA hT rfl rfl rfl rfl ?_; refine XL.fin ?_; (repeat (first | refine XK.norm rfl rfl ?_ | refine XK.rgnA hT rfl rfl rfl ?_ | refine XK.rgnB hT hm rfl rfl rfl ?_))
      (repeat (first | refine XK.norm rfl rfl ?_ | refine XK.rgnA hT rfl rfl rfl ?_ | refine XK.rgnB hT hm rfl rfl rfl ?_)); refine XK.cond rfl (fun hb => ?_) (fun hb => ?_)
      · exact absurd hb (by rw [hgd]; simp)
      · (repeat (first | refine XK.norm rfl rfl ?_ | refine XK.rgnA hT rfl rfl rfl ?_ | refine XK.rgnB hT hm rfl rfl rfl ?_))
        refine XK.inv ⟨i + 1, hlt, ?_, by omega⟩
        rw [hs]
        exact (Weak.of hN rfl rfl rfl (by (repeat' (first | exact rfl | exact AvIs.refl _ | exact trivial | exact fun _ _ => rfl | exact fun _ _ => ⟨rfl, AvIs.refl _⟩ | refine ⟨?_, ?_⟩))) (by (repeat' (first | exact rfl | exact AvIs.refl _ | exact trivial | exact fun _ _ => rfl | exact fun _ _ => ⟨rfl, AvIs.refl _⟩ | refine ⟨?_, ?_⟩))))
    · simp only [AllP, impG, hgd]; simp
    · (repeat' (first | exact rfl | exact AvIs.refl _ | exact trivial | exact fun _ _ => rfl | exact fun _ _ => ⟨rfl, AvIs.refl _⟩ | refine ⟨?_, ?_⟩))
    · (repeat' (first | exact rfl | exact AvIs.refl _ | exact trivial | exact fun _ _ => rfl | exact fun _ _ => ⟨rfl, AvIs.refl _⟩ | refine ⟨?_, ?_⟩))
    · refine XL.goA hT rfl rfl rfl rfl ?_; refine XL.fin ?_; (repeat (first | refine XK.norm rfl rfl ?_ | refine XK.rgnA hT rfl rfl rfl ?_ | refine XK.rgnB hT hm rfl rfl rfl ?_))
      (repeat (first | refine XK.norm rfl rfl ?_ | refine XK.rgnA hT rfl rfl rfl ?_ | refine XK.rgnB hT hm rfl rfl rfl ?_)); refine XK.cond rfl (fun hb => ?_) (fun hb => ?_)
      · exact absurd hb (by simp)
      · (repeat (first | refine XK.norm rfl rfl ?_ | refine XK.rgnA hT rfl rfl rfl ?_ | refine XK.rgnB hT hm rfl rfl rfl ?_))
        refine XK.inv ⟨i + 1, hlt, ?_, by omega⟩
        exact (Weak.of hN rfl rfl rfl (by (repeat' (first | exact rfl | exact AvIs.refl _ | exact trivial | exact fun _ _ => rfl | exact fun _ _ => ⟨rfl, AvIs.refl _⟩ | refine ⟨?_, ?_⟩))) (by (repeat' (first | exact rfl | exact AvIs.refl _ | exact trivial | exact fun _ _ => rfl | exact fun _ _ => ⟨rfl, AvIs.refl _⟩ | refine ⟨?_, ?_⟩))))
  · have hie : i = k.clauses.length := by omega
    subst hie
    (repeat (first | refine XK.norm rfl rfl ?_ | refine XK.rgnA hT rfl rfl rfl ?_ | refine XK.rgnB hT hm rfl rfl rfl ?_))
    (first | refine XK.outR [0, 1, 2, 3, 4, 5, 6, 7] hN rfl rfl rfl ?_ rfl rfl ?_ | refine XK.outRN [0, 1, 2, 3, 4, 5, 6, 7] hN rfl rfl rfl ?_ rfl rfl ?_)
    · (repeat' (first | exact rfl | exact AvIs.refl _ | exact trivial | exact fun _ _ => rfl | exact fun _ _ => ⟨rfl, AvIs.refl _⟩ | refine ⟨?_, ?_⟩))
    · (repeat' (first | exact rfl | exact AvIs.refl _ | exact trivial | exact fun _ _ => rfl | exact fun _ _ => ⟨rfl, AvIs.refl _⟩ | refine ⟨?_, ?_⟩))
end Go.Proofs.Ytbheoblmfjjaaaa
end
