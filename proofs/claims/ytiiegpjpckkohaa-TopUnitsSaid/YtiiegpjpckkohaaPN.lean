import Derived.Test.YtiiegpjpckkohaaPE
import Derived.Test.YtiiegpjpckkohaaP6
import Derived.Test.YtiiegpjpckkohaaP5
section
/- What acts move: plain definitions. Contracts: tally.check, Given$1, Received$1, moves; trace.Course. -/
namespace Go.Proofs.Ytiiegpjpckkohaa
open Go.Eng
set_option maxRecDepth 10000
set_option linter.unusedSimpArgs false
set_option linter.unusedVariables false
/-- What a step moves. -/
structure Mv where
  unit : Int
  val : Q
  giver : Int
  recv : Int
def mvV (m : Mv) : AV := .agg [.c (.int .i64 m.unit), .c (.int .i64 m.val.1), .c (.int .i64 m.val.2), .c (.int .i64 m.giver), .c (.int .i64 m.recv)]
def mvAt (k : K) (l : List Int) (i : Nat) : Option Mv :=
  if l.getD i default = -1 ∨ (acAt k (l.getD i default).toNat).unit = -1 then none
  else some ⟨(acAt k (l.getD i default).toNat).unit, (acAt k (l.getD i default).toNat).lot, (followR k l i).hold (acAt k (l.getD i default).toNat).role.toNat,
    if (acAt k (l.getD i default).toNat).to ≠ -1 then (followR k l i).hold (acAt k (l.getD i default).toNat).to.toNat else -1⟩
/-- The sums, their error, and how many steps were read. -/
abbrev Tl := (Nat → Q) × Int × Int
def stepS (ch : Mv → Int) (party : Int) (q : Nat → Q) (m : Mv) : (Nat → Q) × Int :=
  if ch m ≠ party then (q, 0) else if (addR (q m.unit.toNat) m.val).2 ≠ 0 then (q, 2) else (setQ q m.unit.toNat (addR (q m.unit.toNat) m.val).1, 0)
def tlT (ch : Mv → Int) (party : Int) (mv : Nat → Option Mv) : Nat → Tl
  | 0 => (fun _ => (0, 1), 0, 0)
  | i + 1 => if (tlT ch party mv i).2.1 ≠ 0 then tlT ch party mv i else match mv i with
    | none => ((tlT ch party mv i).1, 0, (i : Int) + 1)
    | some m => ((stepS ch party (tlT ch party mv i).1 m).1, (stepS ch party (tlT ch party mv i).1 m).2, (i : Int) + 1)
theorem tlT_none {ch : Mv → Int} {party : Int} {mv : Nat → Option Mv} {i : Nat} (h : mv i = none) (h0 : (tlT ch party mv i).2.1 = 0) : tlT ch party mv (i + 1) = ((tlT ch party mv i).1, 0, (i : Int) + 1) := by
  simp only [tlT, h, h0, ne_eq, not_true_eq_false, if_false]
theorem tlT_some {ch : Mv → Int} {party : Int} {mv : Nat → Option Mv} {i : Nat} {m : Mv} (h : mv i = some m) (h0 : (tlT ch party mv i).2.1 = 0) : tlT ch party mv (i + 1) = ((stepS ch party (tlT ch party mv i).1 m).1, (stepS ch party (tlT ch party mv i).1 m).2, (i : Int) + 1) := by
  simp only [tlT, h, h0, ne_eq, not_true_eq_false, if_false]
theorem tlT_stop {ch : Mv → Int} {party : Int} {mv : Nat → Option Mv} {i : Nat} (h : (tlT ch party mv i).2.1 ≠ 0) : ∀ m, i ≤ m → tlT ch party mv m = tlT ch party mv i := by
  intro m hm
  induction m with
  | zero => have : i = 0 := by omega
            rw [this]
  | succ m ih =>
    by_cases h1 : i = m + 1
    · rw [h1]
    · have h2 := ih (by omega)
      simp only [tlT]
      rw [if_pos (by rw [h2]; exact h), h2]
theorem tlT_steps {ch : Mv → Int} {party : Int} {mv : Nat → Option Mv} : ∀ {i : Nat}, (tlT ch party mv i).2.1 = 0 → (tlT ch party mv i).2.2 = i
  | 0, _ => rfl
  | i + 1, h => by
    by_cases h0 : (tlT ch party mv i).2.1 = 0
    · cases hm : mv i with
      | none => rw [tlT_none hm h0]; rfl
      | some m => rw [tlT_some hm h0]; rfl
    · rw [tlT_stop h0 (i + 1) (by omega)] at h; exact absurd h h0
theorem stepS_W {ch : Mv → Int} {party : Int} {q : Nat → Q} {m : Mv} (h : ∀ u, qW (q u)) : ∀ u, qW ((stepS ch party q m).1 u) := by
  intro u
  unfold stepS
  split
  · exact h u
  · split
    · exact h u
    · simp only [setQ]
      split
      · exact addR_W _ _
      · exact h u
theorem tlT_W {ch : Mv → Int} {party : Int} {mv : Nat → Option Mv} : ∀ i u, qW ((tlT ch party mv i).1 u)
  | 0, u => ⟨by simp [tlT, inK], by simp [tlT, inK]⟩
  | i + 1, u => by
    have ih := tlT_W (ch := ch) (party := party) (mv := mv) i
    simp only [tlT]
    split
    · exact ih u
    · split
      · exact ih u
      · exact stepS_W ih u
theorem check17_ok (k : K) (hk : kW k) (l : List Int) : Does Try.prog 84 [kV k, intsV l] (.c (.int .i64 (checkR k l))) := by
  refine Does.mk (fun _ => false) TT_ok Try.func84 rfl (by kernel_rfl) Try.ntmps84 rfl rfl fun E hT hE hN hR => ?_
  have hm : E.P.follows .mixedOrders = true := by rw [hE]; kernel_rfl
  have h : (holderR k l 0 0).2 = checkR k l := by
    by_cases h1 : checkR k l = 0
    · have := (checkR_ok hk h1).1.facts.nh
      have h2 := holderR_at h1 (i := 0) (n := 0) (by omega) (by omega)
      simp only [Int.ofNat_zero] at h2
      rw [h2, h1]
    · rw [holderR, if_pos h1]
  (repeat (first | refine XK.norm rfl rfl ?_ | refine XK.rgnA hT rfl rfl rfl ?_ | refine XK.rgnB hT hm rfl rfl rfl ?_)); refine XK.region ?_; refine XL.goA hT rfl rfl rfl rfl ?_
  refine XL.callLA hE rfl rfl rfl rfl trivial rfl (holder_ok k hk l 0 0) rfl ?_
  refine XL.goA hT rfl rfl rfl rfl ?_; refine XL.fin ?_; (repeat (first | refine XK.norm rfl rfl ?_ | refine XK.rgnA hT rfl rfl rfl ?_ | refine XK.rgnB hT hm rfl rfl rfl ?_))
  (repeat (first | refine XK.norm rfl rfl ?_ | refine XK.rgnA hT rfl rfl rfl ?_ | refine XK.rgnB hT hm rfl rfl rfl ?_))
  (first | refine XK.out rfl rfl rfl ?_ | refine XK.outN rfl rfl rfl ?_)
  rw [h]
theorem given1_ok (m : Mv) : Does Try.prog 65 [mvV m] (.c (.int .i64 m.giver)) := by
  refine Does.mk (fun _ => false) TT_ok Try.func65 rfl (by kernel_rfl) Try.ntmps65 rfl rfl fun E hT hE hN hR => ?_
  have hm : E.P.follows .mixedOrders = true := by rw [hE]; kernel_rfl
  (repeat (first | refine XK.norm rfl rfl ?_ | refine XK.rgnA hT rfl rfl rfl ?_ | refine XK.rgnB hT hm rfl rfl rfl ?_))
  (first | refine XK.out rfl rfl rfl ?_ | refine XK.outN rfl rfl rfl ?_)
  rfl
theorem received1_ok (m : Mv) : Does Try.prog 66 [mvV m] (.c (.int .i64 m.recv)) := by
  refine Does.mk (fun _ => false) TT_ok Try.func66 rfl (by kernel_rfl) Try.ntmps66 rfl rfl fun E hT hE hN hR => ?_
  have hm : E.P.follows .mixedOrders = true := by rw [hE]; kernel_rfl
  (repeat (first | refine XK.norm rfl rfl ?_ | refine XK.rgnA hT rfl rfl rfl ?_ | refine XK.rgnB hT hm rfl rfl rfl ?_))
  (first | refine XK.out rfl rfl rfl ?_ | refine XK.outN rfl rfl rfl ?_)
  rfl
theorem moves_ok (k : K) (l : List Int) : Does Try.prog 85 [kV k, intsV l] (.fn (.func 98) [] [.rptr (kC k), .rptr [intsV l]]) := by
  refine Does.mk (fun _ => false) TT_ok Try.func85 rfl (by kernel_rfl) Try.ntmps85 rfl rfl fun E hT hE hN hR => ?_
  have hm : E.P.follows .mixedOrders = true := by rw [hE]; kernel_rfl
  (repeat (first | refine XK.norm rfl rfl ?_ | refine XK.rgnA hT rfl rfl rfl ?_ | refine XK.rgnB hT hm rfl rfl rfl ?_))
  refine XK.weak (Weak.trans (Weak.frozenC (k := 2) hN rfl rfl rfl) (Weak.frozenC (k := 3) hN rfl rfl rfl)) ?_
  (first | refine XK.out rfl rfl rfl ?_ | refine XK.outN rfl rfl rfl ?_)
  rfl
theorem course_ok (k : K) (l : List Int) : Does Try.prog 99 [kV k, intsV l] (.fn (.func 111) [] [.rptr (kC k), .rptr [intsV l]]) := by
  refine Does.mk (fun _ => false) TT_ok Try.func99 rfl (by kernel_rfl) Try.ntmps99 rfl rfl fun E hT hE hN hR => ?_
  have hm : E.P.follows .mixedOrders = true := by rw [hE]; kernel_rfl
  (repeat (first | refine XK.norm rfl rfl ?_ | refine XK.rgnA hT rfl rfl rfl ?_ | refine XK.rgnB hT hm rfl rfl rfl ?_))
  refine XK.weak (Weak.trans (Weak.frozenC (k := 2) hN rfl rfl rfl) (Weak.frozenC (k := 3) hN rfl rfl rfl)) ?_
  (first | refine XK.out rfl rfl rfl ?_ | refine XK.outN rfl rfl rfl ?_)
  rfl
end Go.Proofs.Ytiiegpjpckkohaa
end
section
/- Contracts: trace.Course, run by tally.moves. -/
namespace Go.Proofs.Ytiiegpjpckkohaa
open Go.Eng
set_option maxRecDepth 10000
set_option linter.unusedSimpArgs false
set_option linter.unusedVariables false
def ratsN (n : Nat) (q : Nat → Q) : Ob := .vec 29 2 0 n (fun i => [.c (.int .i64 (q i).1), .c (.int .i64 (q i).2)])
/-- The frame of tally.sums, as its rounds know it; its objects lie from the name p on. -/
def tlCs (party : Int) (fid : Nat) (p : Nat) : List AV := frL 75 [(6, .rptr [.c (.int .i64 party)]), (7, .rptr [.fn (.func fid) [] []]), (8, .ptr (p + 2) 0), (9, .ptr (p + 3) 0), (11, .ptr p 0)]
def tlRec (mk : LoopState → Option Code → Array Value → Obj) (e : Int) : Array Value → Obj := if e = 0 then mk .ready none else mk .done (some .ret)
/-- What the rounds of trace.Course in tally.moves write: the number of steps, the record of the range in tally.sums and its objects. -/
def o2 (n : Nat) (party : Int) (fid : Nat) (mk : LoopState → Option Code → Array Value → Obj) (b : Nat) (s : Tl) : List Ob :=
  [.cells 3 [.c (.int .i64 s.2.2)], .lrec (tlRec mk s.2.1) b (tlCs party fid 3), .cells 41 [.vec 4 0], ratsN n s.1, .cells 41 [.c (.slice none 0 0)], .cells 38 [.c (.int .i64 s.2.1)]]
def mvCs (k : K) (l : List Int) (L1 : Nat) : List AV := frL 64 [(1, .rptr (kC k)), (2, .rptr [intsV l]), (3, .rptr [.fn (.yield L1) [] []]), (4, .ptr 1 0)]
def rdN20 (k : K) (r : Rd) : List (Nat × Ob) := [(20, .cells 121 [.c (.int .i64 k.parties), intsV k.holders, unitsV k.units, actsV k.acts, clsV k.clauses, .c (.int .i64 k.days), intsV k.off,
  .c (.int .i64 r.steps), .c (.int .i64 r.day), .vec 21 0, .vec 22 0, freeV k, .mp 23, .vec 24 0, .vec 25 0]), (21, holdO k r), (22, hapO k r), (23, waitO r), (24, cntO k r), (25, outO k r)]
def o2N (n : Nat) (party : Int) (fid : Nat) (mk : LoopState → Option Code → Array Value → Obj) (b : Nat) (s : Tl) : List (Nat × Ob) :=
  [(1, .cells 3 [.c (.int .i64 s.2.2)]), (2, .lrec (tlRec mk s.2.1) b (tlCs party fid 3)), (3, .cells 41 [.vec 4 0]), (4, ratsN n s.1), (5, .cells 41 [.c (.slice none 0 0)]), (6, .cells 38 [.c (.int .i64 s.2.1)])]
theorem course1_ok (k : K) (hk : kW k) (l : List Int) (hc : checkR k l = 0) (party : Int) (fid : Nat) (L1 b : Nat) (mk : LoopState → Option Code → Array Value → Obj) (L b2 : Nat) (mk2 : LoopState → Option Code → Array Value → Obj) (st : Nat → Tl)
    (h0 : (st 0).2.1 = 0) (hS : ∀ i, (st i).2.1 ≠ 0 → ∀ m, i ≤ m → st m = st i)
    (hY : ∀ j, j < l.length → (st j).2.1 = 0 → DoesR Try.prog L [.vec 7 0, .vec 8 0]
      (.lrec (mk2 .ready none) b2 (mvCs k l L1) :: (o2 k.units.length party fid mk b (st j) ++ [holdO k (followR k l j), outO k (followR k l j)])) (.c (.bool (decide ((st (j + 1)).2.1 = 0))))
      (.lrec (if (st (j + 1)).2.1 = 0 then mk2 .ready none else mk2 .done (some .ret)) b2 (mvCs k l L1) :: (o2 k.units.length party fid mk b (st (j + 1)) ++ [holdO k (followR k l j), outO k (followR k l j)])))
    (hZ : (st l.length).2.1 = 0 → DoesR Try.prog L [.vec 7 0, .vec 8 0]
      (.lrec (mk2 .ready none) b2 (mvCs k l L1) :: (o2 k.units.length party fid mk b (st l.length) ++ [holdO k (followR k l l.length), outO k (followR k l l.length)])) (.c (.bool false))
      (.lrec (mk2 .done (some .ret)) b2 (mvCs k l L1) :: (o2 k.units.length party fid mk b (st l.length) ++ [holdO k (followR k l l.length), outO k (followR k l l.length)]))) :
    DoesM Try.prog 111 [.fn (.yield L) [] [], .rptr (kC k), .rptr [intsV l]] (.lrec (mk2 .ready none) b2 (mvCs k l L1) :: o2 k.units.length party fid mk b (st 0)) (.tup [])
      (.lrec (mk2 .done (some .ret)) b2 (mvCs k l L1) :: o2 k.units.length party fid mk b (st l.length)) := by
  refine DoesM.mk (fun _ => false) 100 TT_ok Try.func111 rfl (by kernel_rfl) Try.ntmps111 rfl rfl rfl fun E hT hE hN hR => ?_
  have hm : E.P.follows .mixedOrders = true := by rw [hE]; kernel_rfl
  obtain ⟨h2, h3, h4, -⟩ := checkR_ok hk hc
  have hF := h2.facts
  (repeat (first | refine XK.norm rfl rfl ?_ | refine XK.rgnA hT rfl rfl rfl ?_ | refine XK.rgnB hT hm rfl rfl rfl ?_)); refine XK.region ?_; refine XL.goA hT rfl rfl rfl rfl ?_
  refine XL.callLA hE rfl rfl rfl rfl trivial rfl (check_ok k hk l) rfl ?_
  rw [hc]
  refine XL.goA hT rfl rfl rfl rfl ?_; refine XL.fin ?_; (repeat (first | refine XK.norm rfl rfl ?_ | refine XK.rgnA hT rfl rfl rfl ?_ | refine XK.rgnB hT hm rfl rfl rfl ?_))
  (repeat (first | refine XK.norm rfl rfl ?_ | refine XK.rgnA hT rfl rfl rfl ?_ | refine XK.rgnB hT hm rfl rfl rfl ?_)); refine XK.cond rfl (fun h1 => ?_) (fun h1 => ?_) <;> (try simp at h1)
  · (repeat (first | refine XK.norm rfl rfl ?_ | refine XK.rgnA hT rfl rfl rfl ?_ | refine XK.rgnB hT hm rfl rfl rfl ?_)); refine XK.region ?_; refine XL.goA hT rfl rfl rfl rfl ?_
    refine XL.callMA [20, 21, 22, 23, 24, 25] hE rfl rfl rfl rfl trivial (begin_ok k hF) rfl rfl rfl rfl rfl ?_
    refine XL.goA hT rfl rfl rfl rfl ?_; refine XL.fin ?_; (repeat (first | refine XK.norm rfl rfl ?_ | refine XK.rgnA hT rfl rfl rfl ?_ | refine XK.rgnB hT hm rfl rfl rfl ?_))
    have hb0 : beginR k = followR k l 0 := rfl
    rw [hb0]
    by_cases hl0 : 0 < l.length
    · have hY0 := hY 0 hl0 h0
      (repeat (first | refine XK.norm rfl rfl ?_ | refine XK.rgnA hT rfl rfl rfl ?_ | refine XK.rgnB hT hm rfl rfl rfl ?_)); refine XK.drawn hm ?_; refine XD.goA hT rfl rfl rfl rfl ?_
      ((refine XD.yieldM [0, 1, 2, 3, 4, 5, 6, 21, 25] hE rfl rfl rfl rfl trivial (hY0) rfl ?_ rfl ?_ rfl rfl rfl ?_); (focus (repeat' (first | exact rfl | exact AvIs.refl _ | exact trivial | (intro i hi; rfl) | exact fun _ _ => ⟨rfl, AvIs.refl _⟩ | (intro i hi; rcases i with _ | _ | _ | _ | _ | _ | _ | i <;> first | rfl | exact absurd hi (by simp; done) | (simp at hi; omega)) | refine ⟨?_, ?_⟩))); (focus (repeat' (first | exact rfl | exact AvIs.refl _ | exact trivial | (intro i hi; rfl) | exact fun _ _ => ⟨rfl, AvIs.refl _⟩ | (intro i hi; rcases i with _ | _ | _ | _ | _ | _ | _ | i <;> first | rfl | exact absurd hi (by simp; done) | (simp at hi; omega)) | refine ⟨?_, ?_⟩))))
      refine XD.goA hT rfl rfl rfl rfl ?_; refine XD.fin (by kernel_rfl) ?_; (repeat (first | refine XK.norm rfl rfl ?_ | refine XK.rgnA hT rfl rfl rfl ?_ | refine XK.rgnB hT hm rfl rfl rfl ?_))
      (repeat (first | refine XK.norm rfl rfl ?_ | refine XK.rgnA hT rfl rfl rfl ?_ | refine XK.rgnB hT hm rfl rfl rfl ?_)); refine XK.cond rfl (fun h5 => ?_) (fun h5 => ?_)
      · have h5 : (st 1).2.1 ≠ 0 := by simpa using h5
        rw [if_neg h5, hS 1 h5 l.length hl0]
        (repeat (first | refine XK.norm rfl rfl ?_ | refine XK.rgnA hT rfl rfl rfl ?_ | refine XK.rgnB hT hm rfl rfl rfl ?_))
        (first | refine XK.outR [0, 1, 2, 3, 4, 5, 6] hN rfl rfl rfl ?_ rfl rfl ?_ | refine XK.outRN [0, 1, 2, 3, 4, 5, 6] hN rfl rfl rfl ?_ rfl rfl ?_)
        · (repeat' (first | exact rfl | exact AvIs.refl _ | exact trivial | exact fun _ _ => rfl | exact fun _ _ => ⟨rfl, AvIs.refl _⟩ | refine ⟨?_, ?_⟩))
        · (repeat' (first | exact rfl | exact AvIs.refl _ | exact trivial | exact fun _ _ => rfl | exact fun _ _ => ⟨rfl, AvIs.refl _⟩ | refine ⟨?_, ?_⟩))
      · have h5 : (st 1).2.1 = 0 := by simpa using h5
        rw [if_pos h5]
        (repeat (first | refine XK.norm rfl rfl ?_ | refine XK.rgnA hT rfl rfl rfl ?_ | refine XK.rgnB hT hm rfl rfl rfl ?_))
        refine XK.loop (ι := Nat) (fun i => ST.of [(0, .fn (.yield L) [] []), (4, .ptr 20 0), (24, intsV l), (25, .c (.int .i64 l.length)), (26, .c (.int .i64 i))]
          ((0, .lrec (mk2 .ready none) b2 (mvCs k l L1)) :: (o2N k.units.length party fid mk b (st (i + 1)) ++ rdN20 k (followR k l i))) 2000 45 (fun _ => false))
          (fun i => i < l.length ∧ (st (i + 1)).2.1 = 0) (fun i => l.length - i) 0 ⟨hl0, h5⟩
          (Weak.of hN rfl rfl rfl (by (repeat' (first | exact rfl | exact AvIs.refl _ | exact trivial | exact fun _ _ => rfl | exact fun _ _ => ⟨rfl, AvIs.refl _⟩ | refine ⟨?_, ?_⟩))) (by (repeat' (first | exact rfl | exact AvIs.refl _ | exact trivial | exact fun _ _ => rfl | exact fun _ _ => ⟨rfl, AvIs.refl _⟩ | refine ⟨?_, ?_⟩)))) fun i hi => ?_
        obtain ⟨hi, hst⟩ := hi
        (repeat (first | refine XK.norm rfl rfl ?_ | refine XK.rgnA hT rfl rfl rfl ?_ | refine XK.rgnB hT hm rfl rfl rfl ?_)); refine XK.cond rfl (fun hlt => ?_) (fun hlt => ?_) <;> (try simp at hlt)
        · have hs := h3 i hi
          have hok := (followR_ok hF l i (by omega)).1
          (repeat (first | refine XK.norm rfl rfl ?_ | refine XK.rgnA hT rfl rfl rfl ?_ | refine XK.rgnB hT hm rfl rfl rfl ?_)); refine XK.region ?_; refine XL.goA hT rfl rfl rfl rfl ?_
          refine XL.callMA [20, 21, 22, 23, 24, 25] hE rfl rfl rfl rfl trivial (step_ok k hF (followR k l i) hok (l.getD i default) hs) rfl rfl rfl rfl rfl ?_
          refine XL.goA hT rfl rfl rfl rfl ?_; refine XL.fin ?_; (repeat (first | refine XK.norm rfl rfl ?_ | refine XK.rgnA hT rfl rfl rfl ?_ | refine XK.rgnB hT hm rfl rfl rfl ?_))
          have hfo : stepR k (followR k l i) (l.getD i default) = followR k l (i + 1) := rfl
          rw [hfo]
          by_cases hl1 : i + 1 < l.length
          · have hY1 := hY (i + 1) hl1 hst
            (repeat (first | refine XK.norm rfl rfl ?_ | refine XK.rgnA hT rfl rfl rfl ?_ | refine XK.rgnB hT hm rfl rfl rfl ?_)); refine XK.drawn hm ?_; refine XD.goA hT rfl rfl rfl rfl ?_
            ((refine XD.yieldM [0, 1, 2, 3, 4, 5, 6, 21, 25] hE rfl rfl rfl rfl trivial (hY1) rfl ?_ rfl ?_ rfl rfl rfl ?_); (focus (repeat' (first | exact rfl | exact AvIs.refl _ | exact trivial | (intro i hi; rfl) | exact fun _ _ => ⟨rfl, AvIs.refl _⟩ | (intro i hi; rcases i with _ | _ | _ | _ | _ | _ | _ | i <;> first | rfl | exact absurd hi (by simp; done) | (simp at hi; omega)) | refine ⟨?_, ?_⟩))); (focus (repeat' (first | exact rfl | exact AvIs.refl _ | exact trivial | (intro i hi; rfl) | exact fun _ _ => ⟨rfl, AvIs.refl _⟩ | (intro i hi; rcases i with _ | _ | _ | _ | _ | _ | _ | i <;> first | rfl | exact absurd hi (by simp; done) | (simp at hi; omega)) | refine ⟨?_, ?_⟩))))
            refine XD.goA hT rfl rfl rfl rfl ?_; refine XD.fin (by kernel_rfl) ?_; (repeat (first | refine XK.norm rfl rfl ?_ | refine XK.rgnA hT rfl rfl rfl ?_ | refine XK.rgnB hT hm rfl rfl rfl ?_))
            (repeat (first | refine XK.norm rfl rfl ?_ | refine XK.rgnA hT rfl rfl rfl ?_ | refine XK.rgnB hT hm rfl rfl rfl ?_)); refine XK.cond rfl (fun h6 => ?_) (fun h6 => ?_)
            · have h6 : (st (i + 1 + 1)).2.1 ≠ 0 := by simpa using h6
              rw [if_neg h6, hS (i + 1 + 1) h6 l.length (by omega)]
              (repeat (first | refine XK.norm rfl rfl ?_ | refine XK.rgnA hT rfl rfl rfl ?_ | refine XK.rgnB hT hm rfl rfl rfl ?_))
              (first | refine XK.outR [0, 1, 2, 3, 4, 5, 6] hN rfl rfl rfl ?_ rfl rfl ?_ | refine XK.outRN [0, 1, 2, 3, 4, 5, 6] hN rfl rfl rfl ?_ rfl rfl ?_)
              · (repeat' (first | exact rfl | exact AvIs.refl _ | exact trivial | exact fun _ _ => rfl | exact fun _ _ => ⟨rfl, AvIs.refl _⟩ | refine ⟨?_, ?_⟩))
              · (repeat' (first | exact rfl | exact AvIs.refl _ | exact trivial | exact fun _ _ => rfl | exact fun _ _ => ⟨rfl, AvIs.refl _⟩ | refine ⟨?_, ?_⟩))
            · have h6 : (st (i + 1 + 1)).2.1 = 0 := by simpa using h6
              rw [if_pos h6]
              (repeat (first | refine XK.norm rfl rfl ?_ | refine XK.rgnA hT rfl rfl rfl ?_ | refine XK.rgnB hT hm rfl rfl rfl ?_))
              exact XK.inv ⟨i + 1, ⟨hl1, h6⟩, (Weak.of hN rfl rfl rfl (by (repeat' (first | exact rfl | exact AvIs.refl _ | exact trivial | exact fun _ _ => rfl | exact fun _ _ => ⟨rfl, AvIs.refl _⟩ | refine ⟨?_, ?_⟩))) (by (repeat' (first | exact rfl | exact AvIs.refl _ | exact trivial | exact fun _ _ => rfl | exact fun _ _ => ⟨rfl, AvIs.refl _⟩ | refine ⟨?_, ?_⟩)))), by omega⟩
          · have hie : i + 1 = l.length := by omega
            rw [hie] at hst ⊢
            have hZ1 := hZ hst
            (repeat (first | refine XK.norm rfl rfl ?_ | refine XK.rgnA hT rfl rfl rfl ?_ | refine XK.rgnB hT hm rfl rfl rfl ?_)); refine XK.drawn hm ?_; refine XD.goA hT rfl rfl rfl rfl ?_
            ((refine XD.yieldM [0, 1, 2, 3, 4, 5, 6, 21, 25] hE rfl rfl rfl rfl trivial (hZ1) rfl ?_ rfl ?_ rfl rfl rfl ?_); (focus (repeat' (first | exact rfl | exact AvIs.refl _ | exact trivial | (intro i hi; rfl) | exact fun _ _ => ⟨rfl, AvIs.refl _⟩ | (intro i hi; rcases i with _ | _ | _ | _ | _ | _ | _ | i <;> first | rfl | exact absurd hi (by simp; done) | (simp at hi; omega)) | refine ⟨?_, ?_⟩))); (focus (repeat' (first | exact rfl | exact AvIs.refl _ | exact trivial | (intro i hi; rfl) | exact fun _ _ => ⟨rfl, AvIs.refl _⟩ | (intro i hi; rcases i with _ | _ | _ | _ | _ | _ | _ | i <;> first | rfl | exact absurd hi (by simp; done) | (simp at hi; omega)) | refine ⟨?_, ?_⟩))))
            refine XD.goA hT rfl rfl rfl rfl ?_; refine XD.fin (by kernel_rfl) ?_; (repeat (first | refine XK.norm rfl rfl ?_ | refine XK.rgnA hT rfl rfl rfl ?_ | refine XK.rgnB hT hm rfl rfl rfl ?_))
            (repeat (first | refine XK.norm rfl rfl ?_ | refine XK.rgnA hT rfl rfl rfl ?_ | refine XK.rgnB hT hm rfl rfl rfl ?_)); refine XK.cond rfl (fun h6 => ?_) (fun h6 => ?_) <;> (try simp at h6)
            (repeat (first | refine XK.norm rfl rfl ?_ | refine XK.rgnA hT rfl rfl rfl ?_ | refine XK.rgnB hT hm rfl rfl rfl ?_))
            (first | refine XK.outR [0, 1, 2, 3, 4, 5, 6] hN rfl rfl rfl ?_ rfl rfl ?_ | refine XK.outRN [0, 1, 2, 3, 4, 5, 6] hN rfl rfl rfl ?_ rfl rfl ?_)
            · (repeat' (first | exact rfl | exact AvIs.refl _ | exact trivial | exact fun _ _ => rfl | exact fun _ _ => ⟨rfl, AvIs.refl _⟩ | refine ⟨?_, ?_⟩))
            · (repeat' (first | exact rfl | exact AvIs.refl _ | exact trivial | exact fun _ _ => rfl | exact fun _ _ => ⟨rfl, AvIs.refl _⟩ | refine ⟨?_, ?_⟩))
        · omega
    · have hl1 : l.length = 0 := by omega
      rw [hl1] at hZ ⊢
      have hZ1 := hZ h0
      (repeat (first | refine XK.norm rfl rfl ?_ | refine XK.rgnA hT rfl rfl rfl ?_ | refine XK.rgnB hT hm rfl rfl rfl ?_)); refine XK.drawn hm ?_; refine XD.goA hT rfl rfl rfl rfl ?_
      ((refine XD.yieldM [0, 1, 2, 3, 4, 5, 6, 21, 25] hE rfl rfl rfl rfl trivial (hZ1) rfl ?_ rfl ?_ rfl rfl rfl ?_); (focus (repeat' (first | exact rfl | exact AvIs.refl _ | exact trivial | (intro i hi; rfl) | exact fun _ _ => ⟨rfl, AvIs.refl _⟩ | (intro i hi; rcases i with _ | _ | _ | _ | _ | _ | _ | i <;> first | rfl | exact absurd hi (by simp; done) | (simp at hi; omega)) | refine ⟨?_, ?_⟩))); (focus (repeat' (first | exact rfl | exact AvIs.refl _ | exact trivial | (intro i hi; rfl) | exact fun _ _ => ⟨rfl, AvIs.refl _⟩ | (intro i hi; rcases i with _ | _ | _ | _ | _ | _ | _ | i <;> first | rfl | exact absurd hi (by simp; done) | (simp at hi; omega)) | refine ⟨?_, ?_⟩))))
      refine XD.goA hT rfl rfl rfl rfl ?_; refine XD.fin (by kernel_rfl) ?_; (repeat (first | refine XK.norm rfl rfl ?_ | refine XK.rgnA hT rfl rfl rfl ?_ | refine XK.rgnB hT hm rfl rfl rfl ?_))
      (repeat (first | refine XK.norm rfl rfl ?_ | refine XK.rgnA hT rfl rfl rfl ?_ | refine XK.rgnB hT hm rfl rfl rfl ?_)); refine XK.cond rfl (fun h6 => ?_) (fun h6 => ?_) <;> (try simp at h6)
      (repeat (first | refine XK.norm rfl rfl ?_ | refine XK.rgnA hT rfl rfl rfl ?_ | refine XK.rgnB hT hm rfl rfl rfl ?_))
      (first | refine XK.outR [0, 1, 2, 3, 4, 5, 6] hN rfl rfl rfl ?_ rfl rfl ?_ | refine XK.outRN [0, 1, 2, 3, 4, 5, 6] hN rfl rfl rfl ?_ rfl rfl ?_)
      · (repeat' (first | exact rfl | exact AvIs.refl _ | exact trivial | exact fun _ _ => rfl | exact fun _ _ => ⟨rfl, AvIs.refl _⟩ | refine ⟨?_, ?_⟩))
      · (repeat' (first | exact rfl | exact AvIs.refl _ | exact trivial | exact fun _ _ => rfl | exact fun _ _ => ⟨rfl, AvIs.refl _⟩ | refine ⟨?_, ?_⟩))
end Go.Proofs.Ytiiegpjpckkohaa
end
