import Derived.Test.YtofdehlikigonaaGreatH6
import Derived.Test.YtofdehlikigonaaGreatH8
section
/- The head of the laws of layer 27: its examples. -/
namespace Go.Proofs.YtofdehlikigonaaGreat
open Go.Eng
set_option maxRecDepth 10000
set_option linter.unusedSimpArgs false
set_option linter.unusedVariables false
def exC27 : Cl := ⟨1, 0, 0, 2, [], 5, 0, false, false, -1, -1, (0, 1), -1, -1, false⟩
def exK27 : K := ⟨1, [0], [], [⟨1, 0, 0, -1, -1, (0, 1)⟩], [exC27], 9, []⟩
def exS27 : St := ⟨2, [0], [false], [⟨1, 3, 1, 0, false⟩]⟩
def exOne : Cl := { exC27 with need := 1 }
def exOpt : Cl := { exC27 with kind := 3, need := 1, after := 4 }
theorem sample27_ok : Does Tryz.prog 22 [] (.tup [kV exK27, stV exS27]) := by
  refine Does.weaken (res := ?x) ?_ ?_
  rotate_left
  refine Does.mk (fun _ => false) TT_ok Tryz.func22 rfl (by kernel_rfl) Tryz.ntmps22 rfl rfl fun E hT hE hN hR => ?_
  have hm : E.P.follows .mixedOrders = true := by rw [hE]; kernel_rfl
  (repeat (first | refine XK.norm rfl rfl ?_ | refine XK.rgnA hT rfl rfl rfl ?_ | refine XK.rgnB hT hm rfl rfl rfl ?_))
  (first | refine XK.out rfl rfl rfl ?_ | refine XK.outN rfl rfl rfl ?_)
  rfl
  · refine AvS.tupS ⟨AvS.agg ⟨AvS.refl _, AvS.rs (fun i hi => ?_), AvS.nil, AvS.rs (fun i hi => ?_), AvS.rs (fun i hi => ?_), AvS.refl _, AvS.nil, trivial⟩, AvS.agg ⟨AvS.refl _, AvS.rs (fun i hi => ?_), AvS.rs (fun i hi => ?_), AvS.rs (fun i hi => ?_), trivial⟩, trivial⟩
    · cases Nat.lt_one_iff.1 hi; exact AvSL.refl _
    · cases Nat.lt_one_iff.1 hi; exact AvSL.refl _
    · cases Nat.lt_one_iff.1 hi
      exact ⟨AvS.refl _, AvS.refl _, AvS.refl _, AvS.refl _, AvS.nil, AvS.refl _, AvS.refl _, AvS.refl _, AvS.refl _, AvS.refl _, AvS.refl _, AvS.refl _, AvS.refl _, AvS.refl _, AvS.refl _, AvS.refl _, trivial⟩
    · cases Nat.lt_one_iff.1 hi; exact AvSL.refl _
    · cases Nat.lt_one_iff.1 hi; exact AvSL.refl _
    · cases Nat.lt_one_iff.1 hi; exact AvSL.refl _
theorem exC27_W : clW exC27 := by simp [exC27, inK, clW, qW]
theorem exK27_W : kW exK27 := by simp [kW, exK27, exC27, inK, clW, actW, qW]
theorem after27_ok (p : Pt) (hp : ptW p) (hc : p.clauses.length ≤ 1000000) (hs : p.new.start.length ≤ 1000000) {m : Mk} (h1 : (migrateR exK27 p exS27).2 = 0) (h2 : (migrateR exK27 p exS27).1.marks.length = 1) (h3 : (migrateR exK27 p exS27).1.marks.getD 0 default = m) :
    Does Tryz.prog 23 [ptV p] (.agg (mkC m)) := by
  have hm' := migrate_ok exK27 exK27_W p hp hc hs exS27
  generalize migrateR exK27 p exS27 = r at *
  obtain ⟨⟨d, hs, us, ms⟩, e⟩ := r
  dsimp only at h1 h2 h3
  subst h1 h3
  refine Does.mk (fun _ => false) TT_ok Tryz.func23 rfl (by kernel_rfl) Tryz.ntmps23 rfl rfl fun E hT hE hN hR => ?_
  have hm : E.P.follows .mixedOrders = true := by rw [hE]; kernel_rfl
  (repeat (first | refine XK.norm rfl rfl ?_ | refine XK.rgnA hT rfl rfl rfl ?_ | refine XK.rgnB hT hm rfl rfl rfl ?_))
  (repeat (first | refine XK.norm rfl rfl ?_ | refine XK.rgnA hT rfl rfl rfl ?_ | refine XK.rgnB hT hm rfl rfl rfl ?_)); refine XK.region ?_; refine XL.goA hT rfl rfl rfl rfl ?_
  refine XL.callKA hE rfl rfl rfl rfl trivial rfl rfl (sample27_ok) ?_
  refine XL.goA hT rfl rfl rfl rfl ?_; refine XL.fin ?_; (repeat (first | refine XK.norm rfl rfl ?_ | refine XK.rgnA hT rfl rfl rfl ?_ | refine XK.rgnB hT hm rfl rfl rfl ?_))
  (repeat (first | refine XK.norm rfl rfl ?_ | refine XK.rgnA hT rfl rfl rfl ?_ | refine XK.rgnB hT hm rfl rfl rfl ?_))
  (repeat (first | refine XK.norm rfl rfl ?_ | refine XK.rgnA hT rfl rfl rfl ?_ | refine XK.rgnB hT hm rfl rfl rfl ?_)); refine XK.region ?_; refine XL.goA hT rfl rfl rfl rfl ?_
  refine XL.callKA hE rfl rfl rfl rfl trivial rfl rfl (hm') ?_
  refine XL.goA hT rfl rfl rfl rfl ?_; refine XL.fin ?_; (repeat (first | refine XK.norm rfl rfl ?_ | refine XK.rgnA hT rfl rfl rfl ?_ | refine XK.rgnB hT hm rfl rfl rfl ?_))
  (repeat (first | refine XK.norm rfl rfl ?_ | refine XK.rgnA hT rfl rfl rfl ?_ | refine XK.rgnB hT hm rfl rfl rfl ?_)); refine XK.cond rfl (fun h4 => ?_) (fun h4 => ?_)
  · exfalso
    dsimp only at h4
    rw [h2] at h4
    cases h4
  clear h4
  (repeat (first | refine XK.norm rfl rfl ?_ | refine XK.rgnA hT rfl rfl rfl ?_ | refine XK.rgnB hT hm rfl rfl rfl ?_))
  (first | refine XK.out rfl rfl rfl ?_ | refine XK.outN rfl rfl rfl ?_)
  rfl
/-- A patch of one clause, without a new clause. -/
def row0 : AV := .rs 1 1 (rowOf [.c (.int .i64 0)] 1)
theorem row0_is : AvS row0 (intsV [0]) := AvS.rs (fun i hi => by cases Nat.lt_one_iff.1 hi; exact AvSL.refl _)
def rawPt (kind days : Int) : AV := .agg [.c (.int .i64 kind), row0, .c (.int .i64 0), .c (.int .i64 0), .c (.int .i64 0), .c (.int .i64 0), .c (.slice none 0 0), .c (.int .i64 0), .c (.int .i64 0), .c (.bool false), .c (.bool false), .c (.int .i64 0), .c (.int .i64 0), .c (.int .i64 0), .c (.int .i64 0), .c (.int .i64 0), .c (.int .i64 0), .c (.bool false), .c (.int .i64 days)]
def onePt (kind days : Int) : Pt := ⟨kind, [0], default, days⟩
theorem rawPt_is (kind days : Int) : AvS (rawPt kind days) (ptV (onePt kind days)) :=
  AvS.agg ⟨AvS.refl _, row0_is, AvS.refl _, AvS.refl _, AvS.refl _, AvS.refl _, AvS.nil, AvS.refl _, AvS.refl _, AvS.refl _, AvS.refl _, AvS.refl _, AvS.refl _, AvS.refl _, AvS.refl _, AvS.refl _, AvS.refl _, AvS.refl _, AvS.refl _, trivial⟩
theorem zeroCl_W : clW default := by
  refine ⟨?_, ?_, ?_, ?_, fun x hx => (by cases hx), ?_, ?_, ?_, ?_, ⟨?_, ?_⟩, ?_, ?_⟩ <;> (show _ ≤ _ ∧ _ ≤ _; decide)
theorem onePt_W (kind days : Int) (h1 : inK .i64 kind) (h2 : inK .i64 days) : ptW (onePt kind days) := ⟨h1, by simp [onePt, inK], zeroCl_W, h2⟩
theorem afterRaw (kind days : Int) (h1 : inK .i64 kind) (h2 : inK .i64 days) {m : Mk} (e1 : (migrateR exK27 (onePt kind days) exS27).2 = 0) (e2 : (migrateR exK27 (onePt kind days) exS27).1.marks.length = 1) (e3 : (migrateR exK27 (onePt kind days) exS27).1.marks.getD 0 default = m) :
    Does Tryz.prog 23 [rawPt kind days] (.agg (mkC m)) :=
  (after27_ok (onePt kind days) (onePt_W kind days h1 h2) (by simp [onePt]) (by show ([] : List Cnd).length ≤ _; simp) e1 e2 e3).argS ⟨rawPt_is kind days, trivial⟩
theorem af1 : Does Tryz.prog 23 [rawPt 5 8] (.agg (mkC ⟨1, 6, 1, 0, false⟩)) := afterRaw 5 8 (by simp [inK]) (by simp [inK]) (by decide +kernel) (by decide +kernel) (by kernel_rfl)
theorem af2 : Does Tryz.prog 23 [rawPt 5 1] (.agg (mkC ⟨1, 1, 1, 0, false⟩)) := afterRaw 5 1 (by simp [inK]) (by simp [inK]) (by decide +kernel) (by decide +kernel) (by kernel_rfl)
theorem af5 : Does Tryz.prog 23 [rawPt 3 0] (.agg (mkC ⟨5, 0, 1, 0, false⟩)) := afterRaw 3 0 (by simp [inK]) (by simp [inK]) (by decide +kernel) (by decide +kernel) (by kernel_rfl)
def newPt (x : Cl) : AV := .agg [.c (.int .i64 2), row0, .c (.int .i64 x.kind), .c (.int .i64 x.role), .c (.int .i64 x.act), .c (.int .i64 x.need), cndsV x.start, .c (.int .i64 x.after), .c (.int .i64 x.grace), .c (.bool x.business), .c (.bool x.final), .c (.int .i64 x.pause), .c (.int .i64 x.resume), .c (.int .i64 x.value.1), .c (.int .i64 x.value.2), .c (.int .i64 x.unit), .c (.int .i64 x.to), .c (.bool x.waived), .c (.int .i64 0)]
theorem newPt_is (x : Cl) : AvS (newPt x) (ptV ⟨2, [0], x, 0⟩) :=
  AvS.agg ⟨AvS.refl _, row0_is, AvS.refl _, AvS.refl _, AvS.refl _, AvS.refl _, AvS.refl _, AvS.refl _, AvS.refl _, AvS.refl _, AvS.refl _, AvS.refl _, AvS.refl _, AvS.refl _, AvS.refl _, AvS.refl _, AvS.refl _, AvS.refl _, AvS.refl _, trivial⟩
theorem af3 : Does Tryz.prog 23 [newPt exOne] (.agg (mkC ⟨3, 0, 1, 0, false⟩)) :=
  (after27_ok ⟨2, [0], exOne, 0⟩ ⟨by simp [inK], by simp [inK], by simp [exOne, exC27, inK, clW, qW], by simp [inK]⟩ (by simp) (by simp [exOne, exC27]) (by decide +kernel) (by decide +kernel) (by kernel_rfl)).argS ⟨newPt_is _, trivial⟩
theorem af4 : Does Tryz.prog 23 [newPt exOpt] (.agg (mkC ⟨1, 4, 0, 0, false⟩)) :=
  (after27_ok ⟨2, [0], exOpt, 0⟩ ⟨by simp [inK], by simp [inK], by simp [exOpt, exC27, inK, clW, qW], by simp [inK]⟩ (by simp) (by simp [exOpt, exC27]) (by decide +kernel) (by decide +kernel) (by kernel_rfl)).argS ⟨newPt_is _, trivial⟩
end Go.Proofs.YtofdehlikigonaaGreat
end
section
/- The head of the laws of layer 27: it returns true. -/
namespace Go.Proofs.YtofdehlikigonaaGreat
open Go.Eng
set_option maxRecDepth 10000
set_option linter.unusedSimpArgs false
set_option linter.unusedVariables false
def exAm27 : List Am := [⟨1, 2, 0, onePt 5 7⟩]
def rawAm : List AV := [.c (.int .i64 1), .c (.int .i64 2), .c (.int .i64 0), .c (.int .i64 5), row0, .c (.int .i64 0), .c (.int .i64 0), .c (.int .i64 0), .c (.int .i64 0), .c (.slice none 0 0), .c (.int .i64 0), .c (.int .i64 0), .c (.bool false), .c (.bool false), .c (.int .i64 0), .c (.int .i64 0), .c (.int .i64 0), .c (.int .i64 0), .c (.int .i64 0), .c (.int .i64 0), .c (.bool false), .c (.int .i64 7)]
theorem rawAm_is : AvS (.rs 22 1 (fun _ => rawAm)) (amsV exAm27) := by
  refine AvS.rs (fun i hi => ?_)
  cases Nat.lt_one_iff.1 hi
  exact ⟨AvS.refl _, AvS.refl _, AvS.refl _, AvS.refl _, row0_is, AvS.refl _, AvS.refl _, AvS.refl _, AvS.refl _, AvS.nil, AvS.refl _, AvS.refl _, AvS.refl _, AvS.refl _, AvS.refl _, AvS.refl _, AvS.refl _, AvS.refl _, AvS.refl _, AvS.refl _, AvS.refl _, AvS.refl _, trivial⟩
theorem exAm27_gd : amGd exAm27 := by
  intro a ha
  have : a = ⟨1, 2, 0, onePt 5 7⟩ := by simpa [exAm27] using ha
  subst this
  exact ⟨⟨by simp [inK], by simp [inK], by simp [inK], onePt_W 5 7 (by simp [inK]) (by simp [inK])⟩, by simp [onePt], by show ([] : List Cnd).length ≤ _; simp⟩
theorem rx1 : (runR exK27 exAm27 0 [-1, 0, -1]).2 = 0 ∧ (runR exK27 exAm27 0 [-1, 0, -1]).1.1.length = 4 ∧ (runR exK27 exAm27 0 [-1, 0, -1]).1.2.length = 4 := by decide +kernel
theorem rx2 : ((runR exK27 exAm27 0 [-1, 0, -1]).1.1.getD 2 default).clauses.length = 1 ∧ (((runR exK27 exAm27 0 [-1, 0, -1]).1.1.getD 2 default).clauses.getD 0 default).after = 5 ∧ ((runR exK27 exAm27 0 [-1, 0, -1]).1.1.getD 3 default).clauses.length = 1 ∧ (((runR exK27 exAm27 0 [-1, 0, -1]).1.1.getD 3 default).clauses.getD 0 default).after = 7 ∧ ((runR exK27 exAm27 0 [-1, 0, -1]).1.2.getD 3 default).marks.length = 1 := by decide +kernel
theorem rx3 : ((runR exK27 exAm27 0 [-1, 0, -1]).1.2.getD 3 default).marks.getD 0 default = ⟨1, 5, 1, 0, false⟩ := by kernel_rfl
theorem head27_ok : Does Tryz.prog 8 [] (.c (.bool true)) := by
  have hr := (run_ok exK27 exK27_W exAm27 exAm27_gd 0 [-1, 0, -1]).argS (args' := [kV exK27, .rs 22 1 (fun _ => rawAm), .c (.int .i64 0), intsV [-1, 0, -1]]) ⟨AvS.refl _, rawAm_is, AvS.refl _, AvS.refl _, trivial⟩
  obtain ⟨a1, a2, a3⟩ := rx1
  obtain ⟨b1, b2, b3, b4, b5⟩ := rx2
  have b6 := rx3
  generalize runR exK27 exAm27 0 [-1, 0, -1] = r at *
  obtain ⟨⟨cs, ss⟩, e⟩ := r
  simp only at a1 a2 a3 b1 b2 b3 b4 b5 b6
  subst a1
  refine Does.mk (fun _ => false) TT_ok Tryz.func8 rfl (by kernel_rfl) Tryz.ntmps8 rfl rfl fun E hT hE hN hR => ?_
  have hm : E.P.follows .mixedOrders = true := by rw [hE]; kernel_rfl
  (repeat (first | refine XK.norm rfl rfl ?_ | refine XK.rgnA hT rfl rfl rfl ?_ | refine XK.rgnB hT hm rfl rfl rfl ?_))
  (repeat (first | refine XK.norm rfl rfl ?_ | refine XK.rgnA hT rfl rfl rfl ?_ | refine XK.rgnB hT hm rfl rfl rfl ?_)); refine XK.region ?_; refine XL.goA hT rfl rfl rfl rfl ?_
  refine XL.callKA hE rfl rfl rfl rfl trivial rfl rfl (sample27_ok) ?_
  refine XL.goA hT rfl rfl rfl rfl ?_; refine XL.fin ?_; (repeat (first | refine XK.norm rfl rfl ?_ | refine XK.rgnA hT rfl rfl rfl ?_ | refine XK.rgnB hT hm rfl rfl rfl ?_))
  have hex : exK27.clauses.length = 1 := rfl
  (repeat (first | refine XK.norm rfl rfl ?_ | refine XK.rgnA hT rfl rfl rfl ?_ | refine XK.rgnB hT hm rfl rfl rfl ?_))
  refine XK.weak (st' := ST.of [(1, .ptr 127 0), (3, .ptr 255 0), (4, .ptr 256 0)] [(127, .cells 27 (kC exK27)), (255, .cells 32 (clC exOne)), (256, .cells 32 (clC exOpt))] 1000 126 (fun _ => false)) (Weak.of hN rfl rfl rfl (by (repeat' (first | exact rfl | exact AvIs.refl _ | exact trivial | exact fun _ _ => rfl | exact fun _ _ => ⟨rfl, AvIs.refl _⟩ | refine ⟨?_, ?_⟩))) (by (repeat' (first | exact rfl | exact AvIs.refl _ | exact trivial | exact fun _ _ => rfl | exact fun _ _ => ⟨rfl, AvIs.refl _⟩ | refine ⟨?_, ?_⟩)))) ?_
  (repeat (first | refine XK.norm rfl rfl ?_ | refine XK.rgnA hT rfl rfl rfl ?_ | refine XK.rgnB hT hm rfl rfl rfl ?_)); refine XK.region ?_; refine XL.goA hT rfl rfl rfl rfl ?_
  refine XL.callKA hE rfl rfl rfl rfl trivial rfl rfl (af1) ?_
  refine XL.goA hT rfl rfl rfl rfl ?_; refine XL.fin ?_; (repeat (first | refine XK.norm rfl rfl ?_ | refine XK.rgnA hT rfl rfl rfl ?_ | refine XK.rgnB hT hm rfl rfl rfl ?_))
  (repeat (first | refine XK.norm rfl rfl ?_ | refine XK.rgnA hT rfl rfl rfl ?_ | refine XK.rgnB hT hm rfl rfl rfl ?_)); refine XK.region ?_; refine XL.goA hT rfl rfl rfl rfl ?_
  refine XL.callKA hE rfl rfl rfl rfl trivial rfl rfl (af2) ?_
  refine XL.goA hT rfl rfl rfl rfl ?_; refine XL.fin ?_; (repeat (first | refine XK.norm rfl rfl ?_ | refine XK.rgnA hT rfl rfl rfl ?_ | refine XK.rgnB hT hm rfl rfl rfl ?_))
  (repeat (first | refine XK.norm rfl rfl ?_ | refine XK.rgnA hT rfl rfl rfl ?_ | refine XK.rgnB hT hm rfl rfl rfl ?_)); refine XK.region ?_; refine XL.goA hT rfl rfl rfl rfl ?_
  refine XL.callKA hE rfl rfl rfl rfl trivial rfl rfl (af3) ?_
  refine XL.goA hT rfl rfl rfl rfl ?_; refine XL.fin ?_; (repeat (first | refine XK.norm rfl rfl ?_ | refine XK.rgnA hT rfl rfl rfl ?_ | refine XK.rgnB hT hm rfl rfl rfl ?_))
  (repeat (first | refine XK.norm rfl rfl ?_ | refine XK.rgnA hT rfl rfl rfl ?_ | refine XK.rgnB hT hm rfl rfl rfl ?_)); refine XK.region ?_; refine XL.goA hT rfl rfl rfl rfl ?_
  refine XL.callKA hE rfl rfl rfl rfl trivial rfl rfl (af4) ?_
  refine XL.goA hT rfl rfl rfl rfl ?_; refine XL.fin ?_; (repeat (first | refine XK.norm rfl rfl ?_ | refine XK.rgnA hT rfl rfl rfl ?_ | refine XK.rgnB hT hm rfl rfl rfl ?_))
  (repeat (first | refine XK.norm rfl rfl ?_ | refine XK.rgnA hT rfl rfl rfl ?_ | refine XK.rgnB hT hm rfl rfl rfl ?_)); refine XK.region ?_; refine XL.goA hT rfl rfl rfl rfl ?_
  refine XL.callKA hE rfl rfl rfl rfl trivial rfl rfl (af5) ?_
  refine XL.goA hT rfl rfl rfl rfl ?_; refine XL.fin ?_; (repeat (first | refine XK.norm rfl rfl ?_ | refine XK.rgnA hT rfl rfl rfl ?_ | refine XK.rgnB hT hm rfl rfl rfl ?_))
  refine XK.weak (st' := ST.of [(1, .ptr 127 0), (5, .ptr 1005 0), (6, .ptr 1132 0), (7, .ptr 1259 0), (8, .ptr 1386 0), (9, .ptr 1513 0), (10, .rs 22 1 (fun _ => rawAm))] [(127, .cells 27 (kC exK27)), (1005, .cells 47 (mkC ⟨1, 6, 1, 0, false⟩)), (1132, .cells 47 (mkC ⟨1, 1, 1, 0, false⟩)), (1259, .cells 47 (mkC ⟨3, 0, 1, 0, false⟩)), (1386, .cells 47 (mkC ⟨1, 4, 0, 0, false⟩)), (1513, .cells 47 (mkC ⟨5, 0, 1, 0, false⟩))] 3000 126 (fun _ => false))
    (Weak.of hN rfl rfl rfl (by (repeat' (first | exact rfl | exact AvIs.refl _ | exact trivial | exact fun _ _ => rfl | exact fun _ _ => ⟨rfl, AvIs.refl _⟩ | exact cI (by omega) | exact (fun i hi => by cases Nat.lt_one_iff.1 hi; rfl) | refine ⟨?_, ?_⟩))) (by (repeat' (first | exact rfl | exact AvIs.refl _ | exact trivial | exact fun _ _ => rfl | exact fun _ _ => ⟨rfl, AvIs.refl _⟩ | refine ⟨?_, ?_⟩)))) ?_
  (repeat (first | refine XK.norm rfl rfl ?_ | refine XK.rgnA hT rfl rfl rfl ?_ | refine XK.rgnB hT hm rfl rfl rfl ?_)); refine XK.region ?_; refine XL.goA hT rfl rfl rfl rfl ?_
  refine XL.callKA hE rfl rfl rfl rfl trivial rfl rfl (hr) ?_
  refine XL.goA hT rfl rfl rfl rfl ?_; refine XL.fin ?_; (repeat (first | refine XK.norm rfl rfl ?_ | refine XK.rgnA hT rfl rfl rfl ?_ | refine XK.rgnB hT hm rfl rfl rfl ?_))
  clear hr
  (repeat (first | refine XK.norm rfl rfl ?_ | refine XK.rgnA hT rfl rfl rfl ?_ | refine XK.rgnB hT hm rfl rfl rfl ?_)); refine XK.cond rfl (fun h1 => ?_) (fun h1 => ?_)
  · exfalso
    dsimp only at h1
    rw [a2, a3] at h1
    cases h1
  clear h1
  have z2 : cs.getD (Int.toNat 2) default = cs.getD 2 default := rfl
  have z3 : cs.getD (Int.toNat 3) default = cs.getD 3 default := rfl
  have y3 : ss.getD (Int.toNat 3) default = ss.getD 3 default := rfl
  have c2 : ((cs.getD (Int.toNat 2) default).clauses.getD (Int.toNat 0) default).after = 5 := b2
  have c4 : ((cs.getD (Int.toNat 3) default).clauses.getD (Int.toNat 0) default).after = 7 := b4
  have c6 : (ss.getD (Int.toNat 3) default).marks.getD (Int.toNat 0) default = ⟨1, 5, 1, 0, false⟩ := b6
  (repeat (first | refine XK.norm rfl rfl ?_ | refine XK.rgnA hT rfl rfl rfl ?_ | refine XK.rgnB hT hm rfl rfl rfl ?_))
  (first | refine XK.out rfl rfl rfl ?_ | refine XK.outN rfl rfl rfl ?_)
  simp only [c2, c4, c6]
  rfl
end Go.Proofs.YtofdehlikigonaaGreat
end
