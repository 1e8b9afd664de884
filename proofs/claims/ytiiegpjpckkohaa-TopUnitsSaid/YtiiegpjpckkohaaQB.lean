import Derived.Test.YtiiegpjpckkohaaPZ
import Derived.Test.YtiiegpjpckkohaaPX
section
/- The law's head: w09Netted. -/
namespace Go.Proofs.Ytiiegpjpckkohaa
open Go.Eng
set_option maxRecDepth 10000
set_option linter.unusedSimpArgs false
set_option linter.unusedVariables false
def dutyK (act after : Int) : Cl := ⟨1, 0, act, 1, [], after, 0, false, true, -1, -1, (0, 1), -1, -1, false⟩
theorem w09Duty_ok (act after : Int) (h1 : inK .i64 act) (h2 : inK .i64 after) : Does Try.prog 72 [.c (.int .i64 act), .c (.int .i64 after)] (.agg (clC (dutyK act after))) := by
  refine Does.weaken (res := ?x) ?_ ?_
  rotate_left
  refine Does.mk (fun _ => false) TT_ok Try.func72 rfl (by kernel_rfl) Try.ntmps72 rfl rfl fun E hT hE hN hR => ?_
  have hm : E.P.follows .mixedOrders = true := by rw [hE]; kernel_rfl
  (repeat (first | refine XK.norm rfl rfl ?_ | refine XK.rgnA hT rfl rfl rfl ?_ | refine XK.rgnB hT hm rfl rfl rfl ?_))
  (first | refine XK.out rfl rfl rfl ?_ | refine XK.outN rfl rfl rfl ?_)
  rfl
  · refine AvS.agg ⟨AvS.refl _, AvS.refl _, AvS.refl _, AvS.refl _, AvS.nil, AvSL.refl _⟩
def owActs : List Act := [⟨1, 0, 0, -1, -1, (0, 1)⟩, ⟨1, 0, 0, -1, -1, (0, 1)⟩, ⟨1, 1, 0, -1, -1, (0, 1)⟩]
def dealC (days : Int) : List AV := [.c (.int .i64 2), .rs 1 2 (rowOf [.c (.int .i64 0), .c (.int .i64 1)] 1), .c (.slice none 0 0),
  .rs 7 3 (rowOf [.c (.int .i64 1), .c (.int .i64 0), .c (.int .i64 0), .c (.int .i64 (-1)), .c (.int .i64 (-1)), .c (.int .i64 0), .c (.int .i64 1),
    .c (.int .i64 1), .c (.int .i64 0), .c (.int .i64 0), .c (.int .i64 (-1)), .c (.int .i64 (-1)), .c (.int .i64 0), .c (.int .i64 1),
    .c (.int .i64 1), .c (.int .i64 1), .c (.int .i64 0), .c (.int .i64 (-1)), .c (.int .i64 (-1)), .c (.int .i64 0), .c (.int .i64 1)] 7), .vec 0 0, .c (.int .i64 days), .c (.slice none 0 0)]
theorem w09DealM_ok (days : Int) (hd : inK .i64 days) (n : Nat) (f : Nat → List AV) : DoesM Try.prog 71 [.c (.int .i64 days), .vec 0 0] [.vec 86 16 0 n f]
    (.agg (dealC days)) [.vec 86 16 0 n f, .cells 27 (dealC days)] := by
  refine DoesM.mk (fun _ => false) 100 TT_ok Try.func71 rfl (by kernel_rfl) Try.ntmps71 rfl rfl rfl fun E hT hE hN hR => ?_
  have hm : E.P.follows .mixedOrders = true := by rw [hE]; kernel_rfl
  (repeat (first | refine XK.norm rfl rfl ?_ | refine XK.rgnA hT rfl rfl rfl ?_ | refine XK.rgnB hT hm rfl rfl rfl ?_))
  (first | refine XK.outR [0, 104] hN rfl rfl rfl ?_ rfl rfl ?_ | refine XK.outRN [0, 104] hN rfl rfl rfl ?_ rfl rfl ?_)
  · exact ⟨⟨⟨rfl, rfl, rfl⟩, rfl, fun _ _ => rfl⟩, rfl, rfl⟩
  · exact rfl
def owK : K :=
  { parties := 2, holders := [0, 1], units := [⟨⟨#[69, 85, 82]⟩, 2, 0, (1, 1)⟩, ⟨⟨#[99, 116]⟩, 2, 0, (1, 100)⟩], acts := owActs,
    clauses := [⟨1, 0, 0, 1, [], 1, 0, false, true, -1, -1, (10, 1), 0, 1, false⟩, ⟨1, 1, 2, 1, [], 2, 0, false, true, -1, -1, (400, 1), 1, 0, false⟩], days := 9, off := [] }
theorem owK_W : kW owK := by
  simp [kW, owK, owActs, inK, uW, actW, clW, qW]
def owT : Tm := ⟨0, (1, 10), (-1, 1)⟩
theorem owT_W : tmW owT := by simp [tmW, owT, inK, qW]
theorem ow_d1 : damagesR owK [-1, -1] owT 0 1 3 = (⟨0, (12, 1)⟩, 0) := Prod.ext (A.ext2 (by decide +kernel) (by decide +kernel)) (by decide +kernel)
theorem ow_d2 : damagesR owK [-1, -1] owT 1 0 3 = (⟨0, (22, 5)⟩, 0) := Prod.ext (A.ext2 (by decide +kernel) (by decide +kernel)) (by decide +kernel)
def owD : List Db := [⟨0, 1, (12, 1)⟩, ⟨1, 0, (22, 5)⟩]
theorem ow_net : netR 2 (fun i => owD.getD i default) 2 = ([⟨0, 1, (38, 5)⟩], 0) := by kernel_rfl
theorem owing_ok : Does Try.prog 43 [] (kV owK) := by
  refine Does.weaken (res := ?x) ?_ ?_
  rotate_left
  refine Does.mk (fun d => Nat.beq d 6) TT_ok Try.func43 rfl (by kernel_rfl) Try.ntmps43 rfl rfl fun E hT hE hN hR => ?_
  have hm : E.P.follows .mixedOrders = true := by rw [hE]; kernel_rfl
  (repeat (first | refine XK.norm rfl rfl ?_ | refine XK.rgnA hT rfl rfl rfl ?_ | refine XK.rgnB hT hm rfl rfl rfl ?_)); refine XK.region ?_; refine XL.goA hT rfl rfl rfl rfl ?_
  refine XL.callKA hE rfl rfl rfl rfl trivial rfl rfl (w09Duty_ok 0 1 (by simp [inK]) (by simp [inK])) ?_
  refine XL.goA hT rfl rfl rfl rfl ?_
  refine XL.callKA hE rfl rfl rfl rfl trivial rfl rfl (w09Duty_ok 2 2 (by simp [inK]) (by simp [inK])) ?_
  refine XL.goA hT rfl rfl rfl rfl ?_
  refine XL.callMA [96, 701] hE rfl rfl rfl rfl trivial (w09DealM_ok 9 (by simp [inK]) _ _) rfl rfl rfl rfl rfl ?_
  refine XL.goA hT rfl rfl rfl rfl ?_; refine XL.fin ?_; (repeat (first | refine XK.norm rfl rfl ?_ | refine XK.rgnA hT rfl rfl rfl ?_ | refine XK.rgnB hT hm rfl rfl rfl ?_))
  refine XK.weak (Weak.frozen (k := 96) hN rfl rfl) ?_
  (repeat (first | refine XK.norm rfl rfl ?_ | refine XK.rgnA hT rfl rfl rfl ?_ | refine XK.rgnB hT hm rfl rfl rfl ?_))
  (first | refine XK.out rfl rfl rfl ?_ | refine XK.outN rfl rfl rfl ?_)
  rfl
  · refine AvS.agg ⟨AvS.refl _, AvS.rs (fun i hi => ?_), AvS.rs (fun i hi => ?_), AvS.rs (fun i hi => ?_), AvS.rs (fun i hi => ?_), AvS.refl _, AvS.nil, trivial⟩
    · rcases i with _ | _ | i <;> first | exact AvSL.refl _ | omega
    · rcases i with _ | _ | i <;> first | exact AvSL.refl _ | omega
    · rcases i with _ | _ | _ | i <;> first | exact AvSL.refl _ | omega
    · rcases i with _ | _ | i <;> first | exact AvSL.refl _ | omega
theorem netted_ok : Does Try.prog 15 [] (.c (.bool true)) := by
  refine Does.mk (fun _ => false) TT_ok Try.func15 rfl (by kernel_rfl) Try.ntmps15 rfl rfl fun E hT hE hN hR => ?_
  have hm : E.P.follows .mixedOrders = true := by rw [hE]; kernel_rfl
  (repeat (first | refine XK.norm rfl rfl ?_ | refine XK.rgnA hT rfl rfl rfl ?_ | refine XK.rgnB hT hm rfl rfl rfl ?_)); refine XK.region ?_; refine XL.goA hT rfl rfl rfl rfl ?_
  refine XL.callKA hE rfl rfl rfl rfl trivial rfl rfl (owing_ok) ?_
  refine XL.goA hT rfl rfl rfl rfl ?_; refine XL.fin ?_; (repeat (first | refine XK.norm rfl rfl ?_ | refine XK.rgnA hT rfl rfl rfl ?_ | refine XK.rgnB hT hm rfl rfl rfl ?_))
  (repeat (first | refine XK.norm rfl rfl ?_ | refine XK.rgnA hT rfl rfl rfl ?_ | refine XK.rgnB hT hm rfl rfl rfl ?_)); refine XK.region ?_; refine XL.goA hT rfl rfl rfl rfl ?_
  refine XL.callLA hE rfl rfl rfl rfl trivial rfl (damages_ok owK owK_W [-1, -1] owT owT_W 0 1 3) rfl ?_
  rw [ow_d1]
  refine XL.goA hT rfl rfl rfl rfl ?_; refine XL.fin ?_; (repeat (first | refine XK.norm rfl rfl ?_ | refine XK.rgnA hT rfl rfl rfl ?_ | refine XK.rgnB hT hm rfl rfl rfl ?_))
  (repeat (first | refine XK.norm rfl rfl ?_ | refine XK.rgnA hT rfl rfl rfl ?_ | refine XK.rgnB hT hm rfl rfl rfl ?_)); refine XK.region ?_; refine XL.goA hT rfl rfl rfl rfl ?_
  refine XL.callLA hE rfl rfl rfl rfl trivial rfl (damages_ok owK owK_W [-1, -1] owT owT_W 1 0 3) rfl ?_
  rw [ow_d2]
  refine XL.goA hT rfl rfl rfl rfl ?_; refine XL.fin ?_; (repeat (first | refine XK.norm rfl rfl ?_ | refine XK.rgnA hT rfl rfl rfl ?_ | refine XK.rgnB hT hm rfl rfl rfl ?_))
  (repeat (first | refine XK.norm rfl rfl ?_ | refine XK.rgnA hT rfl rfl rfl ?_ | refine XK.rgnB hT hm rfl rfl rfl ?_)); refine XK.region ?_; refine XL.goA hT rfl rfl rfl rfl ?_
  have nk := net_ok 2 2 (fun i => owD.getD i default) (fun i hi => by rcases i with _ | _ | i <;> first | (simp [owD, dbW, inK, qW]; done) | omega)
  rw [ow_net] at nk
  refine XL.callKA hE rfl rfl rfl rfl trivial rfl rfl (nk) ?_
  refine XL.goA hT rfl rfl rfl rfl ?_; refine XL.fin ?_; (repeat (first | refine XK.norm rfl rfl ?_ | refine XK.rgnA hT rfl rfl rfl ?_ | refine XK.rgnB hT hm rfl rfl rfl ?_))
  (repeat (first | refine XK.norm rfl rfl ?_ | refine XK.rgnA hT rfl rfl rfl ?_ | refine XK.rgnB hT hm rfl rfl rfl ?_)); refine XK.cond rfl (fun h => ?_) (fun h => ?_)
  · exact absurd h (by decide)
  · (repeat (first | refine XK.norm rfl rfl ?_ | refine XK.rgnA hT rfl rfl rfl ?_ | refine XK.rgnB hT hm rfl rfl rfl ?_))
    (first | refine XK.out rfl rfl rfl ?_ | refine XK.outN rfl rfl rfl ?_)
    refine cB ?_
    kernel_rfl
end Go.Proofs.Ytiiegpjpckkohaa
end
