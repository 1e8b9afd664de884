/- The law RemedySetOff: the walk. -/
import Derived.Test.YtiiegpjpckkohaaPR
namespace Go.Proofs.Ytiiegpjpckkohaa
open Go.Eng
set_option maxRecDepth 10000
set_option linter.unusedSimpArgs false
set_option linter.unusedVariables false
def nudeT (unit : Int) : Tm := ⟨unit, (0, 1), (-1, 1)⟩
theorem nudeT_v (unit : Int) : validT (nudeT unit) = true := validT_iff.2 ⟨show qOk (0, 1) = true by decide, show qOk (-1, 1) = true by decide, show (0 : Int) ≤ 0 by decide⟩
theorem lawE (k : K) (hk : kW k) (l : List Int) (a b unit : Int) (hu : inK .i64 unit) : Does Try.prog 14 [kV k, intsV l, .c (.int .i64 a), .c (.int .i64 b), .c (.int .i64 unit)] (.c (.bool true)) := by
  refine Does.mk (fun _ => false) TT_ok Try.func14 rfl (by kernel_rfl) Try.ntmps14 rfl rfl fun E hT hE hN hR => ?_
  have hm : E.P.follows .mixedOrders = true := by rw [hE]; kernel_rfl
  (repeat (first | refine XK.norm rfl rfl ?_ | refine XK.rgnA hT rfl rfl rfl ?_ | refine XK.rgnB hT hm rfl rfl rfl ?_)); refine XK.region ?_; refine XL.goA hT rfl rfl rfl rfl ?_
  refine XL.callLA hE rfl rfl rfl rfl trivial rfl (head41_ok) rfl ?_
  refine XL.goA hT rfl rfl rfl rfl ?_; refine XL.fin ?_; (repeat (first | refine XK.norm rfl rfl ?_ | refine XK.rgnA hT rfl rfl rfl ?_ | refine XK.rgnB hT hm rfl rfl rfl ?_))
  (repeat (first | refine XK.norm rfl rfl ?_ | refine XK.rgnA hT rfl rfl rfl ?_ | refine XK.rgnB hT hm rfl rfl rfl ?_)); refine XK.region ?_; refine XL.goA hT rfl rfl rfl rfl ?_
  refine XL.callLA hE rfl rfl rfl rfl trivial rfl (smallK_ok k l) rfl ?_
  refine XL.goA hT rfl rfl rfl rfl ?_; refine XL.fin ?_; (repeat (first | refine XK.norm rfl rfl ?_ | refine XK.rgnA hT rfl rfl rfl ?_ | refine XK.rgnB hT hm rfl rfl rfl ?_))
  (repeat (first | refine XK.norm rfl rfl ?_ | refine XK.rgnA hT rfl rfl rfl ?_ | refine XK.rgnB hT hm rfl rfl rfl ?_)); refine XK.cond rfl (fun hs => ?_) (fun hs => ?_) <;> (try simp at hs)
  · (repeat (first | refine XK.norm rfl rfl ?_ | refine XK.rgnA hT rfl rfl rfl ?_ | refine XK.rgnB hT hm rfl rfl rfl ?_))
    (first | refine XK.out rfl rfl rfl ?_ | refine XK.outN rfl rfl rfl ?_)
    rfl
  · have hTm : tmW (nudeT unit) := ⟨hu, ⟨by simp [inK, nudeT], by simp [inK, nudeT]⟩, ⟨by simp [inK, nudeT], by simp [inK, nudeT]⟩⟩
    have d1 := balance_ok k hk l (nudeT unit) hTm a b k.days
    have d2 := setOff_ok k hk l a b unit
    have hc := bal_codes (k := k) hk (l := l) (nudeT_v unit) (a := a) (b := b)
    have hb := fun h1 h2 => bal_set (k := k) hk (l := l) (t := nudeT unit) rfl (show (-1 : Int) < 0 by decide) (a := a) (b := b) h1 h2
    rw [show (nudeT unit).unit = unit from rfl] at hc hb
    generalize balanceR k l (nudeT unit) a b k.days = x at *
    generalize setOffR k l a b unit = y at *
    dsimp only [tmV, nudeT] at d1
    (repeat (first | refine XK.norm rfl rfl ?_ | refine XK.rgnA hT rfl rfl rfl ?_ | refine XK.rgnB hT hm rfl rfl rfl ?_)); refine XK.drawn hm ?_; refine XD.goA hT rfl rfl rfl rfl ?_
    refine XD.callLA hE rfl rfl rfl rfl trivial rfl (whole_ok 0) rfl ?_
    refine XD.callLA hE rfl rfl rfl rfl trivial rfl (whole_ok (-1)) rfl ?_
    refine XD.goA hT rfl rfl rfl rfl ?_
    refine XD.callLA hE rfl rfl rfl rfl trivial rfl (d1) rfl ?_
    refine XD.goA hT rfl rfl rfl rfl ?_; refine XD.fin (by kernel_rfl) ?_; (repeat (first | refine XK.norm rfl rfl ?_ | refine XK.rgnA hT rfl rfl rfl ?_ | refine XK.rgnB hT hm rfl rfl rfl ?_))
    (repeat (first | refine XK.norm rfl rfl ?_ | refine XK.rgnA hT rfl rfl rfl ?_ | refine XK.rgnB hT hm rfl rfl rfl ?_)); refine XK.region ?_; refine XL.goA hT rfl rfl rfl rfl ?_
    refine XL.callLA hE rfl rfl rfl rfl trivial rfl (d2) rfl ?_
    refine XL.goA hT rfl rfl rfl rfl ?_; refine XL.fin ?_; (repeat (first | refine XK.norm rfl rfl ?_ | refine XK.rgnA hT rfl rfl rfl ?_ | refine XK.rgnB hT hm rfl rfl rfl ?_))
    (repeat (first | refine XK.norm rfl rfl ?_ | refine XK.rgnA hT rfl rfl rfl ?_ | refine XK.rgnB hT hm rfl rfl rfl ?_)); refine XK.cond rfl (fun h1 => ?_) (fun h1 => ?_) <;> (try simp at h1)
    · (repeat (first | refine XK.norm rfl rfl ?_ | refine XK.rgnA hT rfl rfl rfl ?_ | refine XK.rgnB hT hm rfl rfl rfl ?_))
      (first | refine XK.out rfl rfl rfl ?_ | refine XK.outN rfl rfl rfl ?_)
      refine cB ?_
      by_cases e1 : x.2 = y.2
      · rw [e1]; simp
      · obtain ⟨c1, c2, c3, c4⟩ := hc.resolve_left e1
        have : x.2 = 2 ∨ y.2 = 2 := by omega
        rcases this with h | h
        · rw [h]; simp
        · rw [h]; simp
    · (repeat (first | refine XK.norm rfl rfl ?_ | refine XK.rgnA hT rfl rfl rfl ?_ | refine XK.rgnB hT hm rfl rfl rfl ?_))
      (first | refine XK.out rfl rfl rfl ?_ | refine XK.outN rfl rfl rfl ?_)
      refine cB ?_
      have e1 : x.2 = 0 := by omega
      have e2 : y.2 = 0 := by omega
      rw [hb e1 e2]
      simp
end Go.Proofs.Ytiiegpjpckkohaa
