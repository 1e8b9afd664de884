/- The law VersionCounts: the walk. -/
import Derived.Test.YtofdehlikigonaaGA
namespace Go.Proofs.Ytofdehlikigonaa
open Go.Eng
set_option maxRecDepth 10000
set_option linter.unusedSimpArgs false
set_option linter.unusedVariables false
def some25 (l : List Am) (day known : Int) (i : Nat) : List Am := (l.take i).filter (counts day known)
theorem some25_no {l : List Am} {day known : Int} {i : Nat} (hi : i < l.length) (h : counts day known (l.getD i default) = false) : some25 l day known (i + 1) = some25 l day known i := by
  unfold some25; rw [filter_snoc hi, if_neg (by rw [h]; exact Bool.false_ne_true)]
theorem some25_yes {l : List Am} {day known : Int} {i : Nat} (hi : i < l.length) (h : counts day known (l.getD i default) = true) : some25 l day known (i + 1) = some25 l day known i ++ [l.getD i default] := by
  unfold some25; rw [filter_snoc hi, if_pos h]
theorem some25_len (l : List Am) (day known : Int) (i : Nat) : (some25 l day known i).length ≤ l.length :=
  Nat.le_trans (List.length_filter_le _ _) (by rw [List.length_take]; omega)
theorem some25_all (l : List Am) (day known : Int) : some25 l day known l.length = l.filter (counts day known) := by unfold some25; rw [List.take_length]
theorem snoc_len {α : Type} (L : List α) (x : α) : (L ++ [x]).length = L.length + 1 := by simp
theorem lawVC (k : K) (hk : kW k) (l : List Am) (hl : ∀ a ∈ l, amW a) (day known : Int) : Does Try.prog 5 [kV k, amsV l, .c (.int .i64 day), .c (.int .i64 known)] (.c (.bool true)) := by
  refine Does.mk (fun _ => false) TT_ok Try.func5 rfl (by kernel_rfl) Try.ntmps5 rfl rfl fun E hT hE hN hR => ?_
  have hm : E.P.follows .mixedOrders = true := by rw [hE]; kernel_rfl
  refine XK.fact (Sat.rs_len (j := 1) rfl) fun hlen => ?_
  have hm1 : l.length ≤ 9223372036854775807 := hlen.1
  (repeat (first | refine XK.norm rfl rfl ?_ | refine XK.rgnA hT rfl rfl rfl ?_ | refine XK.rgnB hT hm rfl rfl rfl ?_)); refine XK.region ?_; refine XL.goA hT rfl rfl rfl rfl ?_
  refine XL.callLA hE rfl rfl rfl rfl trivial rfl (head25_ok) rfl ?_
  refine XL.goA hT rfl rfl rfl rfl ?_; refine XL.fin ?_; (repeat (first | refine XK.norm rfl rfl ?_ | refine XK.rgnA hT rfl rfl rfl ?_ | refine XK.rgnB hT hm rfl rfl rfl ?_))
  (repeat (first | refine XK.norm rfl rfl ?_ | refine XK.rgnA hT rfl rfl rfl ?_ | refine XK.rgnB hT hm rfl rfl rfl ?_)); refine XK.region ?_; refine XL.goA hT rfl rfl rfl rfl ?_
  refine XL.callLA hE rfl rfl rfl rfl trivial rfl (small25_ok k l hm1) rfl ?_
  refine XL.goA hT rfl rfl rfl rfl ?_; refine XL.fin ?_; (repeat (first | refine XK.norm rfl rfl ?_ | refine XK.rgnA hT rfl rfl rfl ?_ | refine XK.rgnB hT hm rfl rfl rfl ?_))
  (repeat (first | refine XK.norm rfl rfl ?_ | refine XK.rgnA hT rfl rfl rfl ?_ | refine XK.rgnB hT hm rfl rfl rfl ?_)); refine XK.cond rfl (fun h1 => ?_) (fun h1 => ?_) <;> (try simp at h1)
  · (repeat (first | refine XK.norm rfl rfl ?_ | refine XK.rgnA hT rfl rfl rfl ?_ | refine XK.rgnB hT hm rfl rfl rfl ?_))
    (first | refine XK.out rfl rfl rfl ?_ | refine XK.outN rfl rfl rfl ?_)
    rfl
  have hsm : small25B k l = true := by cases h : small25B k l <;> simp_all
  obtain ⟨hB, hl12, ha⟩ := small25_facts hsm
  have hok := amsOk_of hl ha
  (repeat (first | refine XK.norm rfl rfl ?_ | refine XK.rgnA hT rfl rfl rfl ?_ | refine XK.rgnB hT hm rfl rfl rfl ?_))
  refine XK.loop (ι := Nat) (fun i => ST.of [(1, amsV l), (2, .c (.int .i64 day)), (3, .c (.int .i64 known)), (4, .ptr 4 0), (9, .c (.bool true)), (10, .vec 700 0), (11, .c (.int .i64 i))]
      [(4, .cells 41 (kC k)), (700, .vec 35 22 0 (some25 l day known i).length (fun j => amC ((some25 l day known i).getD j default)))] 1000 87 (fun _ => false))
    (fun i => i ≤ l.length) (fun i => l.length - i) 0 (Nat.zero_le _)
    (Weak.trans (Weak.ghost (j := 10) (k := 700) (e := 35) (sz := 22) (f := fun _ => []) rfl rfl) (Weak.of hN rfl rfl rfl (by (repeat' (first | exact rfl | exact AvIs.refl _ | exact trivial | exact fun _ _ => rfl | exact fun _ _ => ⟨rfl, AvIs.refl _⟩ | refine ⟨?_, ?_⟩))) ⟨by (repeat' (first | exact rfl | exact AvIs.refl _ | exact trivial | exact fun _ _ => rfl | exact fun _ _ => ⟨rfl, AvIs.refl _⟩ | refine ⟨?_, ?_⟩)), ⟨rfl, rfl, rfl⟩, rfl, fun j hj => absurd hj (Nat.not_lt_zero _)⟩)) fun i hi => ?_
  (repeat (first | refine XK.norm rfl rfl ?_ | refine XK.rgnA hT rfl rfl rfl ?_ | refine XK.rgnB hT hm rfl rfl rfl ?_)); refine XK.cond rfl (fun hlt => ?_) (fun hlt => ?_) <;> (try simp at hlt)
  · have fx : l.getD (i : Int).toNat default = l.getD i default := rfl
    have hle := some25_len l day known i
    (repeat (first | refine XK.norm rfl rfl ?_ | refine XK.rgnA hT rfl rfl rfl ?_ | refine XK.rgnB hT hm rfl rfl rfl ?_))
    rw [fx]
    (repeat (first | refine XK.norm rfl rfl ?_ | refine XK.rgnA hT rfl rfl rfl ?_ | refine XK.rgnB hT hm rfl rfl rfl ?_)); refine XK.cond rfl (fun h2 => ?_) (fun h2 => ?_)
    · have hsn := some25_yes (day := day) (known := known) hlt h2
      generalize some25 l day known i = L at *
      (repeat (first | refine XK.norm rfl rfl ?_ | refine XK.rgnA hT rfl rfl rfl ?_ | refine XK.rgnB hT hm rfl rfl rfl ?_))
      refine XK.inv ⟨i + 1, hlt, ?_, by omega⟩
      rw [hsn, snoc_len]
      exact Weak.trans (Weak.stamp (k := 700) (t := 0) hN rfl rfl) (Weak.of hN rfl rfl rfl (by (repeat' (first | exact rfl | exact AvIs.refl _ | exact trivial | exact fun _ _ => rfl | exact fun _ _ => ⟨rfl, AvIs.refl _⟩ | refine ⟨?_, ?_⟩))) ⟨by (repeat' (first | exact rfl | exact AvIs.refl _ | exact trivial | exact fun _ _ => rfl | exact fun _ _ => ⟨rfl, AvIs.refl _⟩ | refine ⟨?_, ?_⟩)), ⟨rfl, rfl, rfl⟩, rfl, ams_app _ _ _ rfl⟩)
    · have hsn := some25_no (day := day) (known := known) hlt h2
      (repeat (first | refine XK.norm rfl rfl ?_ | refine XK.rgnA hT rfl rfl rfl ?_ | refine XK.rgnB hT hm rfl rfl rfl ?_))
      refine XK.inv ⟨i + 1, hlt, ?_, by omega⟩
      rw [hsn]
      exact (Weak.of hN rfl rfl rfl (by (repeat' (first | exact rfl | exact AvIs.refl _ | exact trivial | exact fun _ _ => rfl | exact fun _ _ => ⟨rfl, AvIs.refl _⟩ | refine ⟨?_, ?_⟩))) (by (repeat' (first | exact rfl | exact AvIs.refl _ | exact trivial | exact fun _ _ => rfl | exact fun _ _ => ⟨rfl, AvIs.refl _⟩ | refine ⟨?_, ?_⟩))))
  have hie : i = l.length := by omega
  subst hie
  rw [some25_all]
  have hsl : (l.filter (counts day known)).length ≤ l.length := List.length_filter_le _ _
  have hso : amsOk (l.filter (counts day known)) := fun a h => hok a (List.mem_filter.1 h).1
  have heq : inForceR k (l.filter (counts day known)) day known = inForceR k l day known := by
    rw [inForceR_small (by omega), inForceR_small (by omega), force_some]
  have c1 := inForce_ok k hk l hok day known
  have c2 := inForce_ok k hk (l.filter (counts day known)) hso day known
  have hKB := inForceR_KB hB hk (show l.length ≤ 60 by omega) hl (day := day) (known := known)
  have hlen2 := inForceR_len k l day known
  rw [heq] at c2
  generalize inForceR k l day known = r at *
  generalize l.filter (counts day known) = S at *
  have c3 := same13_ok r.1.1 r.1.1 hKB
  have c4 := ints13_ok r.1.2 r.1.2 (by omega)
  rw [sameR_self] at c3
  rw [ints_self] at c4
  refine XK.weak (Weak.frozen (k := 700) hN rfl rfl) ?_
  (repeat (first | refine XK.norm rfl rfl ?_ | refine XK.rgnA hT rfl rfl rfl ?_ | refine XK.rgnB hT hm rfl rfl rfl ?_)); refine XK.region ?_; refine XL.goA hT rfl rfl rfl rfl ?_
  refine XL.callKA hE rfl rfl rfl rfl trivial rfl rfl (c1) ?_
  refine XL.goA hT rfl rfl rfl rfl ?_; refine XL.fin ?_; (repeat (first | refine XK.norm rfl rfl ?_ | refine XK.rgnA hT rfl rfl rfl ?_ | refine XK.rgnB hT hm rfl rfl rfl ?_))
  (repeat (first | refine XK.norm rfl rfl ?_ | refine XK.rgnA hT rfl rfl rfl ?_ | refine XK.rgnB hT hm rfl rfl rfl ?_)); refine XK.region ?_; refine XL.goA hT rfl rfl rfl rfl ?_
  refine XL.callKA hE rfl rfl rfl rfl trivial rfl rfl (c2) ?_
  refine XL.goA hT rfl rfl rfl rfl ?_; refine XL.fin ?_; (repeat (first | refine XK.norm rfl rfl ?_ | refine XK.rgnA hT rfl rfl rfl ?_ | refine XK.rgnB hT hm rfl rfl rfl ?_))
  (repeat (first | refine XK.norm rfl rfl ?_ | refine XK.rgnA hT rfl rfl rfl ?_ | refine XK.rgnB hT hm rfl rfl rfl ?_)); refine XK.region ?_; refine XL.goA hT rfl rfl rfl rfl ?_
  refine XL.callGA hE rfl rfl rfl rfl rfl rfl rfl rfl (c3) rfl ?_
  refine XL.goA hT rfl rfl rfl rfl ?_
  refine XL.callGA hE rfl rfl rfl rfl rfl rfl rfl rfl (c4) rfl ?_
  refine XL.goA hT rfl rfl rfl rfl ?_; refine XL.fin ?_; (repeat (first | refine XK.norm rfl rfl ?_ | refine XK.rgnA hT rfl rfl rfl ?_ | refine XK.rgnB hT hm rfl rfl rfl ?_))
  (first | refine XK.out rfl rfl rfl ?_ | refine XK.outN rfl rfl rfl ?_)
  rw [show (r.2 == r.2) = true from beq_self_eq_true _]
  rfl
end Go.Proofs.Ytofdehlikigonaa
