/- The law VersionDays: the walk. -/
import Derived.Test.YtofdehlikigonaaGA
namespace Go.Proofs.Ytofdehlikigonaa
open Go.Eng
set_option maxRecDepth 10000
set_option linter.unusedSimpArgs false
set_option linter.unusedVariables false
def after25 (l : List Am) (first : Int) (i : Nat) : List Am := (l.take i).filter (fun a => decide (first < a.day))
theorem after25_no {l : List Am} {first : Int} {i : Nat} (hi : i < l.length) (h : decide (first < (l.getD i default).day) = false) : after25 l first (i + 1) = after25 l first i := by
  unfold after25; rw [filter_snoc hi, if_neg (by rw [h]; exact Bool.false_ne_true)]
theorem after25_yes {l : List Am} {first : Int} {i : Nat} (hi : i < l.length) (h : decide (first < (l.getD i default).day) = true) : after25 l first (i + 1) = after25 l first i ++ [l.getD i default] := by
  unfold after25; rw [filter_snoc hi, if_pos h]
theorem after25_len (l : List Am) (first : Int) (i : Nat) : (after25 l first i).length ≤ l.length :=
  Nat.le_trans (List.length_filter_le _ _) (by rw [List.length_take]; omega)
theorem after25_all (l : List Am) (first : Int) : after25 l first l.length = l.filter (fun a => decide (first < a.day)) := by unfold after25; rw [List.take_length]
theorem len_snoc25 {α : Type} (L : List α) (x : α) : (L ++ [x]).length = L.length + 1 := by simp
theorem cat25 (x y : List Int) (r0 : Nat → List AV) : ∀ j, [AV.c (.int .i64 ((x ++ y).getD j default))] = catF (0 + x.length) (catF 0 r0 (fun i => [AV.c (.int .i64 (x.getD i default))])) (fun i => [AV.c (.int .i64 (y.getD i default))]) j := by
  intro j
  have ct : ∀ n f g, catF n f g j = if j < n then f j else g (j - n) := by
    intro n f g
    unfold catF
    by_cases h : j < n
    · have : Nat.blt j n = true := by simpa using h
      rw [this, if_pos h]; rfl
    · have : Nat.blt j n = false := by
        cases hb : Nat.blt j n with
        | false => rfl
        | true => simp at hb; exact absurd hb h
      rw [this, if_neg h]; rfl
  rw [ct, ct, if_neg (Nat.not_lt_zero j), Nat.zero_add, Nat.sub_zero]
  by_cases h : j < x.length
  · rw [if_pos h]; simp [List.getD, List.getElem?_append_left h]
  · rw [if_neg h]; simp [List.getD, List.getElem?_append_right (Nat.le_of_not_lt h)]
set_option maxHeartbeats 1000000 in
theorem lawVD (k : K) (hk : kW k) (l : List Am) (hl : ∀ a ∈ l, amW a) (first second known : Int) : Does Try.prog 6 [kV k, amsV l, .c (.int .i64 first), .c (.int .i64 second), .c (.int .i64 known)] (.c (.bool true)) := by
  refine Does.mk (fun d => Nat.beq d 90) TT_ok Try.func6 rfl (by kernel_rfl) Try.ntmps6 rfl rfl fun E hT hE hN hR => ?_
  have hm : E.P.follows .mixedOrders = true := by rw [hE]; kernel_rfl
  refine XK.fact (Sat.rs_len (j := 1) rfl) fun hlen => ?_
  have hm1 : l.length ≤ 9223372036854775807 := hlen.1
  (repeat (first | refine XK.norm rfl rfl ?_ | refine XK.rgnA hT rfl rfl rfl ?_ | refine XK.rgnB hT hm rfl rfl rfl ?_)); refine XK.region ?_; refine XL.goA hT rfl rfl rfl rfl ?_
  refine XL.callLA hE rfl rfl rfl rfl trivial rfl (head25_ok) rfl ?_
  refine XL.goA hT rfl rfl rfl rfl ?_; refine XL.fin ?_; (repeat (first | refine XK.norm rfl rfl ?_ | refine XK.rgnA hT rfl rfl rfl ?_ | refine XK.rgnB hT hm rfl rfl rfl ?_))
  (repeat (first | refine XK.norm rfl rfl ?_ | refine XK.rgnA hT rfl rfl rfl ?_ | refine XK.rgnB hT hm rfl rfl rfl ?_)); refine XK.region ?_; refine XL.goA hT rfl rfl rfl rfl ?_
  refine XL.callLA hE rfl rfl rfl rfl trivial rfl (small25_ok k l hm1) rfl ?_
  refine XL.goA hT rfl rfl rfl rfl ?_; refine XL.fin ?_; (repeat (first | refine XK.norm rfl rfl ?_ | refine XK.rgnA hT rfl rfl rfl ?_ | refine XK.rgnB hT hm rfl rfl rfl ?_))
  (repeat (first | refine XK.norm rfl rfl ?_ | refine XK.rgnA hT rfl rfl rfl ?_ | refine XK.rgnB hT hm rfl rfl rfl ?_)); refine XK.cond rfl (fun h1 => ?_) (fun h1 => ?_)
  · (repeat (first | refine XK.norm rfl rfl ?_ | refine XK.rgnA hT rfl rfl rfl ?_ | refine XK.rgnB hT hm rfl rfl rfl ?_))
    (first | refine XK.out rfl rfl rfl ?_ | refine XK.outN rfl rfl rfl ?_)
    rfl
  simp only [Bool.or_eq_false_iff, Bool.not_eq_false', decide_eq_false_iff_not] at h1
  obtain ⟨hsm, hfs⟩ := h1
  obtain ⟨hB, hl12, ha⟩ := small25_facts hsm
  have hok := amsOk_of hl ha
  (repeat (first | refine XK.norm rfl rfl ?_ | refine XK.rgnA hT rfl rfl rfl ?_ | refine XK.rgnB hT hm rfl rfl rfl ?_))
  refine XK.loop (ι := Nat) (fun i => ST.of [(1, amsV l), (2, .c (.int .i64 first)), (3, .c (.int .i64 second)), (4, .c (.int .i64 known)), (5, .ptr 5 0), (11, .c (.bool true)), (12, .vec 700 0), (13, .c (.int .i64 i))]
      [(5, .cells 41 (kC k)), (700, .vec 35 22 0 (after25 l first i).length (fun j => amC ((after25 l first i).getD j default)))] 1000 114 (fun d => Nat.beq d 90))
    (fun i => i ≤ l.length) (fun i => l.length - i) 0 (Nat.zero_le _)
    (Weak.trans (Weak.ghost (j := 12) (k := 700) (e := 35) (sz := 22) (f := fun _ => []) rfl rfl) (Weak.of hN rfl rfl rfl (by (repeat' (first | exact rfl | exact AvIs.refl _ | exact trivial | exact fun _ _ => rfl | exact fun _ _ => ⟨rfl, AvIs.refl _⟩ | refine ⟨?_, ?_⟩))) ⟨by (repeat' (first | exact rfl | exact AvIs.refl _ | exact trivial | exact fun _ _ => rfl | exact fun _ _ => ⟨rfl, AvIs.refl _⟩ | refine ⟨?_, ?_⟩)), ⟨rfl, rfl, rfl⟩, rfl, fun j hj => absurd hj (Nat.not_lt_zero _)⟩)) fun i hi => ?_
  (repeat (first | refine XK.norm rfl rfl ?_ | refine XK.rgnA hT rfl rfl rfl ?_ | refine XK.rgnB hT hm rfl rfl rfl ?_)); refine XK.cond rfl (fun hlt => ?_) (fun hlt => ?_) <;> (try simp at hlt)
  · have fx : l.getD (i : Int).toNat default = l.getD i default := rfl
    have hle := after25_len l first i
    (repeat (first | refine XK.norm rfl rfl ?_ | refine XK.rgnA hT rfl rfl rfl ?_ | refine XK.rgnB hT hm rfl rfl rfl ?_))
    rw [fx]
    (repeat (first | refine XK.norm rfl rfl ?_ | refine XK.rgnA hT rfl rfl rfl ?_ | refine XK.rgnB hT hm rfl rfl rfl ?_)); refine XK.cond rfl (fun h2 => ?_) (fun h2 => ?_)
    · have hsn := after25_yes (first := first) hlt h2
      generalize after25 l first i = L at *
      (repeat (first | refine XK.norm rfl rfl ?_ | refine XK.rgnA hT rfl rfl rfl ?_ | refine XK.rgnB hT hm rfl rfl rfl ?_))
      refine XK.inv ⟨i + 1, hlt, ?_, by omega⟩
      rw [hsn, len_snoc25]
      exact Weak.trans (Weak.stamp (k := 700) (t := 0) hN rfl rfl) (Weak.of hN rfl rfl rfl (by (repeat' (first | exact rfl | exact AvIs.refl _ | exact trivial | exact fun _ _ => rfl | exact fun _ _ => ⟨rfl, AvIs.refl _⟩ | refine ⟨?_, ?_⟩))) ⟨by (repeat' (first | exact rfl | exact AvIs.refl _ | exact trivial | exact fun _ _ => rfl | exact fun _ _ => ⟨rfl, AvIs.refl _⟩ | refine ⟨?_, ?_⟩)), ⟨rfl, rfl, rfl⟩, rfl, ams_app _ _ _ rfl⟩)
    · have hsn := after25_no (first := first) hlt h2
      (repeat (first | refine XK.norm rfl rfl ?_ | refine XK.rgnA hT rfl rfl rfl ?_ | refine XK.rgnB hT hm rfl rfl rfl ?_))
      refine XK.inv ⟨i + 1, hlt, ?_, by omega⟩
      rw [hsn]
      exact (Weak.of hN rfl rfl rfl (by (repeat' (first | exact rfl | exact AvIs.refl _ | exact trivial | exact fun _ _ => rfl | exact fun _ _ => ⟨rfl, AvIs.refl _⟩ | refine ⟨?_, ?_⟩))) (by (repeat' (first | exact rfl | exact AvIs.refl _ | exact trivial | exact fun _ _ => rfl | exact fun _ _ => ⟨rfl, AvIs.refl _⟩ | refine ⟨?_, ?_⟩))))
  have hie : i = l.length := by omega
  subst hie
  rw [after25_all]
  have hsl : (l.filter (fun a => decide (first < a.day))).length ≤ l.length := List.length_filter_le _ _
  have hso : amsOk (l.filter (fun a => decide (first < a.day))) := fun a h => hok a (List.mem_filter.1 h).1
  have c1 := inForce_ok k hk l hok first known
  refine XK.weak (Weak.frozen (k := 700) hN rfl rfl) ?_
  rw [inForceR_small (by omega)] at c1
  by_cases hv : (kValid k).1 = 0
  · rw [if_neg (by simpa using hv)] at c1
    have hfv := force_valid (day := first) (known := known) hl ⟨hk, hv⟩
    have hfB := force_KB hB hk hv hl (day := first) (known := known)
    have hl2 : ∀ a ∈ l.filter (fun a => decide (first < a.day)), amW a := fun a h => hl a (List.mem_filter.1 h).1
    have c2 := inForce_ok _ hfv.1 (l.filter (fun a => decide (first < a.day))) hso second known
    have c3 := inForce_ok k hk l hok second known
    rw [inForceR_small (by omega), if_neg (by simpa using hv), force_later k l (known := known) (show first ≤ second by omega)] at c3
    rw [inForceR_small (by omega), if_neg (by simpa using hfv.2)] at c2
    have hB2 := force_KB hfB hfv.1 hfv.2 hl2 (day := second) (known := known)
    have n1 := inForceR_len k l first known
    have n2 := inForceR_len (forceF k l first known).1 (l.filter (fun a => decide (first < a.day))) second known
    rw [inForceR_small (by omega), if_neg (by simpa using hv)] at n1
    rw [inForceR_small (by omega), if_neg (by simpa using hfv.2)] at n2
    dsimp only at n1 n2 c1 c2 c3
    generalize forceF k l first known = r1 at *
    generalize l.filter (fun a => decide (first < a.day)) = S at *
    generalize forceF r1.1 S second known = r2 at *
    have c4 := same13_ok r2.1 r2.1 hB2
    have c5 := ints13_ok (r1.2 ++ r2.2) (r1.2 ++ r2.2) (by rw [List.length_append]; omega)
    rw [sameR_self] at c4
    rw [ints_self] at c5
    (repeat (first | refine XK.norm rfl rfl ?_ | refine XK.rgnA hT rfl rfl rfl ?_ | refine XK.rgnB hT hm rfl rfl rfl ?_)); refine XK.region ?_; refine XL.goA hT rfl rfl rfl rfl ?_
    refine XL.callKA hE rfl rfl rfl rfl trivial rfl rfl (c1) ?_
    refine XL.goA hT rfl rfl rfl rfl ?_; refine XL.fin ?_; (repeat (first | refine XK.norm rfl rfl ?_ | refine XK.rgnA hT rfl rfl rfl ?_ | refine XK.rgnB hT hm rfl rfl rfl ?_))
    (repeat (first | refine XK.norm rfl rfl ?_ | refine XK.rgnA hT rfl rfl rfl ?_ | refine XK.rgnB hT hm rfl rfl rfl ?_)); refine XK.cond rfl (fun h3 => ?_) (fun h3 => ?_)
    · cases h3
    clear h3
    (repeat (first | refine XK.norm rfl rfl ?_ | refine XK.rgnA hT rfl rfl rfl ?_ | refine XK.rgnB hT hm rfl rfl rfl ?_)); refine XK.region ?_; refine XL.goA hT rfl rfl rfl rfl ?_
    refine XL.callKA hE rfl rfl rfl rfl trivial rfl rfl (c2) ?_
    refine XL.goA hT rfl rfl rfl rfl ?_; refine XL.fin ?_; (repeat (first | refine XK.norm rfl rfl ?_ | refine XK.rgnA hT rfl rfl rfl ?_ | refine XK.rgnB hT hm rfl rfl rfl ?_))
    (repeat (first | refine XK.norm rfl rfl ?_ | refine XK.rgnA hT rfl rfl rfl ?_ | refine XK.rgnB hT hm rfl rfl rfl ?_)); refine XK.region ?_; refine XL.goA hT rfl rfl rfl rfl ?_
    refine XL.callKA hE rfl rfl rfl rfl trivial rfl rfl (c3) ?_
    refine XL.goA hT rfl rfl rfl rfl ?_; refine XL.fin ?_; (repeat (first | refine XK.norm rfl rfl ?_ | refine XK.rgnA hT rfl rfl rfl ?_ | refine XK.rgnB hT hm rfl rfl rfl ?_))
    refine XK.weak (Weak.trans (Weak.stamp (k := 1660) (t := 0) hN rfl rfl) (Weak.trans (Weak.of (L := [(11, .c (.bool true)), (17, .ptr 1359 0), (19, .c (.int .i64 0)), (20, .ptr 1476 0), (21, intsV (r1.2 ++ r2.2)), (22, .c (.int .i64 0)), (23, .vec 1660 0)])
      (O := [(1359, .cells 41 (kC r2.1)), (1476, .cells 41 (kC r2.1)), (1660, .vec 3 1 0 (r1.2 ++ r2.2).length (fun i => [.c (.int .i64 ((r1.2 ++ r2.2).getD i default))]))]) (nx := 4000) (nt := 114) (md := fun d => Nat.beq d 90) hN rfl rfl rfl (by (repeat' (first | exact rfl | exact AvIs.refl _ | exact trivial | exact fun _ _ => rfl | exact fun _ _ => ⟨rfl, AvIs.refl _⟩ | refine ⟨?_, ?_⟩))) ⟨by (repeat' (first | exact rfl | exact AvIs.refl _ | exact trivial | exact fun _ _ => rfl | exact fun _ _ => ⟨rfl, AvIs.refl _⟩ | refine ⟨?_, ?_⟩)), by (repeat' (first | exact rfl | exact AvIs.refl _ | exact trivial | exact fun _ _ => rfl | exact fun _ _ => ⟨rfl, AvIs.refl _⟩ | refine ⟨?_, ?_⟩)), ⟨rfl, rfl, rfl⟩, by rw [List.length_append, Nat.zero_add], fun j hj => cat25 r1.2 r2.2 _ j⟩) (Weak.frozen (k := 1660) hN rfl rfl))) ?_
    (repeat (first | refine XK.norm rfl rfl ?_ | refine XK.rgnA hT rfl rfl rfl ?_ | refine XK.rgnB hT hm rfl rfl rfl ?_)); refine XK.region ?_; refine XL.goA hT rfl rfl rfl rfl ?_
    refine XL.callGA hE rfl rfl rfl rfl rfl rfl rfl rfl (c4) rfl ?_
    refine XL.goA hT rfl rfl rfl rfl ?_
    refine XL.callGA hE rfl rfl rfl rfl rfl rfl rfl rfl (c5) rfl ?_
    refine XL.goA hT rfl rfl rfl rfl ?_; refine XL.fin ?_; (repeat (first | refine XK.norm rfl rfl ?_ | refine XK.rgnA hT rfl rfl rfl ?_ | refine XK.rgnB hT hm rfl rfl rfl ?_))
    (first | refine XK.out rfl rfl rfl ?_ | refine XK.outN rfl rfl rfl ?_)
    rfl
  · rw [if_pos hv] at c1
    (repeat (first | refine XK.norm rfl rfl ?_ | refine XK.rgnA hT rfl rfl rfl ?_ | refine XK.rgnB hT hm rfl rfl rfl ?_)); refine XK.region ?_; refine XL.goA hT rfl rfl rfl rfl ?_
    refine XL.callKA hE rfl rfl rfl rfl trivial rfl rfl (c1) ?_
    refine XL.goA hT rfl rfl rfl rfl ?_; refine XL.fin ?_; (repeat (first | refine XK.norm rfl rfl ?_ | refine XK.rgnA hT rfl rfl rfl ?_ | refine XK.rgnB hT hm rfl rfl rfl ?_))
    (repeat (first | refine XK.norm rfl rfl ?_ | refine XK.rgnA hT rfl rfl rfl ?_ | refine XK.rgnB hT hm rfl rfl rfl ?_)); refine XK.cond rfl (fun h3 => ?_) (fun h3 => ?_)
    · (repeat (first | refine XK.norm rfl rfl ?_ | refine XK.rgnA hT rfl rfl rfl ?_ | refine XK.rgnB hT hm rfl rfl rfl ?_))
      (first | refine XK.out rfl rfl rfl ?_ | refine XK.outN rfl rfl rfl ?_)
      rfl
    · cases h3
end Go.Proofs.Ytofdehlikigonaa
