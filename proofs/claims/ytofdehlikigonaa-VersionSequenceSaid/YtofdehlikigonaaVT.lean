/- The law VersionSequence: the plain law and the walk. -/
import Derived.Test.YtofdehlikigonaaGA
namespace Go.Proofs.Ytofdehlikigonaa
open Go.Eng
set_option maxRecDepth 10000
set_option linter.unusedSimpArgs false
set_option linter.unusedVariables false
def turnA (l : List Am) (t : Nat) : List Am := (List.range l.length).map (fun j => l.getD ((l.length - 1 - j + t) % l.length) default)
theorem turnA_len {l : List Am} {t : Nat} : (turnA l t).length = l.length := by simp [turnA]
theorem turnA_getD {l : List Am} {t j : Nat} (h : j < l.length) : (turnA l t).getD j default = l.getD ((l.length - 1 - j + t) % l.length) default := by simp [turnA, List.getD, h]
theorem turnA_eq (l : List Am) (t : Nat) : turnA l t = (l.drop (t % l.length) ++ l.take (t % l.length)).reverse := by
  by_cases hn : l.length = 0
  · have : l = [] := List.length_eq_zero_iff.1 hn
    subst this; simp [turnA]
  have hm : t % l.length < l.length := Nat.mod_lt _ (by omega)
  apply List.ext_getElem?
  intro j
  by_cases hj : j < l.length
  · have e1 : (turnA l t)[j]? = some (l.getD ((l.length - 1 - j + t) % l.length) default) := by simp [turnA, hj]
    rw [e1, List.getElem?_reverse (by simp; omega)]
    have e2 : (l.drop (t % l.length) ++ l.take (t % l.length)).length = l.length := by simp; omega
    rw [e2]
    have hr : (l.length - 1 - j + t) % l.length = if l.length - 1 - j + t % l.length < l.length then l.length - 1 - j + t % l.length else l.length - 1 - j + t % l.length - l.length := by
      rw [Nat.add_mod, Nat.mod_eq_of_lt (show l.length - 1 - j < l.length by omega)]
      split
      · rename_i h; exact Nat.mod_eq_of_lt h
      · rename_i h; rw [Nat.mod_eq_sub_mod (by omega), Nat.mod_eq_of_lt (by omega)]
    rw [hr]
    by_cases h : l.length - 1 - j + t % l.length < l.length
    · rw [if_pos h, List.getElem?_append_left (by rw [List.length_drop]; omega), List.getElem?_drop]
      have hx : t % l.length + (l.length - 1 - j) < l.length := by omega
      rw [List.getElem?_eq_getElem hx, List.getD_eq_getElem?_getD, List.getElem?_eq_getElem h]
      simp only [Option.getD_some, Nat.add_comm]
    · rw [if_neg h, List.getElem?_append_right (by rw [List.length_drop]; omega), List.length_drop, List.getElem?_take]
      have e3 : l.length - 1 - j - (l.length - t % l.length) = l.length - 1 - j + t % l.length - l.length := by omega
      rw [e3, if_pos (by omega)]
      have hx : l.length - 1 - j + t % l.length - l.length < l.length := by omega
      rw [List.getElem?_eq_getElem hx, List.getD_eq_getElem?_getD, List.getElem?_eq_getElem hx]
      rfl
  · rw [List.getElem?_eq_none (by rw [turnA_len]; omega), List.getElem?_eq_none (by simp; omega)]
theorem turnA_perm (l : List Am) (t : Nat) : (turnA l t).Perm l := by
  rw [turnA_eq]
  refine (List.reverse_perm _).trans ?_
  refine List.perm_append_comm.trans ?_
  rw [List.take_append_drop]
theorem amAt_seq (l : List Am) {i : Nat} (hi : i < l.length) : amAt l i = (seqA l).getD i default := by
  rw [List.getD_eq_getElem?_getD, seqA_at l hi]; rfl
theorem stD_seq {l l' : List Am} {k : K} {known : Int} (h : seqA l = seqA l') (hn : l.length = l'.length) : ∀ {i : Nat}, i ≤ l.length → stD l k known i = stD l' k known i
  | 0, _ => rfl
  | i + 1, hi => by
    have ih := stD_seq (k := k) (known := known) h hn (show i ≤ l.length by omega)
    rw [stD, stD, ih, amAt_seq l (show i < l.length by omega), amAt_seq l' (show i < l'.length by omega), h]
theorem daysR_seq {l l' : List Am} (k : K) (known : Int) (h : seqA l = seqA l') (hn : l.length = l'.length) : daysR k l known = daysR k l' known := by
  have hc : checkV k l = checkV k l' := by unfold checkV; rw [hn]
  unfold daysR
  rw [hc, stD_seq h hn (Nat.le_refl _), hn]
theorem inForceR_seq2 {l l' : List Am} (k : K) (day known : Int) (h : seqA l = seqA l') (hn : l.length = l'.length) : inForceR k l day known = inForceR k l' day known := by
  have hc : checkV k l = checkV k l' := by unfold checkV; rw [hn]
  rw [inForceR_eq, inForceR_eq, hc]
  unfold forceF
  rw [h]
theorem turn_seq {l : List Am} (t : Nat) (hd : ∀ i j, j < i → i < l.length → ¬ ((l.getD j default).day = (l.getD i default).day ∧ (l.getD j default).number = (l.getD i default).number)) : seqA (turnA l t) = seqA l := by
  refine (seqA_one (turnA_perm l t).symm fun a ha b hb h1 h2 => ?_).symm
  obtain ⟨i, hi, rfl⟩ := List.getElem_of_mem ha
  obtain ⟨j, hj, rfl⟩ := List.getElem_of_mem hb
  have ei : l.getD i default = l[i] := by simp [List.getD, hi]
  have ej : l.getD j default = l[j] := by simp [List.getD, hj]
  by_cases hij : i = j
  · subst hij; rfl
  · rcases Nat.lt_or_gt_of_ne hij with h | h
    · exact absurd ⟨by rw [ei, ej]; exact h1, by rw [ei, ej]; exact h2⟩ (hd j i h hj)
    · exact absurd ⟨by rw [ei, ej]; exact h1.symm, by rw [ei, ej]; exact h2.symm⟩ (hd i j h hi)
theorem daysR_len {k : K} (hk : kW k) {l : List Am} (hl : amsOk l) (known : Int) : (daysR k l known).1.length ≤ l.length + 1 := by
  unfold daysR
  split
  · exact Nat.zero_le _
  · rename_i h
    have hv : (kValid k).1 = 0 := by
      by_cases h2 : (kValid k).1 = 0
      · exact h2
      · rw [checkV, if_pos h2] at h; exact absurd (by decide) h
    exact (finD_W (stD_W hl hk hv l.length (Nat.le_refl _))).d
set_option maxHeartbeats 1000000 in
theorem lawVS (k : K) (hk : kW k) (l : List Am) (hl : ∀ a ∈ l, amW a) (day known : Int) (t : Nat) (ht : t ≤ 255) : Does Try.prog 4 [kV k, amsV l, .c (.int .i64 day), .c (.int .i64 known), .c (.int .u8 t)] (.c (.bool true)) := by
  refine Does.mk (fun _ => false) TT_ok Try.func4 rfl (by kernel_rfl) Try.ntmps4 rfl rfl fun E hT hE hN hR => ?_
  have hm : E.P.follows .mixedOrders = true := by rw [hE]; kernel_rfl
  refine XK.fact (Sat.rs_len (j := 1) rfl) fun hlen => ?_
  have hm1 : l.length ≤ 9223372036854775807 := hlen.1
  (repeat (first | refine XK.norm rfl rfl ?_ | refine XK.rgnA hT rfl rfl rfl ?_ | refine XK.rgnB hT hm rfl rfl rfl ?_)); refine XK.region ?_; refine XL.goA hT rfl rfl rfl rfl ?_
  refine XL.callLA hE rfl rfl rfl rfl trivial rfl (head25_ok) rfl ?_
  refine XL.goA hT rfl rfl rfl rfl ?_; refine XL.fin ?_; (repeat (first | refine XK.norm rfl rfl ?_ | refine XK.rgnA hT rfl rfl rfl ?_ | refine XK.rgnB hT hm rfl rfl rfl ?_))
  (repeat (first | refine XK.norm rfl rfl ?_ | refine XK.rgnA hT rfl rfl rfl ?_ | refine XK.rgnB hT hm rfl rfl rfl ?_)); refine XK.region ?_; refine XL.goA hT rfl rfl rfl rfl ?_
  refine XL.callLA hE rfl rfl rfl rfl trivial rfl (small25_ok k l hm1) rfl ?_
  refine XL.goA hT rfl rfl rfl rfl ?_; refine XL.fin ?_; (repeat (first | refine XK.norm rfl rfl ?_ | refine XK.rgnA hT rfl rfl rfl ?_ | refine XK.rgnB hT hm rfl rfl rfl ?_))
  (repeat (first | refine XK.norm rfl rfl ?_ | refine XK.rgnA hT rfl rfl rfl ?_ | refine XK.rgnB hT hm rfl rfl rfl ?_)); refine XK.cond rfl (fun h1 => ?_) (fun h1 => ?_)
  · (repeat (first | refine XK.norm rfl rfl ?_ | refine XK.rgnA hT rfl rfl rfl ?_ | refine XK.rgnB hT hm rfl rfl rfl ?_))
    (first | refine XK.out rfl rfl rfl ?_ | refine XK.outN rfl rfl rfl ?_)
    rfl
  simp only [Bool.or_eq_false_iff, Bool.not_eq_false', beq_eq_false_iff_ne, ne_eq] at h1
  obtain ⟨hsm, hn0⟩ := h1
  obtain ⟨hB, hl12, ha⟩ := small25_facts hsm
  have hok := amsOk_of hl ha
  (repeat (first | refine XK.norm rfl rfl ?_ | refine XK.rgnA hT rfl rfl rfl ?_ | refine XK.rgnB hT hm rfl rfl rfl ?_))
  refine XK.loop (ι := Nat) (fun j => ST.of [(1, amsV l), (2, .c (.int .i64 day)), (3, .c (.int .i64 known)), (4, .c (.int .u8 t)), (5, .ptr 5 0), (11, .c (.bool true)), (12, .vec 700 0), (13, .c (.int .i64 ((l.length : Int) - 1 - j)))]
      [(5, .cells 41 (kC k)), (700, .vec 35 22 0 j (fun q => amC ((turnA l t).getD q default)))] 1000 144 (fun _ => false))
    (fun j => j ≤ l.length ∧ ∀ q, q < j → ∀ i, i < l.length - 1 - q → ¬ ((l.getD i default).day = (l.getD (l.length - 1 - q) default).day ∧ (l.getD i default).number = (l.getD (l.length - 1 - q) default).number)) (fun j => l.length - j) 0 ⟨Nat.zero_le _, fun q hq => absurd hq (Nat.not_lt_zero _)⟩
    (Weak.trans (Weak.ghost (j := 12) (k := 700) (e := 35) (sz := 22) (f := fun q => amC ((turnA l t).getD q default)) rfl rfl) (Weak.of hN rfl rfl rfl (by (repeat' (first | exact rfl | exact AvIs.refl _ | exact trivial | exact fun _ _ => rfl | exact fun _ _ => ⟨rfl, AvIs.refl _⟩ | exact cI (by omega) | refine ⟨?_, ?_⟩))) ⟨by (repeat' (first | exact rfl | exact AvIs.refl _ | exact trivial | exact fun _ _ => rfl | exact fun _ _ => ⟨rfl, AvIs.refl _⟩ | refine ⟨?_, ?_⟩)), ⟨rfl, rfl, rfl⟩, rfl, fun j hj => absurd hj (Nat.not_lt_zero _)⟩)) fun j hj => ?_
  obtain ⟨hj, hD⟩ := hj
  (repeat (first | refine XK.norm rfl rfl ?_ | refine XK.rgnA hT rfl rfl rfl ?_ | refine XK.rgnB hT hm rfl rfl rfl ?_)); refine XK.cond rfl (fun hlt => ?_) (fun hlt => ?_) <;> (try simp at hlt)
  · have hjl : j < l.length := by omega
    have e : ((l.length : Int) - 1 - j + t).tmod l.length = (((l.length - 1 - j + t) % l.length : Nat) : Int) := by
      rw [show ((l.length : Int) - 1 - j + t) = ((l.length - 1 - j + t : Nat) : Int) by omega]
      rfl
    have hml : (l.length - 1 - j + t) % l.length < l.length := Nat.mod_lt _ (by omega)
    have hTl := turnA_getD (t := t) hjl
    generalize (l.length - 1 - j + t) % l.length = i at *
    have fi : l.getD (i : Int).toNat default = l.getD i default := rfl
    (repeat (first | refine XK.norm rfl rfl ?_ | refine XK.rgnA hT rfl rfl rfl ?_ | refine XK.rgnB hT hm rfl rfl rfl ?_))
    refine XK.loop (ι := Nat) (fun q => ST.of [(1, amsV l), (2, .c (.int .i64 day)), (3, .c (.int .i64 known)), (4, .c (.int .u8 t)), (5, .ptr 5 0), (11, .c (.bool true)), (12, .vec 700 0), (13, .c (.int .i64 ((l.length - 1 - j : Nat) : Int))), (14, .c (.int .i64 q))]
        [(5, .cells 41 (kC k)), (700, .vec 35 22 0 (j + 1) (fun q => amC ((turnA l t).getD q default)))] 2000 144 (fun _ => false))
      (fun q => q ≤ l.length - 1 - j ∧ ∀ i, i < q → ¬ ((l.getD i default).day = (l.getD (l.length - 1 - j) default).day ∧ (l.getD i default).number = (l.getD (l.length - 1 - j) default).number)) (fun q => l.length - 1 - j - q) 0 ⟨Nat.zero_le _, fun q hq => absurd hq (Nat.not_lt_zero _)⟩
      (Weak.trans (Weak.stamp (k := 700) (t := 0) hN rfl rfl) (Weak.of hN rfl rfl rfl ⟨AvIs.refl _, rfl, rfl, rfl, rfl, rfl, rfl, cI (by omega), rfl⟩ ⟨by (repeat' (first | exact rfl | exact AvIs.refl _ | exact trivial | exact fun _ _ => rfl | exact fun _ _ => ⟨rfl, AvIs.refl _⟩ | refine ⟨?_, ?_⟩)), ⟨rfl, rfl, rfl⟩, rfl, fun k hk => (catF_oneV (g := fun k => amC ((turnA l t).getD k default)) ?row (fun k hk => rfl) k hk).symm⟩)) fun q hq => ?_
    · show rowOf (amC (l.getD (((l.length : Int) - 1 - j + t).tmod l.length).toNat default)) 22 0 = amC ((turnA l t).getD j default)
      rw [e, fi, ← hTl]
      rfl
    obtain ⟨hq, hC⟩ := hq
    clear e hml hTl fi
    (repeat (first | refine XK.norm rfl rfl ?_ | refine XK.rgnA hT rfl rfl rfl ?_ | refine XK.rgnB hT hm rfl rfl rfl ?_)); refine XK.cond rfl (fun hlq => ?_) (fun hlq => ?_) <;> (try simp at hlq)
    · have hql : q < l.length := by omega
      have hpl : l.length - 1 - j < l.length := by omega
      generalize hp : l.length - 1 - j = p at *
      have f1 : l.getD (q : Int).toNat default = l.getD q default := rfl
      have f2 : l.getD (p : Int).toNat default = l.getD p default := rfl
      (repeat (first | refine XK.norm rfl rfl ?_ | refine XK.rgnA hT rfl rfl rfl ?_ | refine XK.rgnB hT hm rfl rfl rfl ?_))
      rw [f1, f2]
      (repeat (first | refine XK.norm rfl rfl ?_ | refine XK.rgnA hT rfl rfl rfl ?_ | refine XK.rgnB hT hm rfl rfl rfl ?_)); refine XK.cond rfl (fun h4 => ?_) (fun h4 => ?_)
      · (repeat (first | refine XK.norm rfl rfl ?_ | refine XK.rgnA hT rfl rfl rfl ?_ | refine XK.rgnB hT hm rfl rfl rfl ?_))
        (first | refine XK.out rfl rfl rfl ?_ | refine XK.outN rfl rfl rfl ?_)
        rfl
      · (repeat (first | refine XK.norm rfl rfl ?_ | refine XK.rgnA hT rfl rfl rfl ?_ | refine XK.rgnB hT hm rfl rfl rfl ?_))
        refine XK.inv ⟨q + 1, ⟨by omega, fun i hi => ?_⟩, (Weak.of hN rfl rfl rfl (by (repeat' (first | exact rfl | exact AvIs.refl _ | exact trivial | exact fun _ _ => rfl | exact fun _ _ => ⟨rfl, AvIs.refl _⟩ | refine ⟨?_, ?_⟩))) (by (repeat' (first | exact rfl | exact AvIs.refl _ | exact trivial | exact fun _ _ => rfl | exact fun _ _ => ⟨rfl, AvIs.refl _⟩ | refine ⟨?_, ?_⟩)))), by omega⟩
        by_cases e : i = q
        · subst e
          intro ⟨g1, g2⟩
          rw [g1, g2] at h4
          simp at h4
        · exact hC i (by omega)
    · (repeat (first | refine XK.norm rfl rfl ?_ | refine XK.rgnA hT rfl rfl rfl ?_ | refine XK.rgnB hT hm rfl rfl rfl ?_))
      refine XK.inv ⟨j + 1, ⟨by omega, fun q' hq' => ?_⟩, (Weak.of hN rfl rfl rfl (by (repeat' (first | exact rfl | exact AvIs.refl _ | exact trivial | exact fun _ _ => rfl | exact fun _ _ => ⟨rfl, AvIs.refl _⟩ | exact cI (by omega) | refine ⟨?_, ?_⟩))) (by (repeat' (first | exact rfl | exact AvIs.refl _ | exact trivial | exact fun _ _ => rfl | exact fun _ _ => ⟨rfl, AvIs.refl _⟩ | refine ⟨?_, ?_⟩)))), by omega⟩
      by_cases e : q' = j
      · subst e
        exact fun i hi => hC i (by omega)
      · exact hD q' (by omega)
  have hjn : j = l.length := by omega
  have hsq := turn_seq (l := l) t fun i j hij hi => by
    have := hD (l.length - 1 - i) (by omega) j (by omega)
    rwa [show l.length - 1 - (l.length - 1 - i) = i by omega] at this
  clear hD hj hlt
  subst hjn
  have htl := turnA_len (l := l) (t := t)
  have hso : amsOk (turnA l t) := fun a h => hok a ((turnA_perm l t).mem_iff.1 h)
  have c1 := inForce_ok k hk l hok day known
  have c2 := inForce_ok k hk (turnA l t) hso day known
  have c3 := days_ok k hk l hok known
  have c4 := days_ok k hk (turnA l t) hso known
  rw [inForceR_seq2 k day known hsq htl] at c2
  rw [daysR_seq k known hsq htl] at c4
  have hKB := inForceR_KB hB hk (show l.length ≤ 60 by omega) hl (day := day) (known := known)
  have n1 := inForceR_len k l day known
  have n2 := daysR_len hk hok known
  refine XK.weak (Weak.trans (Weak.of (L := [(1, amsV l), (2, .c (.int .i64 day)), (3, .c (.int .i64 known)), (5, .ptr 5 0), (11, .c (.bool true)), (12, .vec 700 0)])
    (O := [(5, .cells 41 (kC k)), (700, .vec 35 22 0 (turnA l t).length (fun q => amC ((turnA l t).getD q default)))]) (nx := 3000) (nt := 144) (md := fun _ => false) hN rfl rfl rfl (by (repeat' (first | exact rfl | exact AvIs.refl _ | exact trivial | exact fun _ _ => rfl | exact fun _ _ => ⟨rfl, AvIs.refl _⟩ | refine ⟨?_, ?_⟩))) ⟨by (repeat' (first | exact rfl | exact AvIs.refl _ | exact trivial | exact fun _ _ => rfl | exact fun _ _ => ⟨rfl, AvIs.refl _⟩ | refine ⟨?_, ?_⟩)), ⟨rfl, rfl, rfl⟩, htl.symm, fun k hk => rfl⟩) (Weak.frozen (k := 700) hN rfl rfl)) ?_
  generalize inForceR k l day known = r at *
  generalize daysR k l known = d at *
  generalize turnA l t = S at *
  have c5 := same13_ok r.1.1 r.1.1 hKB
  have c6 := ints13_ok r.1.2 r.1.2 (by omega)
  have c7 := ints13_ok d.1 d.1 (by omega)
  rw [sameR_self] at c5
  rw [ints_self] at c6 c7
  (repeat (first | refine XK.norm rfl rfl ?_ | refine XK.rgnA hT rfl rfl rfl ?_ | refine XK.rgnB hT hm rfl rfl rfl ?_)); refine XK.region ?_; refine XL.goA hT rfl rfl rfl rfl ?_
  refine XL.callKA hE rfl rfl rfl rfl trivial rfl rfl (c1) ?_
  refine XL.goA hT rfl rfl rfl rfl ?_; refine XL.fin ?_; (repeat (first | refine XK.norm rfl rfl ?_ | refine XK.rgnA hT rfl rfl rfl ?_ | refine XK.rgnB hT hm rfl rfl rfl ?_))
  (repeat (first | refine XK.norm rfl rfl ?_ | refine XK.rgnA hT rfl rfl rfl ?_ | refine XK.rgnB hT hm rfl rfl rfl ?_)); refine XK.region ?_; refine XL.goA hT rfl rfl rfl rfl ?_
  refine XL.callKA hE rfl rfl rfl rfl trivial rfl rfl (c2) ?_
  refine XL.goA hT rfl rfl rfl rfl ?_; refine XL.fin ?_; (repeat (first | refine XK.norm rfl rfl ?_ | refine XK.rgnA hT rfl rfl rfl ?_ | refine XK.rgnB hT hm rfl rfl rfl ?_))
  (repeat (first | refine XK.norm rfl rfl ?_ | refine XK.rgnA hT rfl rfl rfl ?_ | refine XK.rgnB hT hm rfl rfl rfl ?_)); refine XK.region ?_; refine XL.goA hT rfl rfl rfl rfl ?_
  refine XL.callKA hE rfl rfl rfl rfl trivial rfl rfl (c3) ?_
  refine XL.goA hT rfl rfl rfl rfl ?_; refine XL.fin ?_; (repeat (first | refine XK.norm rfl rfl ?_ | refine XK.rgnA hT rfl rfl rfl ?_ | refine XK.rgnB hT hm rfl rfl rfl ?_))
  (repeat (first | refine XK.norm rfl rfl ?_ | refine XK.rgnA hT rfl rfl rfl ?_ | refine XK.rgnB hT hm rfl rfl rfl ?_)); refine XK.region ?_; refine XL.goA hT rfl rfl rfl rfl ?_
  refine XL.callKA hE rfl rfl rfl rfl trivial rfl rfl (c4) ?_
  refine XL.goA hT rfl rfl rfl rfl ?_; refine XL.fin ?_; (repeat (first | refine XK.norm rfl rfl ?_ | refine XK.rgnA hT rfl rfl rfl ?_ | refine XK.rgnB hT hm rfl rfl rfl ?_))
  (repeat (first | refine XK.norm rfl rfl ?_ | refine XK.rgnA hT rfl rfl rfl ?_ | refine XK.rgnB hT hm rfl rfl rfl ?_)); refine XK.region ?_; refine XL.goA hT rfl rfl rfl rfl ?_
  refine XL.callGA hE rfl rfl rfl rfl rfl rfl rfl rfl (c5) rfl ?_
  refine XL.goA hT rfl rfl rfl rfl ?_
  refine XL.callGA hE rfl rfl rfl rfl rfl rfl rfl rfl (c6) rfl ?_
  refine XL.goA hT rfl rfl rfl rfl ?_
  refine XL.callGA hE rfl rfl rfl rfl rfl rfl rfl rfl (c7) rfl ?_
  refine XL.goA hT rfl rfl rfl rfl ?_; refine XL.fin ?_; (repeat (first | refine XK.norm rfl rfl ?_ | refine XK.rgnA hT rfl rfl rfl ?_ | refine XK.rgnB hT hm rfl rfl rfl ?_))
  (first | refine XK.out rfl rfl rfl ?_ | refine XK.outN rfl rfl rfl ?_)
  rw [show (r.2 == r.2) = true from beq_self_eq_true _, show (d.2 == d.2) = true from beq_self_eq_true _]
  rfl
theorem lawVSz (k : K) (hk : kW k) (l : List Am) (hl : ∀ a ∈ l, amW a) (day known t : Int) (ht : inK .u8 t) : Does Try.prog 4 [kV k, amsV l, .c (.int .i64 day), .c (.int .i64 known), .c (.int .u8 t)] (.c (.bool true)) := by
  have h : 0 ≤ t ∧ t ≤ 255 := by simpa [inK] using ht
  obtain ⟨n, rfl⟩ := Int.eq_ofNat_of_zero_le h.1
  exact lawVS k hk l hl day known n (by have := h.2; omega)
end Go.Proofs.Ytofdehlikigonaa
