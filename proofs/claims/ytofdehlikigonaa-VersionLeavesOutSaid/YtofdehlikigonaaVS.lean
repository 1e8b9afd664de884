/- The law VersionLeavesOut: the walk. -/
import Derived.Test.YtofdehlikigonaaGA
namespace Go.Proofs.Ytofdehlikigonaa
open Go.Eng
set_option maxRecDepth 10000
set_option linter.unusedSimpArgs false
set_option linter.unusedVariables false
noncomputable def foldI (k : K) (l : List Am) (day known : Int) (i : Nat) : K × List Int := (((seqA l).take i).filter (counts day known)).foldl stepA (k, [])
theorem foldI_zero (k : K) (l : List Am) (day known : Int) : foldI k l day known 0 = (k, []) := rfl
theorem foldI_snoc {k : K} {l : List Am} {day known : Int} {i : Nat} (hi : i < l.length) : foldI k l day known (i + 1) = if counts day known (amAt l i) = true then stepA (foldI k l day known i) (amAt l i) else foldI k l day known i := by
  have h1 : i < (seqA l).length := by rw [seqA_len]; exact hi
  have e : (seqA l).getD i default = amAt l i := by rw [List.getD_eq_getElem?_getD, seqA_at l hi]; rfl
  unfold foldI
  rw [filter_snoc h1, e]
  split
  · rw [List.foldl_append]; rfl
  · rfl
theorem foldI_all (k : K) (l : List Am) (day known : Int) : foldI k l day known l.length = forceF k l day known := by
  unfold foldI forceF
  rw [List.take_of_length_le (by rw [seqA_len]; exact Nat.le_refl _)]
theorem foldI_valid {k : K} {l : List Am} {day known : Int} (hl : ∀ a ∈ l, amW a) (h : kW k ∧ (kValid k).1 = 0) (i : Nat) : kW (foldI k l day known i).1 ∧ (kValid (foldI k l day known i).1).1 = 0 :=
  fold_valid (fun a ha => hl a ((seqA_perm l).mem_iff.1 (List.mem_of_mem_take (List.mem_filter.1 ha).1))) h
theorem stepA_len (s : K × List Int) (a : Am) : (stepA s a).2.length ≤ s.2.length + 1 := by
  unfold stepA
  split
  · simp
  · omega
theorem foldI_len {k : K} {l : List Am} {day known : Int} : ∀ {i : Nat}, i ≤ l.length → (foldI k l day known i).2.length ≤ i
  | 0, _ => Nat.le_refl _
  | i + 1, hi => by
    have ih := foldI_len (k := k) (day := day) (known := known) (show i ≤ l.length by omega)
    rw [foldI_snoc (by omega)]
    split
    · have := stepA_len (foldI k l day known i) (amAt l i); omega
    · omega
set_option maxHeartbeats 1000000 in
theorem lawVL (k : K) (hk : kW k) (l : List Am) (hl : ∀ a ∈ l, amW a) (day known : Int) : Does Try.prog 7 [kV k, amsV l, .c (.int .i64 day), .c (.int .i64 known)] (.c (.bool true)) := by
  refine Does.mk (fun _ => false) TT_ok Try.func7 rfl (by kernel_rfl) Try.ntmps7 rfl rfl fun E hT hE hN hR => ?_
  have hm : E.P.follows .mixedOrders = true := by rw [hE]; kernel_rfl
  refine XK.fact (Sat.rs_len (j := 1) rfl) fun hlen => ?_
  have hm1 : l.length ≤ 9223372036854775807 := hlen.1
  (repeat (first | refine XK.norm rfl rfl ?_ | refine XK.rgnA hT rfl rfl rfl ?_ | refine XK.rgnB hT hm rfl rfl rfl ?_)); refine XK.region ?_; refine XL.goA hT rfl rfl rfl rfl ?_
  refine XL.callLA hE rfl rfl rfl rfl trivial rfl (head25_ok) rfl ?_
  refine XL.goA hT rfl rfl rfl rfl ?_; refine XL.fin ?_; (repeat (first | refine XK.norm rfl rfl ?_ | refine XK.rgnA hT rfl rfl rfl ?_ | refine XK.rgnB hT hm rfl rfl rfl ?_))
  (repeat (first | refine XK.norm rfl rfl ?_ | refine XK.rgnA hT rfl rfl rfl ?_ | refine XK.rgnB hT hm rfl rfl rfl ?_)); refine XK.region ?_; refine XL.goA hT rfl rfl rfl rfl ?_
  refine XL.callLA hE rfl rfl rfl rfl trivial rfl (small25_ok k l hm1) rfl ?_
  refine XL.goA hT rfl rfl rfl rfl ?_; refine XL.fin ?_; (repeat (first | refine XK.norm rfl rfl ?_ | refine XK.rgnA hT rfl rfl rfl ?_ | refine XK.rgnB hT hm rfl rfl rfl ?_))
  (repeat (first | refine XK.norm rfl rfl ?_ | refine XK.rgnA hT rfl rfl rfl ?_ | refine XK.rgnB hT hm rfl rfl rfl ?_)); refine XK.cond rfl (fun h1 => ?_) (fun h1 => ?_) <;> (try simp at h1)
  · (repeat (first | refine XK.norm rfl rfl ?_ | refine XK.rgnA hT rfl rfl rfl ?_ | refine XK.rgnB hT hm rfl rfl rfl ?_))
    (first | refine XK.out rfl rfl rfl ?_ | refine XK.outN rfl rfl rfl ?_)
    rfl
  have hsm : small25B k l = true := by cases h : small25B k l <;> simp_all
  obtain ⟨hB, hl12, ha⟩ := small25_facts hsm
  have hok := amsOk_of hl ha
  have c1 := inForce_ok k hk l hok day known
  have n1 := inForceR_len k l day known
  have c2 := kValid_ok k hk
  rw [inForceR_small (by omega)] at c1 n1
  by_cases hv : (kValid k).1 = 0
  · rw [if_neg (by simpa using hv)] at c1 n1
    rw [hv] at c2
    dsimp only at c1 n1
    have hfv := force_valid (day := day) (known := known) hl ⟨hk, hv⟩
    have hfB := force_KB hB hk hv hl (day := day) (known := known)
    have hall := foldI_all k l day known
    have c3 := kValid_ok _ hfv.1
    rw [hfv.2] at c3
    have hI := fun i => foldI_valid (day := day) (known := known) hl ⟨hk, hv⟩ i
    have hJ := fun i (h : i ≤ l.length) => foldI_len (k := k) (day := day) (known := known) h
    have hS := fun i (h : i < l.length) => foldI_snoc (k := k) (day := day) (known := known) h
    have hz := foldI_zero k l day known
    generalize hF : foldI k l day known = F at *
    generalize forceF k l day known = r1 at *
    (repeat (first | refine XK.norm rfl rfl ?_ | refine XK.rgnA hT rfl rfl rfl ?_ | refine XK.rgnB hT hm rfl rfl rfl ?_)); refine XK.region ?_; refine XL.goA hT rfl rfl rfl rfl ?_
    refine XL.callKA hE rfl rfl rfl rfl trivial rfl rfl (c1) ?_
    refine XL.goA hT rfl rfl rfl rfl ?_; refine XL.fin ?_; (repeat (first | refine XK.norm rfl rfl ?_ | refine XK.rgnA hT rfl rfl rfl ?_ | refine XK.rgnB hT hm rfl rfl rfl ?_))
    (repeat (first | refine XK.norm rfl rfl ?_ | refine XK.rgnA hT rfl rfl rfl ?_ | refine XK.rgnB hT hm rfl rfl rfl ?_)); refine XK.region ?_; refine XL.goA hT rfl rfl rfl rfl ?_
    refine XL.callKA hE rfl rfl rfl rfl trivial rfl rfl (c2) ?_
    refine XL.goA hT rfl rfl rfl rfl ?_; refine XL.fin ?_; (repeat (first | refine XK.norm rfl rfl ?_ | refine XK.rgnA hT rfl rfl rfl ?_ | refine XK.rgnB hT hm rfl rfl rfl ?_))
    (repeat (first | refine XK.norm rfl rfl ?_ | refine XK.rgnA hT rfl rfl rfl ?_ | refine XK.rgnB hT hm rfl rfl rfl ?_)); refine XK.cond rfl (fun h3 => ?_) (fun h3 => ?_)
    · cases h3
    clear h3
    (repeat (first | refine XK.norm rfl rfl ?_ | refine XK.rgnA hT rfl rfl rfl ?_ | refine XK.rgnB hT hm rfl rfl rfl ?_)); refine XK.region ?_; refine XL.goA hT rfl rfl rfl rfl ?_
    refine XL.callKA hE rfl rfl rfl rfl trivial rfl rfl (order_ok l (by omega)) ?_
    refine XL.goA hT rfl rfl rfl rfl ?_; refine XL.fin ?_; (repeat (first | refine XK.norm rfl rfl ?_ | refine XK.rgnA hT rfl rfl rfl ?_ | refine XK.rgnB hT hm rfl rfl rfl ?_))
    have hol := ordI_len l
    refine XK.loop (ι := Nat) (fun i => ST.of [(1, amsV l), (2, .c (.int .i64 day)), (3, .c (.int .i64 known)), (9, .c (.bool true)), (10, .ptr 412 0), (11, intsV r1.2), (13, .c (.int .i64 0)), (15, intsV (ordI l)), (16, .vec 700 0), (17, .ptr 1089 0), (18, .c (.int .i64 i))]
        [(412, .cells 41 (kC r1.1)), (1089, .cells 41 (kC (F i).1)), (700, .vec 3 1 0 (F i).2.length (fun j => [.c (.int .i64 ((F i).2.getD j default))]))] 2000 134 (fun _ => false))
      (fun i => i ≤ l.length) (fun i => l.length - i) 0 (Nat.zero_le _)
      (Weak.trans (Weak.ghost (j := 16) (k := 700) (e := 3) (sz := 1) (f := fun _ => []) rfl rfl) (Weak.of hN rfl rfl rfl (by (repeat' (first | exact rfl | exact AvIs.refl _ | exact trivial | exact fun _ _ => rfl | exact fun _ _ => ⟨rfl, AvIs.refl _⟩ | refine ⟨?_, ?_⟩))) (by rw [hz]; exact ⟨by (repeat' (first | exact rfl | exact AvIs.refl _ | exact trivial | exact fun _ _ => rfl | exact fun _ _ => ⟨rfl, AvIs.refl _⟩ | refine ⟨?_, ?_⟩)), by (repeat' (first | exact rfl | exact AvIs.refl _ | exact trivial | exact fun _ _ => rfl | exact fun _ _ => ⟨rfl, AvIs.refl _⟩ | refine ⟨?_, ?_⟩)), ⟨rfl, rfl, rfl⟩, rfl, fun j hj => absurd hj (Nat.not_lt_zero _)⟩))) fun i hi => ?_
    (repeat (first | refine XK.norm rfl rfl ?_ | refine XK.rgnA hT rfl rfl rfl ?_ | refine XK.rgnB hT hm rfl rfl rfl ?_)); refine XK.cond rfl (fun hlt => ?_) (fun hlt => ?_) <;> (try simp at hlt)
    · have hil : i < l.length := by omega
      have hor := ordI_at l hil
      have hop : ordAt l i < l.length := ordAt_lt hil
      have hSi := hS i hil
      have hIi := hI i
      have hJi := hJ i hi
      have hao := hok _ (amAt_mem hil)
      have fx : (ordI l).getD (i : Int).toNat default = (ordAt l i : Nat) := hor
      have fa : l.getD ((ordAt l i : Nat) : Int).toNat default = amAt l i := rfl
      generalize F i = s at *
      obtain ⟨now, nums⟩ := s
      have hJi : nums.length ≤ i := hJi
      (repeat (first | refine XK.norm rfl rfl ?_ | refine XK.rgnA hT rfl rfl rfl ?_ | refine XK.rgnB hT hm rfl rfl rfl ?_))
      rw [fx]
      (repeat (first | refine XK.norm rfl rfl ?_ | refine XK.rgnA hT rfl rfl rfl ?_ | refine XK.rgnB hT hm rfl rfl rfl ?_)); refine XK.cond rfl (fun hb => ?_) (fun hb => ?_)
      · exfalso
        have e1 : decide (((ordAt l i : Nat) : Int) < 0) = false := by simp only [decide_eq_false_iff_not]; omega
        have e2 : decide ((l.length : Int) ≤ ((ordAt l i : Nat) : Int)) = false := by simp only [decide_eq_false_iff_not]; omega
        rw [e1, e2] at hb
        cases hb
      clear hb
      (repeat (first | refine XK.norm rfl rfl ?_ | refine XK.rgnA hT rfl rfl rfl ?_ | refine XK.rgnB hT hm rfl rfl rfl ?_))
      rw [fx, fa]
      generalize amAt l i = a at *
      (repeat (first | refine XK.norm rfl rfl ?_ | refine XK.rgnA hT rfl rfl rfl ?_ | refine XK.rgnB hT hm rfl rfl rfl ?_)); refine XK.cond rfl (fun h4 => ?_) (fun h4 => ?_)
      · have h5 : ¬ counts day known a = true := by
          simp only [counts, Bool.and_eq_true, decide_eq_true_eq]
          simp only [Bool.or_eq_true, decide_eq_true_eq] at h4
          omega
        rw [if_neg h5] at hSi
        (repeat (first | refine XK.norm rfl rfl ?_ | refine XK.rgnA hT rfl rfl rfl ?_ | refine XK.rgnB hT hm rfl rfl rfl ?_))
        refine XK.inv ⟨i + 1, by omega, ?_, by omega⟩
        rw [hSi]
        exact (Weak.of hN rfl rfl rfl (by (repeat' (first | exact rfl | exact AvIs.refl _ | exact trivial | exact fun _ _ => rfl | exact fun _ _ => ⟨rfl, AvIs.refl _⟩ | refine ⟨?_, ?_⟩))) (by (repeat' (first | exact rfl | exact AvIs.refl _ | exact trivial | exact fun _ _ => rfl | exact fun _ _ => ⟨rfl, AvIs.refl _⟩ | refine ⟨?_, ?_⟩))))
      have h5 : counts day known a = true := by
        simp only [counts, Bool.and_eq_true, decide_eq_true_eq]
        simp only [Bool.or_eq_false_iff, decide_eq_false_iff_not] at h4
        omega
      rw [if_pos h5] at hSi
      have ap := apply_ok now hIi.1 a.patch hao.1.2.2.2 hao.2.1 hao.2.2
      have hsa : stepA (now, nums) a = if (applyR now a.patch).2 = 0 then ((applyR now a.patch).1, nums ++ [a.number]) else (now, nums) := rfl
      rw [hsa] at hSi
      generalize applyR now a.patch = r at *
      clear hsa
      refine XK.weak (st' := ST.of [(1, amsV l), (2, .c (.int .i64 day)), (3, .c (.int .i64 known)), (9, .c (.bool true)), (10, .ptr 412 0), (11, intsV r1.2), (13, .c (.int .i64 0)), (15, intsV (ordI l)), (16, .vec 700 0), (17, .ptr 1089 0), (18, .c (.int .i64 i)), (19, .ptr 2287 0)]
        [(412, .cells 41 (kC r1.1)), (1089, .cells 41 (kC now)), (700, .vec 3 1 0 nums.length (fun j => [.c (.int .i64 (nums.getD j default))])), (2287, .cells 35 (amC a))] 3000 134 (fun _ => false)) (Weak.of hN rfl rfl rfl (by (repeat' (first | exact rfl | exact AvIs.refl _ | exact trivial | exact fun _ _ => rfl | exact fun _ _ => ⟨rfl, AvIs.refl _⟩ | refine ⟨?_, ?_⟩))) (by (repeat' (first | exact rfl | exact AvIs.refl _ | exact trivial | exact fun _ _ => rfl | exact fun _ _ => ⟨rfl, AvIs.refl _⟩ | refine ⟨?_, ?_⟩)))) ?_
      (repeat (first | refine XK.norm rfl rfl ?_ | refine XK.rgnA hT rfl rfl rfl ?_ | refine XK.rgnB hT hm rfl rfl rfl ?_)); refine XK.region ?_; refine XL.goA hT rfl rfl rfl rfl ?_
      refine XL.callKA hE rfl rfl rfl rfl trivial rfl rfl (ap) ?_
      refine XL.goA hT rfl rfl rfl rfl ?_; refine XL.fin ?_; (repeat (first | refine XK.norm rfl rfl ?_ | refine XK.rgnA hT rfl rfl rfl ?_ | refine XK.rgnB hT hm rfl rfl rfl ?_))
      (repeat (first | refine XK.norm rfl rfl ?_ | refine XK.rgnA hT rfl rfl rfl ?_ | refine XK.rgnB hT hm rfl rfl rfl ?_)); refine XK.cond rfl (fun h7 => ?_) (fun h7 => ?_) <;> (try simp at h7)
      · rw [if_pos h7] at hSi
        (repeat (first | refine XK.norm rfl rfl ?_ | refine XK.rgnA hT rfl rfl rfl ?_ | refine XK.rgnB hT hm rfl rfl rfl ?_))
        refine XK.inv ⟨i + 1, by omega, ?_, by omega⟩
        rw [hSi, show (nums ++ [a.number]).length = nums.length + 1 by simp]
        exact Weak.trans (Weak.stamp (k := 700) (t := 0) hN rfl rfl) (Weak.of hN rfl rfl rfl (by (repeat' (first | exact rfl | exact AvIs.refl _ | exact trivial | exact fun _ _ => rfl | exact fun _ _ => ⟨rfl, AvIs.refl _⟩ | refine ⟨?_, ?_⟩))) ⟨by (repeat' (first | exact rfl | exact AvIs.refl _ | exact trivial | exact fun _ _ => rfl | exact fun _ _ => ⟨rfl, AvIs.refl _⟩ | refine ⟨?_, ?_⟩)), by (repeat' (first | exact rfl | exact AvIs.refl _ | exact trivial | exact fun _ _ => rfl | exact fun _ _ => ⟨rfl, AvIs.refl _⟩ | refine ⟨?_, ?_⟩)), ⟨rfl, rfl, rfl⟩, rfl, ints_appV nums a.number _ rfl⟩)
      · rw [if_neg h7] at hSi
        (repeat (first | refine XK.norm rfl rfl ?_ | refine XK.rgnA hT rfl rfl rfl ?_ | refine XK.rgnB hT hm rfl rfl rfl ?_))
        refine XK.inv ⟨i + 1, by omega, ?_, by omega⟩
        rw [hSi]
        exact (Weak.of hN rfl rfl rfl (by (repeat' (first | exact rfl | exact AvIs.refl _ | exact trivial | exact fun _ _ => rfl | exact fun _ _ => ⟨rfl, AvIs.refl _⟩ | refine ⟨?_, ?_⟩))) (by (repeat' (first | exact rfl | exact AvIs.refl _ | exact trivial | exact fun _ _ => rfl | exact fun _ _ => ⟨rfl, AvIs.refl _⟩ | refine ⟨?_, ?_⟩))))
    have hie : i = l.length := by omega
    subst hie
    rw [hall]
    have c4 := same13_ok r1.1 r1.1 hfB
    have c5 := ints13_ok r1.2 r1.2 (by omega)
    rw [sameR_self] at c4
    rw [ints_self] at c5
    refine XK.weak (Weak.frozen (k := 700) hN rfl rfl) ?_
    (repeat (first | refine XK.norm rfl rfl ?_ | refine XK.rgnA hT rfl rfl rfl ?_ | refine XK.rgnB hT hm rfl rfl rfl ?_)); refine XK.region ?_; refine XL.goA hT rfl rfl rfl rfl ?_
    refine XL.callKA hE rfl rfl rfl rfl trivial rfl rfl (c3) ?_
    refine XL.goA hT rfl rfl rfl rfl ?_; refine XL.fin ?_; (repeat (first | refine XK.norm rfl rfl ?_ | refine XK.rgnA hT rfl rfl rfl ?_ | refine XK.rgnB hT hm rfl rfl rfl ?_))
    (repeat (first | refine XK.norm rfl rfl ?_ | refine XK.rgnA hT rfl rfl rfl ?_ | refine XK.rgnB hT hm rfl rfl rfl ?_)); refine XK.region ?_; refine XL.goA hT rfl rfl rfl rfl ?_
    refine XL.callGA hE rfl rfl rfl rfl rfl rfl rfl rfl (c4) rfl ?_
    refine XL.goA hT rfl rfl rfl rfl ?_
    refine XL.callGA hE rfl rfl rfl rfl rfl rfl rfl rfl (c5) rfl ?_
    refine XL.goA hT rfl rfl rfl rfl ?_; refine XL.fin ?_; (repeat (first | refine XK.norm rfl rfl ?_ | refine XK.rgnA hT rfl rfl rfl ?_ | refine XK.rgnB hT hm rfl rfl rfl ?_))
    (first | refine XK.out rfl rfl rfl ?_ | refine XK.outN rfl rfl rfl ?_)
    rfl
  · rw [if_pos hv] at c1
    (repeat (first | refine XK.norm rfl rfl ?_ | refine XK.rgnA hT rfl rfl rfl ?_ | refine XK.rgnB hT hm rfl rfl rfl ?_)); refine XK.region ?_; refine XL.goA hT rfl rfl rfl rfl ?_
    refine XL.callKA hE rfl rfl rfl rfl trivial rfl rfl (c1) ?_
    refine XL.goA hT rfl rfl rfl rfl ?_; refine XL.fin ?_; (repeat (first | refine XK.norm rfl rfl ?_ | refine XK.rgnA hT rfl rfl rfl ?_ | refine XK.rgnB hT hm rfl rfl rfl ?_))
    (repeat (first | refine XK.norm rfl rfl ?_ | refine XK.rgnA hT rfl rfl rfl ?_ | refine XK.rgnB hT hm rfl rfl rfl ?_)); refine XK.region ?_; refine XL.goA hT rfl rfl rfl rfl ?_
    refine XL.callKA hE rfl rfl rfl rfl trivial rfl rfl (c2) ?_
    refine XL.goA hT rfl rfl rfl rfl ?_; refine XL.fin ?_; (repeat (first | refine XK.norm rfl rfl ?_ | refine XK.rgnA hT rfl rfl rfl ?_ | refine XK.rgnB hT hm rfl rfl rfl ?_))
    (repeat (first | refine XK.norm rfl rfl ?_ | refine XK.rgnA hT rfl rfl rfl ?_ | refine XK.rgnB hT hm rfl rfl rfl ?_)); refine XK.cond rfl (fun h3 => ?_) (fun h3 => ?_)
    · (repeat (first | refine XK.norm rfl rfl ?_ | refine XK.rgnA hT rfl rfl rfl ?_ | refine XK.rgnB hT hm rfl rfl rfl ?_))
      (first | refine XK.out rfl rfl rfl ?_ | refine XK.outN rfl rfl rfl ?_)
      simp [hv]
    · cases h3
end Go.Proofs.Ytofdehlikigonaa
