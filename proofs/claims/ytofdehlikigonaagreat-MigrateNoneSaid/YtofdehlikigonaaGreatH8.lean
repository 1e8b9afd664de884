import Derived.Test.YtofdehlikigonaaGreatH7
import Derived.Test.YtofdehlikigonaaGreatH6
section
/- Contracts: package migrate: Run. -/
namespace Go.Proofs.YtofdehlikigonaaGreat
open Go.Eng
set_option maxRecDepth 10000
set_option linter.unusedSimpArgs false
set_option linter.unusedVariables false
theorem seqA_getD {l : List Am} {i : Nat} (hi : i < l.length) : (seqA l).getD i default = l.getD (ordAt l i) default := by
  have h1 : i < (ordL l).length := by rw [ordL_len]; exact hi
  unfold seqA ordAt
  simp [List.getD, h1]
theorem seqA_length (l : List Am) : (seqA l).length = l.length := by rw [seqA, List.length_map, ordL_len]
theorem ordAt_in {l : List Am} {i : Nat} (hi : i < l.length) : ordAt l i < l.length := by
  have h1 : i < (ordL l).length := by rw [ordL_len]; exact hi
  unfold ordAt
  rw [List.getD_eq_getElem?_getD, List.getElem?_eq_getElem h1]
  exact ordL_lt (List.getElem_mem h1)
theorem consA_succ {l : List Am} {known : Int} {i : Nat} (hi : i < l.length) : consA l known (i + 1) = if (l.getD (ordAt l i) default).known ≤ known then consA l known i ++ [l.getD (ordAt l i) default] else consA l known i := by
  have h1 : i < (seqA l).length := by rw [seqA_length]; exact hi
  have h2 : (seqA l)[i] = l.getD (ordAt l i) default := by
    have := seqA_getD hi
    rwa [List.getD_eq_getElem?_getD, List.getElem?_eq_getElem h1] at this
  unfold consA
  rw [List.take_add_one, List.getElem?_eq_getElem h1, h2, List.filter_append]
  by_cases h : (l.getD (ordAt l i) default).known ≤ known
  · rw [if_pos h, show (some (l.getD (ordAt l i) default)).toList = [l.getD (ordAt l i) default] from rfl, List.filter_cons_of_pos (by simpa using h)]; rfl
  · rw [if_neg h, show (some (l.getD (ordAt l i) default)).toList = [l.getD (ordAt l i) default] from rfl, List.filter_cons_of_neg (by simpa using h)]; exact List.append_nil _
theorem consA_len (l : List Am) (known : Int) (i : Nat) : (consA l known i).length ≤ l.length := by
  have := List.length_filter_le (fun a : Am => decide (a.known ≤ known)) ((seqA l).take i)
  rw [List.length_take, seqA_length] at this
  unfold consA
  omega
theorem consA_gd {l : List Am} (h : amGd l) (known : Int) (i : Nat) : amGd (consA l known i) := fun a ha =>
  h a ((seqA_perm l).mem_iff.1 (List.mem_of_mem_take (List.mem_filter.1 ha).1))
theorem row_snoc {α : Type} [Inhabited α] (f : α → List AV) (L : List α) (x : α) (h : Nat → List AV) (hx : h 0 = f x) : ∀ j, j < L.length + 1 → f ((L ++ [x]).getD j default) = catF L.length (fun i => f (L.getD i default)) h j := by
  intro j hj
  unfold catF
  by_cases h1 : j < L.length
  · have : Nat.blt j L.length = true := by simpa using h1
    rw [this, cond_true]
    simp [List.getD, List.getElem?_append_left h1]
  · have : Nat.blt j L.length = false := by
      cases hb : Nat.blt j L.length with
      | false => rfl
      | true => simp at hb; exact absurd hb h1
    have e : j = L.length := by omega
    rw [this, cond_false, e, Nat.sub_self, hx]
    simp [List.getD]
theorem len_snoc {α : Type} (L : List α) (x : α) : (L ++ [x]).length = L.length + 1 := by simp
/-- What Run holds before the i-th stage is yielded. -/
noncomputable def rnS (k : K) (l : List Am) (tr : List Int) : Nat → RnS
  | 0 => (0, [], [])
  | i + 1 => if (rnS k l tr i).1 ≠ 0 then rnS k l tr i else if (stgTo k l tr i).2 ≠ 0 then ((stgTo k l tr i).2, (rnS k l tr i).2) else (0, (rnS k l tr i).2.1 ++ [(stgTo k l tr i).1.1], (rnS k l tr i).2.2 ++ [(stgTo k l tr i).1.2])
theorem stg_before {k : K} {l : List Am} {tr : List Int} {i : Nat} (h : (stgTo k l tr i).2 = 0) : ∀ j, j ≤ i → (stgTo k l tr j).2 = 0 := fun j hj => by
  by_cases h0 : (stgTo k l tr j).2 = 0
  · exact h0
  · rw [stg_stop h0 i hj] at h; exact absurd h h0
theorem rnS_good {k : K} {l : List Am} {tr : List Int} : ∀ i, (∀ j, j < i → (stgTo k l tr j).2 = 0) → rnS k l tr i = (0, (List.range i).map (fun j => (stgTo k l tr j).1.1), (List.range i).map (fun j => (stgTo k l tr j).1.2))
  | 0, _ => rfl
  | i + 1, h => by
    rw [rnS, rnS_good i fun j hj => h j (by omega), if_neg (by simp), if_neg (by simpa using h i (by omega)), List.range_succ, List.map_append, List.map_append]
    rfl
theorem rnS_bad {k : K} {l : List Am} {tr : List Int} : ∀ i, (stgTo k l tr i).2 ≠ 0 → (rnS k l tr (i + 1)).1 = (stgTo k l tr i).2
  | 0, h => by rw [rnS, if_neg (by simp [rnS]), if_pos h]
  | i + 1, h => by
    by_cases h0 : (stgTo k l tr i).2 = 0
    · have hb := stg_before h0
      rw [rnS, rnS_good (i + 1) fun j hj => hb j (by omega), if_neg (by simp), if_pos h]
    · have hs := stg_stop h0 (i + 1) (by omega)
      rw [rnS, if_pos (by rw [rnS_bad i h0]; exact h0), rnS_bad i h0, hs]
theorem rnS_stop {k : K} {l : List Am} {tr : List Int} {i : Nat} (h : (rnS k l tr i).1 ≠ 0) : ∀ m, i ≤ m → rnS k l tr m = rnS k l tr i := by
  intro m hm
  induction m with
  | zero => have : i = 0 := by omega
            rw [this]
  | succ m ih =>
    by_cases h1 : i = m + 1
    · rw [h1]
    · have h2 := ih (by omega)
      rw [rnS, if_pos (by rw [h2]; exact h), h2]
def ksV (l : List K) : AV := rowL kC 7 l
def stsV (l : List St) : AV := rowL stC 4 l
theorem runErr_ok (k : K) (hk : kW k) (l : List Am) (known : Int) (tr : List Int) (h : (startS k).2 ≠ 0) : Does Tryz.prog 19 [kV k, amsV l, .c (.int .i64 known), intsV tr] (.tup [.c (.slice none 0 0), .c (.slice none 0 0), .c (.int .i64 1)]) := by
  have hs := startS_ok k hk
  generalize startS k = s at *
  refine Does.mk (fun _ => false) TT_ok Tryz.func19 rfl (by kernel_rfl) Tryz.ntmps19 rfl rfl fun E hT hE hN hR => ?_
  have hm : E.P.follows .mixedOrders = true := by rw [hE]; kernel_rfl
  (repeat (first | refine XK.norm rfl rfl ?_ | refine XK.rgnA hT rfl rfl rfl ?_ | refine XK.rgnB hT hm rfl rfl rfl ?_))
  (repeat (first | refine XK.norm rfl rfl ?_ | refine XK.rgnA hT rfl rfl rfl ?_ | refine XK.rgnB hT hm rfl rfl rfl ?_)); refine XK.region ?_; refine XL.goA hT rfl rfl rfl rfl ?_
  refine XL.callKA hE rfl rfl rfl rfl trivial rfl rfl (hs) ?_
  refine XL.goA hT rfl rfl rfl rfl ?_; refine XL.fin ?_; (repeat (first | refine XK.norm rfl rfl ?_ | refine XK.rgnA hT rfl rfl rfl ?_ | refine XK.rgnB hT hm rfl rfl rfl ?_))
  (repeat (first | refine XK.norm rfl rfl ?_ | refine XK.rgnA hT rfl rfl rfl ?_ | refine XK.rgnB hT hm rfl rfl rfl ?_)); refine XK.cond rfl (fun h1 => ?_) (fun h1 => ?_) <;> (try simp at h1)
  · (repeat (first | refine XK.norm rfl rfl ?_ | refine XK.rgnA hT rfl rfl rfl ?_ | refine XK.rgnB hT hm rfl rfl rfl ?_))
    (first | refine XK.out rfl rfl rfl ?_ | refine XK.outN rfl rfl rfl ?_)
    rfl
  · exact absurd h1 h
end Go.Proofs.YtofdehlikigonaaGreat
end
section
/- Contracts: package migrate: Run, the walk. -/
namespace Go.Proofs.YtofdehlikigonaaGreat
open Go.Eng
set_option maxRecDepth 10000
set_option linter.unusedSimpArgs false
set_option linter.unusedVariables false
set_option maxHeartbeats 1000000 in
theorem runGo_ok (k : K) (hk : kW k) (l : List Am) (hl : amGd l) (known : Int) (tr : List Int) (h0 : (startS k).2 = 0) :
    Does Tryz.prog 19 [kV k, amsV l, .c (.int .i64 known), intsV tr] (.tup [ksV (runR k l known tr).1.1, stsV (runR k l known tr).1.2, .c (.int .i64 (runR k l known tr).2)]) := by
  have hs := startS_ok k hk
  have hv := (startS_zero hk h0).1
  unfold runR
  rw [if_neg (by simpa using h0)]
  generalize startS k = s0 at hs h0
  obtain ⟨s0, e0⟩ := s0
  dsimp only at h0
  subst h0
  refine Does.mk (fun _ => false) TT_ok Tryz.func19 rfl (by kernel_rfl) Tryz.ntmps19 rfl rfl fun E hT hE hN hR => ?_
  have hm : E.P.follows .mixedOrders = true := by rw [hE]; kernel_rfl
  (repeat (first | refine XK.norm rfl rfl ?_ | refine XK.rgnA hT rfl rfl rfl ?_ | refine XK.rgnB hT hm rfl rfl rfl ?_))
  (repeat (first | refine XK.norm rfl rfl ?_ | refine XK.rgnA hT rfl rfl rfl ?_ | refine XK.rgnB hT hm rfl rfl rfl ?_)); refine XK.region ?_; refine XL.goA hT rfl rfl rfl rfl ?_
  refine XL.callKA hE rfl rfl rfl rfl trivial rfl rfl (hs) ?_
  refine XL.goA hT rfl rfl rfl rfl ?_; refine XL.fin ?_; (repeat (first | refine XK.norm rfl rfl ?_ | refine XK.rgnA hT rfl rfl rfl ?_ | refine XK.rgnB hT hm rfl rfl rfl ?_))
  (repeat (first | refine XK.norm rfl rfl ?_ | refine XK.rgnA hT rfl rfl rfl ?_ | refine XK.rgnB hT hm rfl rfl rfl ?_)); refine XK.cond rfl (fun h1 => ?_) (fun h1 => ?_) <;> (try simp at h1)
  (repeat (first | refine XK.norm rfl rfl ?_ | refine XK.rgnA hT rfl rfl rfl ?_ | refine XK.rgnB hT hm rfl rfl rfl ?_)); refine XK.cond rfl (fun h2 => ?_) (fun h2 => ?_) <;> (try simp at h2)
  · rw [if_pos (by omega)]
    (repeat (first | refine XK.norm rfl rfl ?_ | refine XK.rgnA hT rfl rfl rfl ?_ | refine XK.rgnB hT hm rfl rfl rfl ?_))
    refine XK.outL rfl rfl rfl ⟨⟨rfl, rfl⟩, ⟨rfl, rfl⟩, rfl⟩
  rw [if_neg (by omega)]
  have hll : l.length ≤ 60 := by omega
  have htl : tr.length ≤ 4000 := by omega
  (repeat (first | refine XK.norm rfl rfl ?_ | refine XK.rgnA hT rfl rfl rfl ?_ | refine XK.rgnB hT hm rfl rfl rfl ?_))
  (repeat (first | refine XK.norm rfl rfl ?_ | refine XK.rgnA hT rfl rfl rfl ?_ | refine XK.rgnB hT hm rfl rfl rfl ?_)); refine XK.region ?_; refine XL.goA hT rfl rfl rfl rfl ?_
  refine XL.callKA hE rfl rfl rfl rfl trivial rfl rfl (order_ok l (by omega)) ?_
  refine XL.goA hT rfl rfl rfl rfl ?_; refine XL.fin ?_; (repeat (first | refine XK.norm rfl rfl ?_ | refine XK.rgnA hT rfl rfl rfl ?_ | refine XK.rgnB hT hm rfl rfl rfl ?_))
  have hol := ordI_len l
  refine XK.loop (ι := Nat) (fun i => ST.of [(1, amsV l), (2, .c (.int .i64 known)), (3, intsV tr), (4, .ptr 4 0), (8, .ptr 8 0), (9, .ptr 9 0), (10, .ptr 10 0), (13, .vec 700 0), (36, intsV (ordI l)), (37, .c (.int .i64 l.length)), (38, .c (.int .i64 i))]
      [(4, .cells 27 (kC k)), (8, .cells 57 [.c (.slice none 0 0)]), (9, .cells 58 [.c (.slice none 0 0)]), (10, .cells 43 [.c (.int .i64 0)]), (700, .vec 69 22 0 (consA l known i).length (fun j => amC ((consA l known i).getD j default)))] 1000 79 (fun _ => false))
    (fun i => i ≤ l.length) (fun i => l.length - i) 0 (Nat.zero_le _)
    (Weak.trans (Weak.ghost (j := 13) (k := 700) (e := 69) (sz := 22) (f := fun _ => []) rfl rfl) (Weak.of hN rfl rfl rfl (by (repeat' (first | exact rfl | exact AvIs.refl _ | exact trivial | exact fun _ _ => rfl | exact fun _ _ => ⟨rfl, AvIs.refl _⟩ | exact cI (by omega) | exact (cI (by omega)) | refine ⟨?_, ?_⟩))) (by (repeat' (first | exact rfl | exact AvIs.refl _ | exact trivial | exact fun _ _ => rfl | exact fun _ _ => ⟨rfl, AvIs.refl _⟩ | exact cI (by omega) | exact (fun j hj => absurd hj (Nat.not_lt_zero _)) | refine ⟨?_, ?_⟩))))) fun i hi => ?_
  (repeat (first | refine XK.norm rfl rfl ?_ | refine XK.rgnA hT rfl rfl rfl ?_ | refine XK.rgnB hT hm rfl rfl rfl ?_)); refine XK.cond rfl (fun hlt => ?_) (fun hlt => ?_) <;> (try simp at hlt)
  · have hil : i < l.length := by omega
    have fx : (ordI l).getD (i : Int).toNat default = (ordAt l i : Nat) := ordI_at l hil
    have hop := ordAt_in hil
    have fa : l.getD ((ordAt l i : Nat) : Int).toNat default = l.getD (ordAt l i) default := rfl
    have hsn := consA_succ (known := known) hil
    have hle := consA_len l known i
    (repeat (first | refine XK.norm rfl rfl ?_ | refine XK.rgnA hT rfl rfl rfl ?_ | refine XK.rgnB hT hm rfl rfl rfl ?_))
    rw [fx]
    generalize hop' : ordAt l i = o at *
    (repeat (first | refine XK.norm rfl rfl ?_ | refine XK.rgnA hT rfl rfl rfl ?_ | refine XK.rgnB hT hm rfl rfl rfl ?_))
    rw [fa]
    generalize l.getD o default = a at *
    (repeat (first | refine XK.norm rfl rfl ?_ | refine XK.rgnA hT rfl rfl rfl ?_ | refine XK.rgnB hT hm rfl rfl rfl ?_)); refine XK.cond rfl (fun h3 => ?_) (fun h3 => ?_)
    · have h3 : a.known ≤ known := by simpa using h3
      rw [if_pos h3] at hsn
      generalize consA l known i = L at *
      (repeat (first | refine XK.norm rfl rfl ?_ | refine XK.rgnA hT rfl rfl rfl ?_ | refine XK.rgnB hT hm rfl rfl rfl ?_))
      rw [fa]
      refine XK.inv ⟨i + 1, hil, ?_, by omega⟩
      rw [hsn, len_snoc]
      exact Weak.trans (Weak.stamp (k := 700) (t := 0) hN rfl rfl) (Weak.of hN rfl rfl rfl (by (repeat' (first | exact rfl | exact AvIs.refl _ | exact trivial | exact fun _ _ => rfl | exact fun _ _ => ⟨rfl, AvIs.refl _⟩ | refine ⟨?_, ?_⟩))) ⟨by (repeat' (first | exact rfl | exact AvIs.refl _ | exact trivial | exact fun _ _ => rfl | exact fun _ _ => ⟨rfl, AvIs.refl _⟩ | refine ⟨?_, ?_⟩)), by (repeat' (first | exact rfl | exact AvIs.refl _ | exact trivial | exact fun _ _ => rfl | exact fun _ _ => ⟨rfl, AvIs.refl _⟩ | refine ⟨?_, ?_⟩)), by (repeat' (first | exact rfl | exact AvIs.refl _ | exact trivial | exact fun _ _ => rfl | exact fun _ _ => ⟨rfl, AvIs.refl _⟩ | refine ⟨?_, ?_⟩)), by (repeat' (first | exact rfl | exact AvIs.refl _ | exact trivial | exact fun _ _ => rfl | exact fun _ _ => ⟨rfl, AvIs.refl _⟩ | refine ⟨?_, ?_⟩)), ⟨rfl, rfl, rfl⟩, rfl, row_snoc amC _ _ _ rfl⟩)
    · have h3 : ¬ a.known ≤ known := by simpa using h3
      rw [if_neg h3] at hsn
      (repeat (first | refine XK.norm rfl rfl ?_ | refine XK.rgnA hT rfl rfl rfl ?_ | refine XK.rgnB hT hm rfl rfl rfl ?_))
      refine XK.inv ⟨i + 1, hil, ?_, by omega⟩
      rw [hsn]
      exact (Weak.of hN rfl rfl rfl (by (repeat' (first | exact rfl | exact AvIs.refl _ | exact trivial | exact fun _ _ => rfl | exact fun _ _ => ⟨rfl, AvIs.refl _⟩ | refine ⟨?_, ?_⟩))) (by (repeat' (first | exact rfl | exact AvIs.refl _ | exact trivial | exact fun _ _ => rfl | exact fun _ _ => ⟨rfl, AvIs.refl _⟩ | refine ⟨?_, ?_⟩))))
  have hie : i = l.length := by omega
  subst hie
  clear hlt hi
  have hcl := consA_len l known l.length
  have hcg := consA_gd hl known l.length
  have hkg : kGd k := ⟨hk, hv⟩
  generalize consA l known l.length = A at *
  have hst := stagesC_ok k A tr
  refine XK.weak (Weak.trans (Weak.frozen (k := 700) hN rfl rfl) (Weak.of (L := [(3, intsV tr), (4, .ptr 4 0), (8, .ptr 8 0), (9, .ptr 9 0), (10, .ptr 10 0), (13, amsV A)])
    (O := [(4, .cells 27 (kC k)), (8, .cells 57 [.c (.slice none 0 0)]), (9, .cells 58 [.c (.slice none 0 0)]), (10, .cells 43 [.c (.int .i64 0)])]) (nx := 2000) (nt := 79) (md := fun _ => false) hN rfl rfl rfl (by (repeat' (first | exact rfl | exact AvIs.refl _ | exact trivial | exact fun _ _ => rfl | exact fun _ _ => ⟨rfl, AvIs.refl _⟩ | refine ⟨?_, ?_⟩))) (by (repeat' (first | exact rfl | exact AvIs.refl _ | exact trivial | exact fun _ _ => rfl | exact fun _ _ => ⟨rfl, AvIs.refl _⟩ | refine ⟨?_, ?_⟩))))) ?_
  (repeat (first | refine XK.norm rfl rfl ?_ | refine XK.rgnA hT rfl rfl rfl ?_ | refine XK.rgnB hT hm rfl rfl rfl ?_))
  (repeat (first | refine XK.norm rfl rfl ?_ | refine XK.rgnA hT rfl rfl rfl ?_ | refine XK.rgnB hT hm rfl rfl rfl ?_)); refine XK.region ?_; refine XL.goA hT rfl rfl rfl rfl ?_
  refine XL.callKA hE rfl rfl rfl rfl trivial rfl rfl (hst) ?_
  refine XL.goA hT rfl rfl rfl rfl ?_; refine XL.fin ?_; (repeat (first | refine XK.norm rfl rfl ?_ | refine XK.rgnA hT rfl rfl rfl ?_ | refine XK.rgnB hT hm rfl rfl rfl ?_))
  generalize hsE : rnS k A tr (tr.length + 1) = sE
  have hsE : sE = rnS k A tr (tr.length + 1) := hsE.symm
  refine XK.weak (Weak.trans (Weak.ghostC (c := 2016) (k := 2017) (e := 27) (sz := 7) (f := fun _ => []) rfl rfl rfl) (Weak.trans (Weak.ghostC (c := 2096) (k := 2097) (e := 38) (sz := 4) (f := fun _ => []) rfl rfl rfl)
    (Weak.of (L := [(8, .ptr 8 0), (9, .ptr 9 0), (10, .ptr 10 0), (16, .ptr 2016 0), (17, .ptr 2096 0), (60, .fn (.func 59) [] [.rptr (kC k), .rptr [amsV A], .rptr [intsV tr]])])
      (O := [(8, .cells 57 [.c (.slice none 0 0)]), (9, .cells 58 [.c (.slice none 0 0)]), (10, .cells 43 [.c (.int .i64 0)]), (2016, .cells 57 [.vec 2017 0]), (2017, .vec 27 7 0 0 (fun i => kC (([] : List K).getD i default))), (2096, .cells 58 [.vec 2097 0]), (2097, .vec 38 4 0 0 (fun i => stC (([] : List St).getD i default)))])
      (nx := 3000) (nt := 79) (md := fun _ => false) hN rfl rfl rfl (by (repeat' (first | exact rfl | exact AvIs.refl _ | exact trivial | exact fun _ _ => rfl | exact fun _ _ => ⟨rfl, AvIs.refl _⟩ | refine ⟨?_, ?_⟩))) (by (repeat' (first | exact rfl | exact AvIs.refl _ | exact trivial | exact fun _ _ => rfl | exact fun _ _ => ⟨rfl, AvIs.refl _⟩ | exact cI (by omega) | exact (fun i hi => absurd hi (Nat.not_lt_zero _)) | refine ⟨?_, ?_⟩)))))) ?_
  refine XK.rangeFunc 900 [8, 9, 10, 2016, 2017, 2096, 2097] (frL 79 [(8, .ptr 8 0), (9, .ptr 9 0), (10, .ptr 10 0), (16, .ptr 2016 0), (17, .ptr 2096 0)])
    (ST.of [(8, .ptr 8 0), (9, .ptr 9 0), (10, .ptr 10 0), (16, .ptr 2016 0), (17, .ptr 2096 0)] [(8, .cells 57 [.c (.slice none 0 0)]), (9, .cells 58 [.c (.slice none 0 0)]), (10, .cells 43 [.c (.int .i64 sE.1)]), (2016, .cells 57 [.vec 2017 (2 * sE.2.1.length)]), (2017, .vec 27 7 (2 * sE.2.1.length) sE.2.1.length (fun i => kC (sE.2.1.getD i default))), (2096, .cells 58 [.vec 2097 (2 * sE.2.2.length)]), (2097, .vec 38 4 (2 * sE.2.2.length) sE.2.2.length (fun i => stC (sE.2.2.getD i default)))] 4000 79 (fun _ => false))
    (res := .tup []) (args' := [.rptr (kC k), .rptr [amsV A], .rptr [intsV tr]]) (s := if (stgTo k A tr tr.length).2 = 0 then .ready else .done) (pend := if (stgTo k A tr tr.length).2 = 0 then none else some .ret) (O' := runO sE.1 sE.2.1 sE.2.2) (O := runO 0 [] []) hR rfl trivial rfl (frL_length _ _) (frL_is (by (repeat' (first | exact rfl | exact AvIs.refl _ | exact trivial | exact fun _ _ => rfl | exact fun _ _ => ⟨rfl, AvIs.refl _⟩ | refine ⟨?_, ?_⟩)))) (fun L D fn => ?_) rfl (by (repeat' (first | exact rfl | exact AvIs.refl _ | exact trivial | exact fun _ _ => rfl | exact fun _ _ => ⟨rfl, AvIs.refl _⟩ | refine ⟨?_, ?_⟩))) rfl rfl (by (repeat' (first | exact rfl | exact AvIs.refl _ | exact trivial | exact fun _ _ => rfl | exact fun _ _ => ⟨rfl, AvIs.refl _⟩ | refine ⟨?_, ?_⟩))) rfl rfl (by split <;> simp) (fun L D fn cs => (Weak.of hN rfl rfl rfl (by (repeat' (first | exact rfl | exact AvIs.refl _ | exact trivial | exact fun _ _ => rfl | exact fun _ _ => ⟨rfl, AvIs.refl _⟩ | refine ⟨?_, ?_⟩))) (by (repeat' (first | exact rfl | exact AvIs.refl _ | exact trivial | exact fun _ _ => rfl | exact fun _ _ => ⟨rfl, AvIs.refl _⟩ | refine ⟨?_, ?_⟩))))) ?_
  · rw [hsE, hE]
    refine stages_ok k hkg A hcg (by omega) tr (by omega) L L (recOf fn _ _ _ D) .ret _ (rnS k A tr) (fun i hi he m hm => rnS_stop (by rw [rnS_bad i he]; exact he) m hm) (fun i hi hz => ?_) ?_
    rotate_left
    · split <;> rfl
    have hkc := stg_kGd hkg hcg (tr := tr) (i := i)
    have hgd := rnS_good i hz
    have hrn : rnS k A tr (i + 1) = if (stgTo k A tr i).2 ≠ 0 then ((stgTo k A tr i).2, (rnS k A tr i).2) else (0, (rnS k A tr i).2.1 ++ [(stgTo k A tr i).1.1], (rnS k A tr i).2.2 ++ [(stgTo k A tr i).1.2]) := by
      rw [rnS, if_neg (by rw [hgd]; simp)]
    have hy1 : (rnS k A tr i).1 = 0 := by rw [hgd]
    have hy2 : (rnS k A tr i).2.1.length = i := by rw [hgd]; simp
    have hy3 : (rnS k A tr i).2.2.length = i := by rw [hgd]; simp
    rw [hrn]
    clear hrn hgd hsE
    generalize rnS k A tr i = y at *
    generalize stgTo k A tr i = x at *
    obtain ⟨e0, cs, ss⟩ := y
    obtain ⟨⟨c, s⟩, e⟩ := x
    dsimp only at hy1 hy2 hy3 hkc
    subst hy1
    have hcp := copiedC_ok c hkc.2 hkc.1
    refine DoesR.mkT TT_ok (fun _ => false) 100 (ST.of [(8, .ptr 1 0), (9, .ptr 2 0), (10, .ptr 3 0), (16, .ptr 4 0), (17, .ptr 6 0), (18, .ptr 118 0), (19, .c (.int .i64 e))]
      ((0, .lrec (recOf fn _ _ _ D .ready none) L csR) :: runN 0 cs ss ++ [(118, .cells 101 (kC c ++ stC s))]) 1000 79 (fun _ => false)) rfl ?_ (Nat.le_refl 7) (fun E hT hE hN hR => ?_) rfl (fun E hT hE hN hR => ?_)
    · intro x hx
      have hx : x = 61 ∨ x = 62 := by simpa using hx
      have : csR.length = 79 := frL_length _ _
      rcases hx with rfl | rfl
      · show 61 < csR.length; rw [this]; omega
      · show 62 < csR.length; rw [this]; omega
    · have hm : E.P.follows .mixedOrders = true := by rw [hE]; kernel_rfl
      (repeat (first | refine XK.norm rfl rfl ?_ | refine XK.rgnA hT rfl rfl rfl ?_ | refine XK.rgnB hT hm rfl rfl rfl ?_))
      exact XK.nil ⟨rfl, (Weak.of hN rfl rfl rfl (by (repeat' (first | exact rfl | exact AvIs.refl _ | exact trivial | exact fun _ _ => rfl | exact fun _ _ => ⟨rfl, AvIs.refl _⟩ | refine ⟨?_, ?_⟩))) (by (repeat' (first | exact rfl | exact AvIs.refl _ | exact trivial | exact fun _ _ => rfl | exact fun _ _ => ⟨rfl, AvIs.refl _⟩ | refine ⟨?_, ?_⟩))))⟩
    · have hm : E.P.follows .mixedOrders = true := by rw [hE]; kernel_rfl
      (repeat (first | refine XK.norm rfl rfl ?_ | refine XK.rgnA hT rfl rfl rfl ?_ | refine XK.rgnB hT hm rfl rfl rfl ?_)); refine XK.cond rfl (fun h5 => ?_) (fun h5 => ?_) <;> (try simp at h5)
      · rw [if_pos h5]
        (repeat (first | refine XK.norm rfl rfl ?_ | refine XK.rgnA hT rfl rfl rfl ?_ | refine XK.rgnB hT hm rfl rfl rfl ?_))
        (first | refine XK.outY [0, 1, 2, 3, 4, 5, 6, 7] hN rfl rfl rfl ?_ ?_ ?_ | refine XK.outYN [0, 1, 2, 3, 4, 5, 6, 7] hN rfl rfl rfl ?_ ?_ ?_)
        · (repeat' (first | exact rfl | exact AvIs.refl _ | exact trivial | exact fun _ _ => rfl | exact fun _ _ => ⟨rfl, AvIs.refl _⟩ | refine ⟨?_, ?_⟩))
        · simp [h5]
        · rw [if_neg h5]
      · rw [if_neg (by simpa using h5)]
        subst h5
        refine XK.weak (Weak.trans (Weak.steal 500 (k := 5) (s := 2 * cs.length) (f' := fun _ => []) hN rfl rfl rfl) (Weak.trans (Weak.steal 501 (k := 7) (s := 2 * ss.length) (f' := fun _ => []) hN rfl rfl rfl) (Weak.of (L := [(8, .ptr 1 0), (9, .ptr 2 0), (10, .ptr 3 0), (16, .ptr 4 0), (17, .ptr 6 0), (18, .ptr 118 0)])
          (O := [(0, .lrec (recOf fn _ _ _ D .busy none) L csR), (1, .cells 57 [.c (.slice none 0 0)]), (2, .cells 58 [.c (.slice none 0 0)]), (3, .cells 43 [.c (.int .i64 0)]), (4, .cells 57 [.vec 500 0]), (5, .vec 27 7 (2 * cs.length + 1) 0 (fun _ => [])), (6, .cells 58 [.vec 501 0]), (7, .vec 38 4 (2 * ss.length + 1) 0 (fun _ => [])),
            (500, .vec 27 7 0 cs.length (fun i => kC (cs.getD i default))), (501, .vec 38 4 0 ss.length (fun i => stC (ss.getD i default))), (118, .cells 101 (kC c ++ stC s))]) (nx := 3000) (nt := 79) (md := fun _ => false) hN rfl rfl rfl (by (repeat' (first | exact rfl | exact AvIs.refl _ | exact trivial | exact fun _ _ => rfl | exact fun _ _ => ⟨rfl, AvIs.refl _⟩ | refine ⟨?_, ?_⟩)))
          ⟨⟨rfl, rfl, rfl⟩, by (repeat' (first | exact rfl | exact AvIs.refl _ | exact trivial | exact fun _ _ => rfl | exact fun _ _ => ⟨rfl, AvIs.refl _⟩ | refine ⟨?_, ?_⟩)), by (repeat' (first | exact rfl | exact AvIs.refl _ | exact trivial | exact fun _ _ => rfl | exact fun _ _ => ⟨rfl, AvIs.refl _⟩ | refine ⟨?_, ?_⟩)), by (repeat' (first | exact rfl | exact AvIs.refl _ | exact trivial | exact fun _ _ => rfl | exact fun _ _ => ⟨rfl, AvIs.refl _⟩ | refine ⟨?_, ?_⟩)), ⟨rfl, congrArg (fun x => [x]) (show AV.map (stealG 7 (2 * ss.length) 501) (AV.map (stealG 5 (2 * cs.length) 500) (.vec 5 (2 * cs.length))) = .vec 500 0 by rw [show AV.map (stealG 5 (2 * cs.length) 500) (.vec 5 (2 * cs.length)) = .vec 500 0 from stealG_self 5 (2 * cs.length) 500]; rfl)⟩, by (repeat' (first | exact rfl | exact AvIs.refl _ | exact trivial | exact fun _ _ => rfl | exact fun _ _ => ⟨rfl, AvIs.refl _⟩ | refine ⟨?_, ?_⟩)), ⟨rfl, congrArg (fun x => [x]) (show stealG 7 (2 * ss.length) 501 (.vec 7 (2 * ss.length)) = .vec 501 0 from stealG_self 7 (2 * ss.length) 501)⟩, by (repeat' (first | exact rfl | exact AvIs.refl _ | exact trivial | exact fun _ _ => rfl | exact fun _ _ => ⟨rfl, AvIs.refl _⟩ | refine ⟨?_, ?_⟩)), by (repeat' (first | exact rfl | exact AvIs.refl _ | exact trivial | exact fun _ _ => rfl | exact fun _ _ => ⟨rfl, AvIs.refl _⟩ | refine ⟨?_, ?_⟩)), by (repeat' (first | exact rfl | exact AvIs.refl _ | exact trivial | exact fun _ _ => rfl | exact fun _ _ => ⟨rfl, AvIs.refl _⟩ | refine ⟨?_, ?_⟩)), by (repeat' (first | exact rfl | exact AvIs.refl _ | exact trivial | exact fun _ _ => rfl | exact fun _ _ => ⟨rfl, AvIs.refl _⟩ | refine ⟨?_, ?_⟩))⟩))) ?_
        (repeat (first | refine XK.norm rfl rfl ?_ | refine XK.rgnA hT rfl rfl rfl ?_ | refine XK.rgnB hT hm rfl rfl rfl ?_)); refine XK.drawn hm ?_; refine XD.goA hT rfl rfl rfl rfl ?_
        refine XD.callKA hE rfl rfl rfl rfl trivial rfl rfl (hcp) ?_
        refine XD.goA hT rfl rfl rfl rfl ?_; refine XD.fin (by kernel_rfl) ?_; (repeat (first | refine XK.norm rfl rfl ?_ | refine XK.rgnA hT rfl rfl rfl ?_ | refine XK.rgnB hT hm rfl rfl rfl ?_))
        refine XK.nilY (Weak.trans (Weak.give (k := 5) (q := 500) (2 * (cs.length + 1)) hN rfl rfl rfl rfl (by omega)) (Weak.give (k := 7) (q := 501) (2 * (ss.length + 1)) hN rfl rfl rfl rfl (by omega))) ?_
        (first | refine XK.outY [0, 1, 2, 3, 4, 5, 6, 7] hN rfl rfl rfl ?_ ?_ ?_ | refine XK.outYN [0, 1, 2, 3, 4, 5, 6, 7] hN rfl rfl rfl ?_ ?_ ?_)
        · refine ⟨⟨rfl, rfl, rfl⟩, by (repeat' (first | exact rfl | exact AvIs.refl _ | exact trivial | exact fun _ _ => rfl | exact fun _ _ => ⟨rfl, AvIs.refl _⟩ | refine ⟨?_, ?_⟩)), by (repeat' (first | exact rfl | exact AvIs.refl _ | exact trivial | exact fun _ _ => rfl | exact fun _ _ => ⟨rfl, AvIs.refl _⟩ | refine ⟨?_, ?_⟩)), by (repeat' (first | exact rfl | exact AvIs.refl _ | exact trivial | exact fun _ _ => rfl | exact fun _ _ => ⟨rfl, AvIs.refl _⟩ | refine ⟨?_, ?_⟩)), ⟨rfl, by simp⟩, ⟨⟨rfl, rfl, by simp⟩, by simp, row_snoc kC cs c _ rfl⟩, ⟨rfl, by simp⟩, ⟨⟨rfl, rfl, by simp⟩, by simp, row_snoc stC ss s _ rfl⟩⟩
        · rfl
        · rfl
  · by_cases herr : (stgTo k A tr tr.length).2 = 0
    · rw [if_pos herr, if_neg (by simpa using herr)]
      have hg := rnS_good (tr.length + 1) (fun j hj => stg_before herr j (by omega))
      rw [hg] at hsE
      clear hg
      generalize (List.range (tr.length + 1)).map (fun j => (stgTo k A tr j).1.1) = CS at *
      generalize (List.range (tr.length + 1)).map (fun j => (stgTo k A tr j).1.2) = SS at *
      subst hsE
      show XK E _ _ (ST.of _ [_, _, _, _, (2017, .vec 27 7 (2 * CS.length) CS.length (fun i => kC (CS.getD i default))), _, (2097, .vec 38 4 (2 * SS.length) SS.length (fun i => stC (SS.getD i default)))] _ _ _)
      refine XK.weak (Weak.trans (Weak.stamp (k := 2017) (t := 0) hN rfl rfl) (Weak.trans (Weak.stamp (k := 2097) (t := 0) hN rfl rfl) (Weak.of (L := [(8, .ptr 8 0), (9, .ptr 9 0), (10, .ptr 10 0), (16, .ptr 2016 0), (17, .ptr 2096 0)])
        (O := [(8, .cells 57 [.c (.slice none 0 0)]), (9, .cells 58 [.c (.slice none 0 0)]), (10, .cells 43 [.c (.int .i64 0)]), (2016, .cells 57 [.vec 2017 0]), (2017, .vec 27 7 0 CS.length (fun i => kC (CS.getD i default))), (2096, .cells 58 [.vec 2097 0]), (2097, .vec 38 4 0 SS.length (fun i => stC (SS.getD i default)))])
        (nx := 5000) (nt := 79) (md := fun _ => false) hN rfl rfl rfl (by (repeat' (first | exact rfl | exact AvIs.refl _ | exact trivial | exact fun _ _ => rfl | exact fun _ _ => ⟨rfl, AvIs.refl _⟩ | refine ⟨?_, ?_⟩))) ⟨by (repeat' (first | exact rfl | exact AvIs.refl _ | exact trivial | exact fun _ _ => rfl | exact fun _ _ => ⟨rfl, AvIs.refl _⟩ | refine ⟨?_, ?_⟩)), by (repeat' (first | exact rfl | exact AvIs.refl _ | exact trivial | exact fun _ _ => rfl | exact fun _ _ => ⟨rfl, AvIs.refl _⟩ | refine ⟨?_, ?_⟩)), by (repeat' (first | exact rfl | exact AvIs.refl _ | exact trivial | exact fun _ _ => rfl | exact fun _ _ => ⟨rfl, AvIs.refl _⟩ | refine ⟨?_, ?_⟩)), ⟨rfl, congrArg (fun x => [x]) (show AV.map (stampG 2097 (2 * SS.length) 0) (AV.map (stampG 2017 (2 * CS.length) 0) (.vec 2017 (2 * CS.length))) = .vec 2017 0 by rw [show AV.map (stampG 2017 (2 * CS.length) 0) (.vec 2017 (2 * CS.length)) = .vec 2017 0 from stampG_self 2017 (2 * CS.length) 0]; rfl)⟩, by (repeat' (first | exact rfl | exact AvIs.refl _ | exact trivial | exact fun _ _ => rfl | exact fun _ _ => ⟨rfl, AvIs.refl _⟩ | refine ⟨?_, ?_⟩)), ⟨rfl, congrArg (fun x => [x]) (show AV.map (stampG 2097 (2 * SS.length) 0) (.vec 2097 (2 * SS.length)) = .vec 2097 0 from stampG_self 2097 (2 * SS.length) 0)⟩, by (repeat' (first | exact rfl | exact AvIs.refl _ | exact trivial | exact fun _ _ => rfl | exact fun _ _ => ⟨rfl, AvIs.refl _⟩ | refine ⟨?_, ?_⟩))⟩))) ?_
      refine XK.weak (Weak.trans (Weak.frozen (k := 2017) hN rfl rfl) (Weak.frozen (k := 2097) hN rfl rfl)) ?_
      (repeat (first | refine XK.norm rfl rfl ?_ | refine XK.rgnA hT rfl rfl rfl ?_ | refine XK.rgnB hT hm rfl rfl rfl ?_))
      (first | refine XK.out rfl rfl rfl ?_ | refine XK.outN rfl rfl rfl ?_)
      rfl
    · rw [if_neg herr, if_pos herr]
      have hb := rnS_bad tr.length herr
      rw [← hsE] at hb
      rw [hb]
      show XK E [.code .ret, _, _] _ _
      (repeat (first | refine XK.norm rfl rfl ?_ | refine XK.rgnA hT rfl rfl rfl ?_ | refine XK.rgnB hT hm rfl rfl rfl ?_))
      (first | refine XK.outL rfl rfl rfl ?_ | refine XK.outLN rfl rfl rfl ?_)
      exact ⟨⟨rfl, rfl⟩, ⟨rfl, rfl⟩, rfl⟩
theorem run_ok (k : K) (hk : kW k) (l : List Am) (hl : amGd l) (known : Int) (tr : List Int) :
    Does Tryz.prog 19 [kV k, amsV l, .c (.int .i64 known), intsV tr] (.tup [ksV (runR k l known tr).1.1, stsV (runR k l known tr).1.2, .c (.int .i64 (runR k l known tr).2)]) := by
  by_cases h0 : (startS k).2 = 0
  · exact runGo_ok k hk l hl known tr h0
  · have h := runErr_ok k hk l known tr h0
    unfold runR
    rw [if_pos h0]
    exact h.weaken (AvS.tupS ⟨AvS.nil, AvS.nil, AvS.refl _, trivial⟩)
end Go.Proofs.YtofdehlikigonaaGreat
end
