import Derived.Test.YtlhmgphgnedlkaaGreatZz13
import Derived.Test.YtlhmgphgnedlkaaGreatZz24
import Derived.Test.YtlhmgphgnedlkaaGreatZz21
import Derived.Test.YtlhmgphgnedlkaaGreatZz25
set_option linter.unusedSimpArgs false
set_option linter.unusedVariables false
section
/- Contracts: package migrate: Run, the walk. -/
namespace Go.Proofs.YtlhmgphgnedlkaaGreat
open Go.Eng
set_option maxRecDepth 10000
set_option maxHeartbeats 1000000 in
theorem runGo_ok (k : K) (hk : kW k) (l : List Am) (hl : amGd l) (known : Int) (tr : List Int) (h0 : (startS k).2 = 0) :
    Does Tryz.prog 23 [kV k, amsV l, .c (.int .i64 known), intsV tr] (.tup [ksV (runR k l known tr).1.1, stsV (runR k l known tr).1.2, .c (.int .i64 (runR k l known tr).2)]) := by
  have hs := startS_ok k hk
  have hv := (startS_zero hk h0).1
  unfold runR
  rw [if_neg (by simpa using h0)]
  generalize startS k = s0 at hs h0
  obtain ⟨s0, e0⟩ := s0
  dsimp only at h0
  subst h0
  refine Does.mk (fun _ => false) TT_ok Tryz.func23 rfl (by kernel_rfl) Tryz.ntmps23 rfl rfl fun E hT hE hN hR => ?_
  have hm := mixO hE
  (repeat (first | refine XK.n ?_ | refine XK.a ?_ | refine XK.b ?_))
  (repeat (first | refine XK.n ?_ | refine XK.a ?_ | refine XK.b ?_)); refine XK.region ?_; refine XL.g ?_
  refine XL.callKA hE rfl rfl rfl rfl trivial rfl rfl (hs) ?_
  refine XL.g ?_; refine XL.fin ?_; (repeat (first | refine XK.n ?_ | refine XK.a ?_ | refine XK.b ?_))
  (repeat (first | refine XK.n ?_ | refine XK.a ?_ | refine XK.b ?_)); refine XK.cond rfl (fun h1 => ?_) (fun h1 => ?_) <;> (try simp at h1)
  (repeat (first | refine XK.n ?_ | refine XK.a ?_ | refine XK.b ?_)); refine XK.cond rfl (fun h2 => ?_) (fun h2 => ?_) <;> (try simp at h2)
  · rw [if_pos (by omega)]
    (repeat (first | refine XK.n ?_ | refine XK.a ?_ | refine XK.b ?_))
    refine XK.outL rfl rfl rfl ⟨⟨rfl, rfl⟩, ⟨rfl, rfl⟩, rfl⟩
  rw [if_neg (by omega)]
  have hll : l.length ≤ 60 := by omega
  have htl : tr.length ≤ 4000 := by omega
  (repeat (first | refine XK.n ?_ | refine XK.a ?_ | refine XK.b ?_))
  (repeat (first | refine XK.n ?_ | refine XK.a ?_ | refine XK.b ?_)); refine XK.region ?_; refine XL.g ?_
  refine XL.callKA hE rfl rfl rfl rfl trivial rfl rfl (order_ok l (by omega)) ?_
  refine XL.g ?_; refine XL.fin ?_; (repeat (first | refine XK.n ?_ | refine XK.a ?_ | refine XK.b ?_))
  have hol := ordI_len l
  refine XK.loop (ι := Nat) (fun i => ST.of [(1, amsV l), (2, .c (.int .i64 known)), (3, intsV tr), (4, .ptr 4 0), (8, .ptr 8 0), (9, .ptr 9 0), (10, .ptr 10 0), (13, .vec 700 0), (36, intsV (ordI l)), (37, .c (.int .i64 l.length)), (38, .c (.int .i64 i))]
      [(4, .cells 27 (kC k)), (8, .cells 71 [.c (.slice none 0 0)]), (9, .cells 35 [.c (.slice none 0 0)]), (10, .cells 32 [.c (.int .i64 0)]), (700, .vec 68 22 0 (consA l known i).length (fun j => amC ((consA l known i).getD j default)))] 1000 79 (fun _ => false))
    (fun i => i ≤ l.length) (fun i => l.length - i) 0 (Nat.zero_le _)
    (Weak.trans (Weak.ghost (j := 13) (k := 700) (e := 68) (sz := 22) (f := fun _ => []) rfl rfl) (Weak.of hN rfl rfl rfl (by (repeat' (first | exact rfl | exact AvIs.refl _ | exact trivial | exact fun _ _ => rfl | exact fun _ _ => ⟨rfl, AvIs.refl _⟩ | exact cI (by omega) | exact (cI (by omega)) | refine ⟨?_, ?_⟩))) (by (repeat' (first | exact rfl | exact AvIs.refl _ | exact trivial | exact fun _ _ => rfl | exact fun _ _ => ⟨rfl, AvIs.refl _⟩ | exact cI (by omega) | exact (fun j hj => absurd hj (Nat.not_lt_zero _)) | refine ⟨?_, ?_⟩))))) fun i hi => ?_
  (repeat (first | refine XK.n ?_ | refine XK.a ?_ | refine XK.b ?_)); refine XK.cond rfl (fun hlt => ?_) (fun hlt => ?_) <;> (try simp at hlt)
  · have hil : i < l.length := by omega
    have fx : (ordI l).getD (i : Int).toNat default = (ordAt l i : Nat) := ordI_at l hil
    have hop := ordAt_in hil
    have fa : l.getD ((ordAt l i : Nat) : Int).toNat default = l.getD (ordAt l i) default := rfl
    have hsn := consA_succ (known := known) hil
    have hle := consA_len l known i
    (repeat (first | refine XK.n ?_ | refine XK.a ?_ | refine XK.b ?_))
    rw [fx]
    generalize hop' : ordAt l i = o at *
    (repeat (first | refine XK.n ?_ | refine XK.a ?_ | refine XK.b ?_))
    rw [fa]
    generalize l.getD o default = a at *
    (repeat (first | refine XK.n ?_ | refine XK.a ?_ | refine XK.b ?_)); refine XK.cond rfl (fun h3 => ?_) (fun h3 => ?_)
    · have h3 : a.known ≤ known := by simpa using h3
      rw [if_pos h3] at hsn
      generalize consA l known i = L at *
      (repeat (first | refine XK.n ?_ | refine XK.a ?_ | refine XK.b ?_))
      rw [fa]
      refine XK.inv ⟨i + 1, hil, ?_, by omega⟩
      rw [hsn, len_snoc]
      exact Weak.trans (Weak.stamp (k := 700) (t := 0) hN rfl rfl) (Weak.of hN rfl rfl rfl frI ⟨frI, frI, frI, frI, ⟨rfl, rfl, rfl⟩, rfl, row_snoc amC _ _ _ rfl⟩)
    · have h3 : ¬ a.known ≤ known := by simpa using h3
      rw [if_neg h3] at hsn
      (repeat (first | refine XK.n ?_ | refine XK.a ?_ | refine XK.b ?_))
      refine XK.inv ⟨i + 1, hil, ?_, by omega⟩
      rw [hsn]
      exact (Weak.of hN rfl rfl rfl frI frI)
  have hie : i = l.length := by omega
  subst hie
  clear hlt hi
  have hcl := consA_len l known l.length
  have hcg := consA_gd hl known l.length
  have hkg : kGd k := ⟨hk, hv⟩
  generalize consA l known l.length = A at *
  have hst := stagesC_ok k A tr
  refine XK.weak (Weak.trans (Weak.frozen (k := 700) hN rfl rfl) (Weak.of (L := [(3, intsV tr), (4, .ptr 4 0), (8, .ptr 8 0), (9, .ptr 9 0), (10, .ptr 10 0), (13, amsV A)])
    (O := [(4, .cells 27 (kC k)), (8, .cells 71 [.c (.slice none 0 0)]), (9, .cells 35 [.c (.slice none 0 0)]), (10, .cells 32 [.c (.int .i64 0)])]) (nx := 2000) (nt := 79) (md := fun _ => false) hN rfl rfl rfl frI frI)) ?_
  (repeat (first | refine XK.n ?_ | refine XK.a ?_ | refine XK.b ?_))
  (repeat (first | refine XK.n ?_ | refine XK.a ?_ | refine XK.b ?_)); refine XK.region ?_; refine XL.g ?_
  refine XL.callKA hE rfl rfl rfl rfl trivial rfl rfl (hst) ?_
  refine XL.g ?_; refine XL.fin ?_; (repeat (first | refine XK.n ?_ | refine XK.a ?_ | refine XK.b ?_))
  generalize hsE : rnS k A tr (tr.length + 1) = sE
  have hsE : sE = rnS k A tr (tr.length + 1) := hsE.symm
  refine XK.weak (Weak.trans (Weak.ghostC (c := 2016) (k := 2017) (e := 27) (sz := 7) (f := fun _ => []) rfl rfl rfl) (Weak.trans (Weak.ghostC (c := 2096) (k := 2097) (e := 41) (sz := 4) (f := fun _ => []) rfl rfl rfl)
    (Weak.of (L := [(8, .ptr 8 0), (9, .ptr 9 0), (10, .ptr 10 0), (16, .ptr 2016 0), (17, .ptr 2096 0), (60, .fn (.func 80) [] [.rptr (kC k), .rptr [amsV A], .rptr [intsV tr]])])
      (O := [(8, .cells 71 [.c (.slice none 0 0)]), (9, .cells 35 [.c (.slice none 0 0)]), (10, .cells 32 [.c (.int .i64 0)]), (2016, .cells 71 [.vec 2017 0]), (2017, .vec 27 7 0 0 (fun i => kC (([] : List K).getD i default))), (2096, .cells 35 [.vec 2097 0]), (2097, .vec 41 4 0 0 (fun i => stC (([] : List St).getD i default)))])
      (nx := 3000) (nt := 79) (md := fun _ => false) hN rfl rfl rfl frI (by (repeat' (first | exact rfl | exact AvIs.refl _ | exact trivial | exact fun _ _ => rfl | exact fun _ _ => ⟨rfl, AvIs.refl _⟩ | exact cI (by omega) | exact (fun i hi => absurd hi (Nat.not_lt_zero _)) | refine ⟨?_, ?_⟩)))))) ?_
  refine XK.rangeFunc 900 [8, 9, 10, 2016, 2017, 2096, 2097] (frL 79 [(8, .ptr 8 0), (9, .ptr 9 0), (10, .ptr 10 0), (16, .ptr 2016 0), (17, .ptr 2096 0)])
    (ST.of [(8, .ptr 8 0), (9, .ptr 9 0), (10, .ptr 10 0), (16, .ptr 2016 0), (17, .ptr 2096 0)] [(8, .cells 71 [.c (.slice none 0 0)]), (9, .cells 35 [.c (.slice none 0 0)]), (10, .cells 32 [.c (.int .i64 sE.1)]), (2016, .cells 71 [.vec 2017 (2 * sE.2.1.length)]), (2017, .vec 27 7 (2 * sE.2.1.length) sE.2.1.length (fun i => kC (sE.2.1.getD i default))), (2096, .cells 35 [.vec 2097 (2 * sE.2.2.length)]), (2097, .vec 41 4 (2 * sE.2.2.length) sE.2.2.length (fun i => stC (sE.2.2.getD i default)))] 4000 79 (fun _ => false))
    (res := .tup []) (args' := [.rptr (kC k), .rptr [amsV A], .rptr [intsV tr]]) (s := if (stgTo k A tr tr.length).2 = 0 then .ready else .done) (pend := if (stgTo k A tr tr.length).2 = 0 then none else some .ret) (O' := runO sE.1 sE.2.1 sE.2.2) (O := runO 0 [] []) hR rfl trivial rfl (frL_length _ _) (frL_is frI) (fun L D fn => ?_) rfl frI rfl rfl frI rfl rfl (by split <;> simp) (fun L D fn cs => (Weak.of hN rfl rfl rfl frI frI)) ?_
  · rw [hsE, hE]
    refine stages_ok k hkg A hcg (by omega) tr (by omega) L L (recOf fn _ _ _ D) .ret _ (rnS k A tr) (fun i hi he m hm => rnS_stop (by rw [rnS_bad i he]; exact he) m hm) (fun i hi hz => ?_) ?_
    rotate_left
    · split <;> rfl
    have hkc := stg_kGd hkg hcg (tr := tr) (i := i)
    have hgd := rnS_good i hz
    have hrn : rnS k A tr (i + 1) = if (stgTo k A tr i).2 ≠ 0 then ((stgTo k A tr i).2, (rnS k A tr i).2) else (0, (rnS k A tr i).2.1 ++ [(stgTo k A tr i).1.1], (rnS k A tr i).2.2 ++ [(stgTo k A tr i).1.2]) := by
      rw [rnS, if_neg (by rw [hgd]; simp)]
    have hy1 : (rnS k A tr i).1 = 0 := by rw [hgd]
    have hy2 : (rnS k A tr i).2.1.length = i := by rw [hgd]; simp
    have hy3 : (rnS k A tr i).2.2.length = i := by rw [hgd]; simp
    rw [hrn]
    clear hrn hgd hsE
    generalize rnS k A tr i = y at *
    generalize stgTo k A tr i = x at *
    obtain ⟨e0, cs, ss⟩ := y
    obtain ⟨⟨c, s⟩, e⟩ := x
    dsimp only at hy1 hy2 hy3 hkc
    subst hy1
    have hcp := copiedC_ok c hkc.2 hkc.1
    refine DoesR.mkT TT_ok (fun _ => false) 100 (ST.of [(8, .ptr 1 0), (9, .ptr 2 0), (10, .ptr 3 0), (16, .ptr 4 0), (17, .ptr 6 0), (18, .ptr 118 0), (19, .c (.int .i64 e))]
      ((0, .lrec (recOf fn _ _ _ D .ready none) L csR) :: runN 0 cs ss ++ [(118, .cells 125 (kC c ++ stC s))]) 1000 79 (fun _ => false)) rfl ?_ (Nat.le_refl 7) (fun E hT hE hN hR => ?_) rfl (fun E hT hE hN hR => ?_)
    · intro x hx
      have hx : x = 61 ∨ x = 62 := by simpa using hx
      have : csR.length = 79 := frL_length _ _
      rcases hx with rfl | rfl
      · show 61 < csR.length; rw [this]; omega
      · show 62 < csR.length; rw [this]; omega
    · have hm := mixO hE
      (repeat (first | refine XK.n ?_ | refine XK.a ?_ | refine XK.b ?_))
      exact XK.nil ⟨rfl, (Weak.of hN rfl rfl rfl frI frI)⟩
    · have hm := mixO hE
      (repeat (first | refine XK.n ?_ | refine XK.a ?_ | refine XK.b ?_)); refine XK.cond rfl (fun h5 => ?_) (fun h5 => ?_) <;> (try simp at h5)
      · rw [if_pos h5]
        (repeat (first | refine XK.n ?_ | refine XK.a ?_ | refine XK.b ?_))
        (first | refine XK.outY [0, 1, 2, 3, 4, 5, 6, 7] hN rfl rfl rfl ?_ ?_ ?_ | refine XK.outYN [0, 1, 2, 3, 4, 5, 6, 7] hN rfl rfl rfl ?_ ?_ ?_)
        · (repeat' (first | exact rfl | exact AvIs.refl _ | exact trivial | exact fun _ _ => rfl | exact fun _ _ => ⟨rfl, AvIs.refl _⟩ | refine ⟨?_, ?_⟩))
        · simp [h5]
        · rw [if_neg h5]
      · rw [if_neg (by simpa using h5)]
        subst h5
        refine XK.weak (Weak.trans (Weak.steal 500 (k := 5) (s := 2 * cs.length) (f' := fun _ => []) hN rfl rfl rfl) (Weak.trans (Weak.steal 501 (k := 7) (s := 2 * ss.length) (f' := fun _ => []) hN rfl rfl rfl) (Weak.of (L := [(8, .ptr 1 0), (9, .ptr 2 0), (10, .ptr 3 0), (16, .ptr 4 0), (17, .ptr 6 0), (18, .ptr 118 0)])
          (O := [(0, .lrec (recOf fn _ _ _ D .busy none) L csR), (1, .cells 71 [.c (.slice none 0 0)]), (2, .cells 35 [.c (.slice none 0 0)]), (3, .cells 32 [.c (.int .i64 0)]), (4, .cells 71 [.vec 500 0]), (5, .vec 27 7 (2 * cs.length + 1) 0 (fun _ => [])), (6, .cells 35 [.vec 501 0]), (7, .vec 41 4 (2 * ss.length + 1) 0 (fun _ => [])),
            (500, .vec 27 7 0 cs.length (fun i => kC (cs.getD i default))), (501, .vec 41 4 0 ss.length (fun i => stC (ss.getD i default))), (118, .cells 125 (kC c ++ stC s))]) (nx := 3000) (nt := 79) (md := fun _ => false) hN rfl rfl rfl frI
          ⟨⟨rfl, rfl, rfl⟩, frI, frI, frI, ⟨rfl, congrArg (fun x => [x]) (show AV.map (stealG 7 (2 * ss.length) 501) (AV.map (stealG 5 (2 * cs.length) 500) (.vec 5 (2 * cs.length))) = .vec 500 0 by rw [show AV.map (stealG 5 (2 * cs.length) 500) (.vec 5 (2 * cs.length)) = .vec 500 0 from stealG_self 5 (2 * cs.length) 500]; rfl)⟩, frI, ⟨rfl, congrArg (fun x => [x]) (show stealG 7 (2 * ss.length) 501 (.vec 7 (2 * ss.length)) = .vec 501 0 from stealG_self 7 (2 * ss.length) 501)⟩, frI, frI, frI, frI⟩))) ?_
        (repeat (first | refine XK.n ?_ | refine XK.a ?_ | refine XK.b ?_)); refine XK.drawn hm ?_; refine XD.goA hT rfl rfl rfl rfl ?_
        refine XD.callKA hE rfl rfl rfl rfl trivial rfl rfl (hcp) ?_
        refine XD.goA hT rfl rfl rfl rfl ?_; refine XD.fin (by kernel_rfl) ?_; (repeat (first | refine XK.n ?_ | refine XK.a ?_ | refine XK.b ?_))
        refine XK.nilY (Weak.trans (Weak.give (k := 5) (q := 500) (2 * (cs.length + 1)) hN rfl rfl rfl rfl (by omega)) (Weak.give (k := 7) (q := 501) (2 * (ss.length + 1)) hN rfl rfl rfl rfl (by omega))) ?_
        (first | refine XK.outY [0, 1, 2, 3, 4, 5, 6, 7] hN rfl rfl rfl ?_ ?_ ?_ | refine XK.outYN [0, 1, 2, 3, 4, 5, 6, 7] hN rfl rfl rfl ?_ ?_ ?_)
        · refine ⟨⟨rfl, rfl, rfl⟩, frI, frI, frI, ⟨rfl, by simp⟩, ⟨⟨rfl, rfl, by simp⟩, by simp, row_snoc kC cs c _ rfl⟩, ⟨rfl, by simp⟩, ⟨⟨rfl, rfl, by simp⟩, by simp, row_snoc stC ss s _ rfl⟩⟩
        · rfl
        · rfl
  · by_cases herr : (stgTo k A tr tr.length).2 = 0
    · rw [if_pos herr, if_neg (by simpa using herr)]
      have hg := rnS_good (tr.length + 1) (fun j hj => stg_before herr j (by omega))
      rw [hg] at hsE
      clear hg
      generalize (List.range (tr.length + 1)).map (fun j => (stgTo k A tr j).1.1) = CS at *
      generalize (List.range (tr.length + 1)).map (fun j => (stgTo k A tr j).1.2) = SS at *
      subst hsE
      show XK E _ _ (ST.of _ [_, _, _, _, (2017, .vec 27 7 (2 * CS.length) CS.length (fun i => kC (CS.getD i default))), _, (2097, .vec 41 4 (2 * SS.length) SS.length (fun i => stC (SS.getD i default)))] _ _ _)
      refine XK.weak (Weak.trans (Weak.stamp (k := 2017) (t := 0) hN rfl rfl) (Weak.trans (Weak.stamp (k := 2097) (t := 0) hN rfl rfl) (Weak.of (L := [(8, .ptr 8 0), (9, .ptr 9 0), (10, .ptr 10 0), (16, .ptr 2016 0), (17, .ptr 2096 0)])
        (O := [(8, .cells 71 [.c (.slice none 0 0)]), (9, .cells 35 [.c (.slice none 0 0)]), (10, .cells 32 [.c (.int .i64 0)]), (2016, .cells 71 [.vec 2017 0]), (2017, .vec 27 7 0 CS.length (fun i => kC (CS.getD i default))), (2096, .cells 35 [.vec 2097 0]), (2097, .vec 41 4 0 SS.length (fun i => stC (SS.getD i default)))])
        (nx := 5000) (nt := 79) (md := fun _ => false) hN rfl rfl rfl frI ⟨frI, frI, frI, ⟨rfl, congrArg (fun x => [x]) (show AV.map (stampG 2097 (2 * SS.length) 0) (AV.map (stampG 2017 (2 * CS.length) 0) (.vec 2017 (2 * CS.length))) = .vec 2017 0 by rw [show AV.map (stampG 2017 (2 * CS.length) 0) (.vec 2017 (2 * CS.length)) = .vec 2017 0 from stampG_self 2017 (2 * CS.length) 0]; rfl)⟩, frI, ⟨rfl, congrArg (fun x => [x]) (show AV.map (stampG 2097 (2 * SS.length) 0) (.vec 2097 (2 * SS.length)) = .vec 2097 0 from stampG_self 2097 (2 * SS.length) 0)⟩, frI⟩))) ?_
      refine XK.weak (Weak.trans (Weak.frozen (k := 2017) hN rfl rfl) (Weak.frozen (k := 2097) hN rfl rfl)) ?_
      (repeat (first | refine XK.n ?_ | refine XK.a ?_ | refine XK.b ?_))
      (first | refine XK.out rfl rfl rfl ?_ | refine XK.outN rfl rfl rfl ?_)
      rfl
    · rw [if_neg herr, if_pos herr]
      have hb := rnS_bad tr.length herr
      rw [← hsE] at hb
      rw [hb]
      show XK E [.code .ret, _, _] _ _
      (repeat (first | refine XK.n ?_ | refine XK.a ?_ | refine XK.b ?_))
      (first | refine XK.outL rfl rfl rfl ?_ | refine XK.outLN rfl rfl rfl ?_)
      exact ⟨⟨rfl, rfl⟩, ⟨rfl, rfl⟩, rfl⟩
theorem run_ok (k : K) (hk : kW k) (l : List Am) (hl : amGd l) (known : Int) (tr : List Int) :
    Does Tryz.prog 23 [kV k, amsV l, .c (.int .i64 known), intsV tr] (.tup [ksV (runR k l known tr).1.1, stsV (runR k l known tr).1.2, .c (.int .i64 (runR k l known tr).2)]) := by
  by_cases h0 : (startS k).2 = 0
  · exact runGo_ok k hk l hl known tr h0
  · have h := runErr_ok k hk l known tr h0
    unfold runR
    rw [if_pos h0]
    exact h.weaken (AvS.tupS ⟨AvS.nil, AvS.nil, AvS.refl _, trivial⟩)
end Go.Proofs.YtlhmgphgnedlkaaGreat
end
section
/- Amendments of one day from merged patches: plain. -/
namespace Go.Proofs.YtlhmgphgnedlkaaGreat
open Go.Eng
set_option maxRecDepth 10000
def amN (l : List Pt) (day : Int) (n : Nat) : List Am := (List.range n).map (fun (i : Nat) => (⟨(i : Int) + 1, day, 0, l.getD i default⟩ : Am))
theorem amN_len (l : List Pt) (day : Int) (n : Nat) : (amN l day n).length = n := by simp [amN]
theorem amN_at {l : List Pt} {day : Int} {n i : Nat} (h : i < n) : (amN l day n).getD i default = ⟨(i : Int) + 1, day, 0, l.getD i default⟩ := map_getD _ h
theorem amN_mem {l : List Pt} {day : Int} {n : Nat} {a : Am} (h : a ∈ amN l day n) : ∃ i : Nat, i < n ∧ a = ⟨(i : Int) + 1, day, 0, l.getD i default⟩ := by
  obtain ⟨i, hi, e⟩ := List.mem_map.1 h
  exact ⟨i, List.mem_range.1 hi, e.symm⟩
theorem amN_sorted (l : List Pt) (day : Int) (n : Nat) : (amN l day n).Pairwise (fun a b => dnLe a b = true) := by
  unfold amN
  rw [List.pairwise_map]
  refine List.pairwise_lt_range.imp fun {i j} h => ?_
  simp only [dnLe, Bool.or_eq_true, Bool.and_eq_true, decide_eq_true_eq, beq_iff_eq]
  right
  exact ⟨trivial, by omega⟩
theorem seqA_amN {l : List Pt} {day : Int} {n : Nat} {L : List Am} (h : L.Perm (amN l day n)) : seqA L = amN l day n := by
  refine sorted_one ((seqA_perm L).trans h) (fun a ha b hb h1 h2 => ?_) (seqA_sorted L) (amN_sorted l day n)
  have ha := ((seqA_perm L).trans h).mem_iff.1 ha
  have hb := ((seqA_perm L).trans h).mem_iff.1 hb
  obtain ⟨i, hi, rfl⟩ := amN_mem ha
  obtain ⟨j, hj, rfl⟩ := amN_mem hb
  simp only [dnLe, Bool.or_eq_true, Bool.and_eq_true, decide_eq_true_eq, beq_iff_eq] at h1 h2
  have : i = j := by omega
  rw [this]
theorem fold_amN {k : K} {l : List Pt} (h : (allTo k l l.length).2 = 0) (day : Int) : ∀ n, n ≤ l.length → (amN l day n).foldl stepA (k, []) = ((allTo k l n).1, (List.range n).map (fun (i : Nat) => (i : Int) + 1))
  | 0, _ => rfl
  | n + 1, hn => by
    have ih := fold_amN h day n (by omega)
    unfold amN at ih ⊢
    rw [List.range_succ, List.map_append, List.foldl_append, ih, List.map_append]
    have h1 := allTo_before h hn
    have h0 := allTo_before h (show n ≤ l.length by omega)
    rw [allTo_step h0] at h1 ⊢
    show stepA _ _ = _
    unfold stepA
    dsimp only
    rw [if_pos h1]
    rfl
theorem force_amN {k : K} {l : List Pt} (h : (allTo k l l.length).2 = 0) {day d : Int} {L : List Am} (hL : L.Perm (amN l day l.length)) :
    forceF k L d 0 = if day ≤ d then ((allTo k l l.length).1, (List.range l.length).map (fun (i : Nat) => (i : Int) + 1)) else (k, []) := by
  unfold forceF
  rw [seqA_amN hL]
  by_cases hd : day ≤ d
  · rw [if_pos hd, List.filter_eq_self.2, fold_amN h day _ (Nat.le_refl _)]
    intro a ha
    obtain ⟨i, hi, rfl⟩ := amN_mem ha
    simp only [counts, Bool.and_eq_true, decide_eq_true_eq]
    exact ⟨Int.le_refl _, hd⟩
  · rw [if_neg hd, List.filter_eq_nil_iff.2]
    · rfl
    · intro a ha
      obtain ⟨i, hi, rfl⟩ := amN_mem ha
      simp only [counts, Bool.and_eq_true, decide_eq_true_eq]
      omega
theorem consA_amN {l : List Pt} {day : Int} {L : List Am} (hL : L.Perm (amN l day l.length)) : consA L 0 L.length = amN l day l.length := by
  unfold consA
  rw [seqA_amN hL, List.take_of_length_le (by rw [hL.length_eq]; exact Nat.le_refl _), List.filter_eq_self.2]
  intro a ha
  obtain ⟨i, hi, rfl⟩ := amN_mem ha
  simp
theorem preTo_late {k : K} {l : List Pt} {day : Int} {n : Nat} (hd : 0 < day) : ∀ i, i ≤ n → preTo k (amN l day n) i = k
  | 0, _ => rfl
  | i + 1, h => by rw [preTo, amN_at (by omega), if_pos hd, preTo_late hd i (by omega)]
theorem preTo_now {k : K} {l : List Pt} (ho : (allTo k l l.length).2 = 0) {day : Int} (hd : day ≤ 0) : ∀ i, i ≤ l.length → preTo k (amN l day l.length) i = (allTo k l i).1
  | 0, _ => rfl
  | i + 1, h => by
    have h1 := allTo_before ho h
    have h0 := allTo_before ho (show i ≤ l.length by omega)
    rw [allTo_step h0] at h1 ⊢
    rw [preTo, amN_at (by omega), if_neg (by simp only; omega), preTo_now ho hd i (by omega), if_pos h1]
theorem todTo_other {l : List Pt} {day : Int} {n : Nat} {c : K × St} (hd : day ≠ c.2.day) : ∀ i, i ≤ n → todTo (amN l day n) c i = c
  | 0, _ => rfl
  | i + 1, h => by
    rw [todTo, todTo_other hd i (by omega), amN_at (by omega), if_pos hd]
theorem stMig_day (k : K) (l : List Pt) (s : St) : ∀ i, (stMig k l s i).day = s.day
  | 0 => rfl
  | i + 1 => by
    show (migS _ _ _).day = _
    exact stMig_day k l s i
theorem todTo_day {k : K} {l : List Pt} (ho : (allTo k l l.length).2 = 0) {s : St} : ∀ i, i ≤ l.length → todTo (amN l s.day l.length) (k, s) i = ((allTo k l i).1, stMig k l s i)
  | 0, _ => rfl
  | i + 1, h => by
    have h1 := allTo_before ho h
    have h0 := allTo_before ho (show i ≤ l.length by omega)
    rw [allTo_step h0] at h1 ⊢
    rw [todTo, todTo_day ho i (by omega), amN_at (by omega)]
    dsimp only
    rw [if_neg (by rw [stMig_day]; simp), migR_e, if_pos h1]
    unfold migR
    rw [if_neg (by simpa using h1)]
    rfl
theorem startS_of {k : K} (h : (kValid k).1 = 0) : (startS k).2 = 0 := by unfold startS; rw [if_neg (by simpa using h)]
theorem stg_ticks {k : K} (hk : kW k) (hv : (kValid k).1 = 0) {l : List Pt} (hl : ∀ p ∈ l, ptW p) (ho : (allTo k l l.length).2 = 0) {day : Int} (hd : 0 ≤ day) {tr : List Int} (ht : ∀ i, i < tr.length → tr.getD i default = -1) (hn : (tr.length : Int) ≤ k.days) :
    ∀ i, i ≤ tr.length → (stgTo k (amN l day l.length) tr i).2 = 0 ∧ (stgTo k (amN l day l.length) tr i).1.1 = (if day ≤ i then (allTo k l l.length).1 else k) ∧ kW (stgTo k (amN l day l.length) tr i).1.1 ∧ validS (stgTo k (amN l day l.length) tr i).1.1 (stgTo k (amN l day l.length) tr i).1.2 = true ∧ (stgTo k (amN l day l.length) tr i).1.2.day = i
  | 0, _ => by
    obtain ⟨a1, a2, a3, a4⟩ := (allTo_all hv (Nat.le_refl _) ho).1
    have hw := allTo_W hk hl (Nat.le_refl _)
    have hp : preTo k (amN l day l.length) (amN l day l.length).length = if day ≤ (0 : Nat) then (allTo k l l.length).1 else k := by
      rw [amN_len]
      by_cases h : day ≤ 0
      · rw [if_pos (by omega), preTo_now ho h _ (Nat.le_refl _)]
      · rw [if_neg (by omega), preTo_late (by omega) _ (Nat.le_refl _)]
    have hW : kW (if day ≤ (0 : Nat) then (allTo k l l.length).1 else k) := by split <;> assumption
    have hV : (kValid (if day ≤ (0 : Nat) then (allTo k l l.length).1 else k)).1 = 0 := by split <;> assumption
    rw [stgTo, hp]
    generalize (if day ≤ (0 : Nat) then (allTo k l l.length).1 else k) = k2 at *
    have h0 := startS_of hV
    obtain ⟨b1, b2, b3⟩ := startS_zero hW h0
    exact ⟨h0, rfl, hW, b2, b3⟩
  | i + 1, hi => by
    obtain ⟨a1, a2, a3, a4⟩ := (allTo_all hv (Nat.le_refl _) ho).1
    obtain ⟨b1, b2, b3, b4, b5⟩ := stg_ticks hk hv hl ho hd ht hn i (by omega)
    rw [stgTo, if_neg (by simpa using b1), ht i (by omega)]
    have hdays : (stgTo k (amN l day l.length) tr i).1.1.days = k.days := by
      rw [b2]
      split
      · rw [a4]
      · rfl
    have hw := fun h => (allTo_W (k := k) hk hl (i := l.length) h)
    generalize hc : stgTo k (amN l day l.length) tr i = x at *
    obtain ⟨⟨c, s⟩, e⟩ := x
    dsimp only at b1 b2 b3 b4 b5 hdays
    have hst : ∃ t, stepS c s (-1) = (t, 0) ∧ validS c t = true ∧ t.day = i + 1 := by
      rcases stepS_cases b3 s (-1) with ⟨h1 | h1 | h1, _⟩ | ⟨_, h1, _⟩ | ⟨_, _, h1, hw⟩
      · rw [b4] at h1; cases h1
      · omega
      · omega
      · omega
      · refine ⟨_, h1, validS_of b3 (validS_len b4).1 hw, ?_⟩
        show (stepW c s.wk (-1)).day = _
        rw [step_day, if_pos rfl]
        show s.day + 1 = _
        rw [b5]
    obtain ⟨t, h1, h2, h3⟩ := hst
    unfold nextS
    dsimp only
    rw [h1]
    dsimp only
    rw [if_pos ⟨rfl, rfl⟩, amN_len]
    by_cases hday : day = t.day
    · have hki : ¬ day ≤ (i : Int) := by omega
      rw [if_neg hki] at b2
      subst b2
      subst hday
      rw [todTo_day ho _ (Nat.le_refl _)]
      refine ⟨rfl, ?_, hw (Nat.le_refl _), stMig_valid hk hl h2 ho (Nat.le_refl _), ?_⟩
      · rw [if_pos (by omega)]
      · show (stMig _ _ _ _).day = _
        rw [stMig_day, h3]
        omega
    · rw [todTo_other hday _ (Nat.le_refl _)]
      refine ⟨rfl, ?_, b3, h2, by show t.day = _; rw [h3]; omega⟩
      show c = _
      rw [b2]
      by_cases hle : day ≤ (i : Int)
      · rw [if_pos hle, if_pos (by omega)]
      · rw [if_neg hle, if_neg (by omega)]
end Go.Proofs.YtlhmgphgnedlkaaGreat
end
section
/- The law TopMergedInForce: amendments of a day, and what a run of ticks under them answers. -/
namespace Go.Proofs.YtlhmgphgnedlkaaGreat
open Go.Eng
set_option maxRecDepth 10000
theorem amends_ok (l : List Pt) (day : Int) (hl : l.length ≤ 1000000) : Does Tryz.prog 21 [ptsV l, .c (.int .i64 day)] (amsV (amN l day l.length)) := by
  have hA := fun i (h : i < l.length) => amN_at (l := l) (day := day) h
  have hn := amN_len l day l.length
  generalize amN l day l.length = M at *
  refine Does.mk (fun _ => false) TT_ok Tryz.func21 rfl (by kernel_rfl) Tryz.ntmps21 rfl rfl fun E hT hE hN hR => ?_
  have hm := mixO hE
  (repeat (first | refine XK.n ?_ | refine XK.a ?_ | refine XK.b ?_))
  refine XK.loop (ι := Nat) (fun i => ST.of [(0, ptsV l), (1, .c (.int .i64 day)), (5, .vec 700 0), (6, .c (.int .i64 i))] [(700, .vec 68 22 0 i (fun j => amC (M.getD j default)))] 1000 25 (fun _ => false))
    (fun i => i ≤ l.length) (fun i => l.length - i) 0 (Nat.zero_le _)
    (Weak.trans (Weak.ghost (j := 5) (k := 700) (e := 68) (sz := 22) (f := fun _ => []) rfl rfl) (Weak.of hN rfl rfl rfl frI (by (repeat' (first | exact rfl | exact AvIs.refl _ | exact trivial | exact fun _ _ => rfl | exact fun _ _ => ⟨rfl, AvIs.refl _⟩ | exact cI (by omega) | exact (fun j hj => absurd hj (Nat.not_lt_zero _)) | refine ⟨?_, ?_⟩))))) fun i hi => ?_
  (repeat (first | refine XK.n ?_ | refine XK.a ?_ | refine XK.b ?_)); refine XK.cond rfl (fun hlt => ?_) (fun hlt => ?_) <;> (try simp at hlt)
  · have fx : l.getD (i : Int).toNat default = l.getD i default := rfl
    have hAi := hA i hlt
    (repeat (first | refine XK.n ?_ | refine XK.a ?_ | refine XK.b ?_))
    rw [fx]
    generalize l.getD i default = p at *
    refine XK.inv ⟨i + 1, hlt, Weak.trans (Weak.stamp (k := 700) (t := 0) hN rfl rfl) (Weak.of hN rfl rfl rfl frI ⟨⟨rfl, rfl, rfl⟩, rfl, row_app amC M i _ (by rw [hAi]; rfl)⟩), by omega⟩
  · have hie : i = l.length := by omega
    subst hie
    refine XK.weak (Weak.frozen (k := 700) hN rfl rfl) ?_
    (repeat (first | refine XK.n ?_ | refine XK.a ?_ | refine XK.b ?_))
    rw [← hn]
    (first | refine XK.out rfl rfl rfl ?_ | refine XK.outN rfl rfl rfl ?_)
    rfl
theorem rev_at {α : Type} [Inhabited α] {l : List α} {i : Nat} (h : i < l.length) : l.reverse.getD i default = l.getD (l.length - 1 - i) default := by
  rw [List.getD_eq_getElem?_getD, List.getElem?_reverse h, ← List.getD_eq_getElem?_getD]
def tickL (n : Nat) : List Int := (List.range n).map (fun _ => -1)
theorem tickL_len (n : Nat) : (tickL n).length = n := by simp [tickL]
theorem tickL_at {n i : Nat} (h : i < n) : (tickL n).getD i default = -1 := map_getD _ h
theorem run_merged {k : K} (hk : kW k) (hv : (kValid k).1 = 0) {M : List Pt} (hM : ptsOk M) (hn : M.length ≤ 60) (ho : (allTo k M M.length).2 = 0) {day : Int} (hd : 0 ≤ day) {n : Nat} (hnd : (n : Int) ≤ k.days) (h40 : n ≤ 4000) {T : List Am} (hT : T.Perm (amN M day M.length)) :
    (runR k T 0 (tickL n)).2 = 0 ∧ (runR k T 0 (tickL n)).1.1.length = n + 1 ∧ (runR k T 0 (tickL n)).1.2.length = n + 1 ∧
    ∀ i, i ≤ n → (runR k T 0 (tickL n)).1.1.getD i default = (if day ≤ i then (allTo k M M.length).1 else k) ∧ validS (if day ≤ i then (allTo k M M.length).1 else k) ((runR k T 0 (tickL n)).1.2.getD i default) = true ∧ ((runR k T 0 (tickL n)).1.2.getD i default).day = i := by
  have hs := stg_ticks hk hv (fun p hp => (hM p hp).1) ho hd (tr := tickL n) (fun i hi => tickL_at (by rw [tickL_len] at hi; exact hi)) (by rw [tickL_len]; exact hnd)
  rw [tickL_len] at hs
  have hl : T.length = M.length := by rw [hT.length_eq, amN_len]
  have h0 := startS_of hv
  have e : runR k T 0 (tickL n) = (((List.range (n + 1)).map (fun i => (stgTo k (amN M day M.length) (tickL n) i).1.1), (List.range (n + 1)).map (fun i => (stgTo k (amN M day M.length) (tickL n) i).1.2)), 0) := by
    unfold runR
    have n1 : ¬ (startS k).2 ≠ 0 := by simpa using h0
    have n2 : ¬ (60 < T.length ∨ 4000 < (tickL n).length) := by rw [tickL_len]; omega
    rw [if_neg n1, if_neg n2, consA_amN hT, tickL_len]
    have n3 : ¬ (stgTo k (amN M day M.length) (tickL n) n).2 ≠ 0 := by
      have := (hs n (Nat.le_refl _)).1
      simpa using this
    rw [if_neg n3]
  rw [e]
  refine ⟨rfl, by simp, by simp, fun i hi => ?_⟩
  obtain ⟨a1, a2, a3, a4, a5⟩ := hs i hi
  dsimp only
  rw [map_getD _ (by omega), map_getD _ (by omega), ← a2]
  exact ⟨rfl, a4, a5⟩
theorem amN_gd {M : List Pt} (hM : ptsOk M) {day : Int} (hd : inK .i64 day) (hn : M.length ≤ 60) {T : List Am} (hT : T.Perm (amN M day M.length)) : amsOk T := by
  intro a ha
  obtain ⟨i, hi, rfl⟩ := amN_mem (hT.mem_iff.1 ha)
  obtain ⟨p1, p2, p3⟩ := hM _ (getD_memW hi)
  refine ⟨⟨?_, hd, by simp [inK], p1⟩, p2, p3⟩
  show -9223372036854775808 ≤ (i : Int) + 1 ∧ (i : Int) + 1 ≤ 9223372036854775807
  omega
theorem inForce_merged {k : K} (hv : (kValid k).1 = 0) {M : List Pt} (hn : M.length ≤ 60) (ho : (allTo k M M.length).2 = 0) {day d : Int} {T : List Am} (hT : T.Perm (amN M day M.length)) :
    inForceR k T d 0 = ((if day ≤ d then ((allTo k M M.length).1, (List.range M.length).map (fun (i : Nat) => (i : Int) + 1)) else (k, [])), 0) := by
  have hl : T.length = M.length := by rw [hT.length_eq, amN_len]
  have hc : checkV k T = 0 := by unfold checkV; rw [if_neg (by simpa using hv), if_neg (by omega)]
  have n1 : ¬ checkV k T ≠ 0 := by simpa using hc
  rw [inForceR_eq, if_neg n1, force_amN ho hT]
theorem kb_valid {k : K} (hk : kW k) (hv : (kValid k).1 = 0) : KB k := by
  have hF := (show kOk k from ⟨hk, hv⟩).facts
  have b1 := hF.nh
  have b2 := hF.na
  have b3 := hF.nc
  have b4 := units_len hv
  have b5 := off_len hF
  exact ⟨by omega, by omega, by omega, by omega, by omega, cls_start hF⟩
end Go.Proofs.YtlhmgphgnedlkaaGreat
end
section
/- The law TopMergedInForce: the walk. -/
namespace Go.Proofs.YtlhmgphgnedlkaaGreat
open Go.Eng
set_option maxRecDepth 10000
noncomputable def cPts : Codec Tryz.prog 28 (List Pt) := Codec.slice cPt ty28_k (by decide) (by kernel_rfl)
set_option maxHeartbeats 4000000 in
theorem lawMI (k : K) (hk : kW k) (left right : List Pt) (hlw : ∀ p ∈ left, ptW p) (hrw : ∀ p ∈ right, ptW p) (raw : Int) (hraw : 0 ≤ raw ∧ raw ≤ 255) :
    Does Tryz.prog 4 [kV k, ptsV left, ptsV right, .c (.int .u8 raw)] (.c (.bool true)) := by
  have cs := (wsmall_ok k left right []).argS (args' := [kV k, ptsV left, ptsV right, .c (.slice none 0 0)]) ⟨AvS.refl _, AvS.refl _, AvS.refl _, AvS.nil, trivial⟩
  refine Does.mk (fun _ => false) TT_ok Tryz.func4 rfl (by kernel_rfl) Tryz.ntmps4 rfl rfl fun E hT hE hN hR => ?_
  have hm := mixO hE
  (repeat (first | refine XK.n ?_ | refine XK.a ?_ | refine XK.b ?_))
  (repeat (first | refine XK.n ?_ | refine XK.a ?_ | refine XK.b ?_)); refine XK.region ?_; refine XL.g ?_
  refine XL.callLA hE rfl rfl rfl rfl trivial rfl (merged_ok) rfl ?_
  refine XL.g ?_; refine XL.fin ?_; (repeat (first | refine XK.n ?_ | refine XK.a ?_ | refine XK.b ?_))
  (repeat (first | refine XK.n ?_ | refine XK.a ?_ | refine XK.b ?_))
  (repeat (first | refine XK.n ?_ | refine XK.a ?_ | refine XK.b ?_)); refine XK.region ?_; refine XL.g ?_
  refine XL.callLA hE rfl rfl rfl rfl trivial rfl (cs) rfl ?_
  refine XL.g ?_; refine XL.fin ?_; (repeat (first | refine XK.n ?_ | refine XK.a ?_ | refine XK.b ?_))
  (repeat (first | refine XK.n ?_ | refine XK.a ?_ | refine XK.b ?_)); refine XK.cond rfl (fun h1 => ?_) (fun h1 => ?_)
  · (repeat (first | refine XK.n ?_ | refine XK.a ?_ | refine XK.b ?_))
    (first | refine XK.out rfl rfl rfl ?_ | refine XK.outN rfl rfl rfl ?_)
    rfl
  simp only [Bool.or_eq_false_iff, Bool.not_eq_false', decide_eq_false_iff_not] at h1
  obtain ⟨⟨h1, hd1⟩, hd2⟩ := h1
  simp only [smallW, Bool.and_eq_true, decide_eq_true_eq, List.all_eq_true] at h1
  obtain ⟨⟨hsl, hsr⟩, ⟨⟨hsk, n6⟩, m6⟩, l40⟩ := h1
  have hl : ptsOk left := fun p hp => by
    have := small24_facts (hsl p hp)
    exact ⟨hlw p hp, by omega, by omega⟩
  have hr : ptsOk right := fun p hp => by
    have := small24_facts (hsr p hp)
    exact ⟨hrw p hp, by omega, by omega⟩
  have c1 := merge_ok k hk left right hl hr
  have hml := fun h => merge_law (k := k) hl hr h
  generalize mergeR k left right = R at *
  obtain ⟨M, pr, e⟩ := R
  dsimp only at *
  (repeat (first | refine XK.n ?_ | refine XK.a ?_ | refine XK.b ?_))
  (repeat (first | refine XK.n ?_ | refine XK.a ?_ | refine XK.b ?_)); refine XK.region ?_; refine XL.g ?_
  refine XL.callKA hE rfl rfl rfl rfl trivial rfl rfl (c1) ?_
  refine XL.g ?_; refine XL.fin ?_; (repeat (first | refine XK.n ?_ | refine XK.a ?_ | refine XK.b ?_))
  (repeat (first | refine XK.n ?_ | refine XK.a ?_ | refine XK.b ?_)); refine XK.cond rfl (fun h2 => ?_) (fun h2 => ?_)
  · (repeat (first | refine XK.n ?_ | refine XK.a ?_ | refine XK.b ?_))
    (first | refine XK.out rfl rfl rfl ?_ | refine XK.outN rfl rfl rfl ?_)
    rfl
  have h2 : e = 0 := by simpa using h2
  subst h2
  obtain ⟨hv, hM60, hM, ho⟩ := hml rfl
  clear hml
  obtain ⟨⟨_, av, _, af⟩, _⟩ := allTo_all hv (Nat.le_refl _) ho
  have wE := allTo_W hk (fun p hp => (hM p hp).1) (Nat.le_refl M.length)
  have ca := appAll_ok k hk M hM
  have eA : appAllR k M = allTo k M M.length := by unfold appAllR; rw [if_neg (by simpa using hv), if_neg (by omega)]
  rw [eA] at ca
  have eD : raw.tmod (k.days + 1) = raw % (k.days + 1) := Int.tmod_eq_emod_of_nonneg hraw.1
  have hday : 0 ≤ raw % (k.days + 1) ∧ raw % (k.days + 1) ≤ k.days := by
    have h1 := Int.emod_nonneg raw (show k.days + 1 ≠ 0 by omega)
    have h2 := Int.emod_lt_of_pos raw (show 0 < k.days + 1 by omega)
    omega
  (repeat (first | refine XK.n ?_ | refine XK.a ?_ | refine XK.b ?_))
  (repeat (first | refine XK.n ?_ | refine XK.a ?_ | refine XK.b ?_)); refine XK.region ?_; refine XL.g ?_
  refine XL.callKA hE rfl rfl rfl rfl trivial rfl rfl (ca) ?_
  refine XL.g ?_; refine XL.fin ?_; (repeat (first | refine XK.n ?_ | refine XK.a ?_ | refine XK.b ?_))
  (repeat (first | refine XK.n ?_ | refine XK.a ?_ | refine XK.b ?_))
  rw [eD]
  generalize raw % (k.days + 1) = day at *
  have hdi : inK .i64 day := by show _ ≤ _ ∧ _ ≤ _; have := hk.2.2.2.2.2.1; obtain ⟨_, h2⟩ := this; omega
  have d1 := amends_ok M day (by omega)
  have hA := amN_len M day M.length
  have hp1 : (amN M day M.length).reverse.Perm (amN M day M.length) := List.reverse_perm _
  have hok1 := amN_gd hM hdi hM60 hp1
  have hok2 := amN_gd hM hdi hM60 (List.Perm.refl _)
  have i1 := inForce_merged (d := day) hv hM60 ho hp1
  have i2 := inForce_merged (d := day - 1) hv hM60 ho (List.Perm.refl (amN M day M.length))
  rw [if_pos (Int.le_refl _)] at i1
  rw [if_neg (by omega)] at i2
  have f1 := inForce_ok k hk _ hok1 day 0
  have f2 := inForce_ok k hk _ hok2 (day - 1) 0
  rw [i1] at f1
  rw [i2] at f2
  have hrun := run_merged hk hv hM hM60 ho hday.1 (n := k.days.toNat) (by omega) (by omega) hp1
  have fr := run_ok k hk (amN M day M.length).reverse (fun a ha => hok1 a ha) 0 (tickL k.days.toNat)
  have hrl : (amN M day M.length).reverse.length = M.length := by rw [List.length_reverse, hA]
  have hrv := fun i (h : i < (amN M day M.length).length) => rev_at h
  rw [hA] at hrv
  clear hp1 hok1 hok2 i1 i2
  generalize (amN M day M.length).reverse = T at *
  generalize amN M day M.length = A at *
  generalize hrr : runR k T 0 (tickL k.days.toNat) = RR at *
  obtain ⟨⟨CS, SS⟩, er⟩ := RR
  dsimp only at hrun f1 f2
  obtain ⟨rfl, hc1, hs1, hst⟩ := hrun
  have hKw := kb_valid wE av
  have hKk := kb_valid hk hv
  have kv1 := kValid_ok (allTo k M M.length).1 wE
  clear af
  generalize hW : allTo k M M.length = x at *
  obtain ⟨w, ew⟩ := x
  dsimp only at *
  subst ho
  (repeat (first | refine XK.n ?_ | refine XK.a ?_ | refine XK.b ?_))
  (repeat (first | refine XK.n ?_ | refine XK.a ?_ | refine XK.b ?_)); refine XK.region ?_; refine XL.g ?_
  refine XL.callKA hE rfl rfl rfl rfl trivial rfl rfl (d1) ?_
  refine XL.g ?_; refine XL.fin ?_; (repeat (first | refine XK.n ?_ | refine XK.a ?_ | refine XK.b ?_))
  (repeat (first | refine XK.n ?_ | refine XK.a ?_ | refine XK.b ?_))
  refine XK.loop (ι := Nat) (fun i => ST.of [(4, .ptr 4 0), (9, .c (.bool true)), (10, ptsV M), (13, .ptr 1138 0), (14, .c (.int .i64 0)), (15, .c (.int .i64 day)), (16, amsV A), (17, .vec 700 0), (18, .c (.int .i64 i))]
    [(4, .cells 27 (kC k)), (1138, .cells 27 (kC w)), (700, .vec 68 22 0 i (fun j => amC (T.getD j default)))] 3000 225 (fun _ => false))
    (fun i => i ≤ M.length) (fun i => M.length - i) 0 (Nat.zero_le _)
    (Weak.trans (Weak.ghost (j := 17) (k := 700) (e := 68) (sz := 22) (f := fun _ => []) rfl rfl) (Weak.of hN rfl rfl rfl frI (by (repeat' (first | exact rfl | exact AvIs.refl _ | exact trivial | exact fun _ _ => rfl | exact fun _ _ => ⟨rfl, AvIs.refl _⟩ | exact cI (by omega) | exact (fun j hj => absurd hj (Nat.not_lt_zero _)) | refine ⟨?_, ?_⟩))))) fun i hi => ?_
  (repeat (first | refine XK.n ?_ | refine XK.a ?_ | refine XK.b ?_)); refine XK.cond rfl (fun hlt => ?_) (fun hlt => ?_)
  · have hlt : i < M.length := by simp [hA] at hlt; omega
    have fx : A.getD ((A.length : Int) - 1 - i).toNat default = T.getD i default := by
      rw [hrv i hlt, hA]
      congr 1
      omega
    (repeat (first | refine XK.n ?_ | refine XK.a ?_ | refine XK.b ?_))
    rw [fx]
    refine XK.inv ⟨i + 1, hlt, Weak.trans (Weak.stamp (k := 700) (t := 0) hN rfl rfl) (Weak.of hN rfl rfl rfl frI ⟨frI, frI, ⟨rfl, rfl, rfl⟩, rfl, row_app amC T i _ rfl⟩), by omega⟩
  have hie : i = M.length := by simp [hA] at hlt; omega
  subst hie
  clear hlt hi
  refine XK.weak (Weak.frozen (k := 700) hN rfl rfl) ?_
  rw [← hrl]
  (repeat (first | refine XK.n ?_ | refine XK.a ?_ | refine XK.b ?_))
  (repeat (first | refine XK.n ?_ | refine XK.a ?_ | refine XK.b ?_)); refine XK.region ?_; refine XL.g ?_
  refine XL.callKA hE rfl rfl rfl rfl trivial rfl rfl (f1) ?_
  refine XL.g ?_; refine XL.fin ?_; (repeat (first | refine XK.n ?_ | refine XK.a ?_ | refine XK.b ?_))
  have s1 := same24_ok w w hKw
  rw [(sameR_iff _ _).2 rfl] at s1
  have s2 := same24_ok k k hKk
  rw [(sameR_iff _ _).2 rfl] at s2
  (repeat (first | refine XK.n ?_ | refine XK.a ?_ | refine XK.b ?_))
  (repeat (first | refine XK.n ?_ | refine XK.a ?_ | refine XK.b ?_)); refine XK.region ?_; refine XL.g ?_
  refine XL.callGA hE rfl rfl rfl rfl rfl rfl rfl rfl (s1) rfl ?_
  refine XL.g ?_; refine XL.fin ?_; (repeat (first | refine XK.n ?_ | refine XK.a ?_ | refine XK.b ?_))
  (repeat (first | refine XK.n ?_ | refine XK.a ?_ | refine XK.b ?_)); refine XK.cond rfl (fun h5 => ?_) (fun h5 => ?_)
  · exact absurd h5 (by simp)
  clear h5
  (repeat (first | refine XK.n ?_ | refine XK.a ?_ | refine XK.b ?_))
  (repeat (first | refine XK.n ?_ | refine XK.a ?_ | refine XK.b ?_)); refine XK.join (ST.of [(4, .ptr 4 0), (9, .c (.bool true)), (13, .ptr 1138 0), (15, .c (.int .i64 day)), (17, amsV T)] [(4, .cells 27 (kC k)), (1138, .cells 27 (kC w))] 5000 225 (fun _ => false)) rfl (fun h6 => ?_) (fun h6 => ?_) ?_
  · (repeat (first | refine XK.n ?_ | refine XK.a ?_ | refine XK.b ?_))
    (repeat (first | refine XK.n ?_ | refine XK.a ?_ | refine XK.b ?_)); refine XK.region ?_; refine XL.g ?_
    refine XL.callKA hE rfl rfl rfl rfl trivial rfl rfl (f2) ?_
    refine XL.g ?_; refine XL.fin ?_; (repeat (first | refine XK.n ?_ | refine XK.a ?_ | refine XK.b ?_))
    (repeat (first | refine XK.n ?_ | refine XK.a ?_ | refine XK.b ?_))
    (repeat (first | refine XK.n ?_ | refine XK.a ?_ | refine XK.b ?_)); refine XK.region ?_; refine XL.g ?_
    refine XL.callGA hE rfl rfl rfl rfl rfl rfl rfl rfl (s2) rfl ?_
    refine XL.g ?_; refine XL.fin ?_; (repeat (first | refine XK.n ?_ | refine XK.a ?_ | refine XK.b ?_))
    (repeat (first | refine XK.n ?_ | refine XK.a ?_ | refine XK.b ?_)); refine XK.cond rfl (fun h7 => ?_) (fun h7 => ?_)
    · exact absurd h7 (by simp)
    clear h7
    (repeat (first | refine XK.n ?_ | refine XK.a ?_ | refine XK.b ?_))
    exact XK.inv (Weak.of hN rfl rfl rfl frI frI)
  · (repeat (first | refine XK.n ?_ | refine XK.a ?_ | refine XK.b ?_))
    exact XK.inv (Weak.of hN rfl rfl rfl frI frI)
  have hdn : (k.days.toNat : Int) = k.days := Int.toNat_of_nonneg (by omega)
  (repeat (first | refine XK.n ?_ | refine XK.a ?_ | refine XK.b ?_))
  refine XK.loop (ι := Nat) (fun i => ST.of [(4, .ptr 4 0), (9, .c (.bool true)), (13, .ptr 1138 0), (15, .c (.int .i64 day)), (17, amsV T), (25, .vec 701 0), (26, .c (.int .i64 i))]
    [(4, .cells 27 (kC k)), (1138, .cells 27 (kC w)), (701, .vec 3 1 0 i (fun j => iC ((tickL k.days.toNat).getD j default)))] 7000 225 (fun _ => false))
    (fun i => i ≤ k.days.toNat) (fun i => k.days.toNat - i) 0 (Nat.zero_le _)
    (Weak.trans (Weak.ghost (j := 25) (k := 701) (e := 3) (sz := 1) (f := fun _ => []) rfl rfl) (Weak.of hN rfl rfl rfl frI (by (repeat' (first | exact rfl | exact AvIs.refl _ | exact trivial | exact fun _ _ => rfl | exact fun _ _ => ⟨rfl, AvIs.refl _⟩ | exact cI (by omega) | exact (fun j hj => absurd hj (Nat.not_lt_zero _)) | refine ⟨?_, ?_⟩))))) fun i hi => ?_
  (repeat (first | refine XK.n ?_ | refine XK.a ?_ | refine XK.b ?_)); refine XK.cond rfl (fun hlt => ?_) (fun hlt => ?_)
  · have hlt : i < k.days.toNat := by simp at hlt; omega
    have ht := tickL_at hlt
    (repeat (first | refine XK.n ?_ | refine XK.a ?_ | refine XK.b ?_))
    refine XK.inv ⟨i + 1, hlt, Weak.trans (Weak.stamp (k := 701) (t := 0) hN rfl rfl) (Weak.of hN rfl rfl rfl frI ⟨frI, frI, ⟨rfl, rfl, rfl⟩, rfl, row_app iC (tickL k.days.toNat) i _ (by rw [ht]; rfl)⟩), by omega⟩
  have hie : i = k.days.toNat := by simp at hlt; omega
  subst hie
  clear hlt hi
  have htl := tickL_len k.days.toNat
  refine XK.weak (Weak.of (L := [(4, .ptr 4 0), (9, .c (.bool true)), (13, .ptr 1138 0), (15, .c (.int .i64 day)), (17, amsV T), (25, .vec 701 0)]) (O := [(4, .cells 27 (kC k)), (1138, .cells 27 (kC w)), (701, .vec 3 1 0 (tickL k.days.toNat).length (fun j => iC ((tickL k.days.toNat).getD j default)))]) (nx := 9000) (nt := 225) (md := fun _ => false) hN rfl rfl rfl frI ⟨frI, frI, ⟨rfl, rfl, rfl⟩, htl.symm, fun j hj => rfl⟩) ?_
  refine XK.weak (Weak.frozen (k := 701) hN rfl rfl) ?_
  (repeat (first | refine XK.n ?_ | refine XK.a ?_ | refine XK.b ?_))
  (repeat (first | refine XK.n ?_ | refine XK.a ?_ | refine XK.b ?_)); refine XK.region ?_; refine XL.g ?_
  refine XL.callKA hE rfl rfl rfl rfl trivial rfl rfl (fr) ?_
  refine XL.g ?_; refine XL.fin ?_; (repeat (first | refine XK.n ?_ | refine XK.a ?_ | refine XK.b ?_))
  (repeat (first | refine XK.n ?_ | refine XK.a ?_ | refine XK.b ?_)); refine XK.cond rfl (fun h5 => ?_) (fun h5 => ?_)
  · exfalso
    simp only [Bool.or_eq_true, bne_iff_ne] at h5
    omega
  clear h5
  (repeat (first | refine XK.n ?_ | refine XK.a ?_ | refine XK.b ?_))
  refine XK.loop (ι := Nat) (fun i => ST.of [(4, .ptr 4 0), (9, .c (.bool true)), (13, .ptr 1138 0), (15, .c (.int .i64 day)), (27, ksV CS), (28, stsV SS), (30, .c (.int .i64 i))] [(4, .cells 27 (kC k)), (1138, .cells 27 (kC w))] 11000 225 (fun _ => false))
    (fun i => i ≤ CS.length) (fun i => CS.length - i) 0 (Nat.zero_le _) (Weak.of hN rfl rfl rfl frI frI) fun i hi => ?_
  (repeat (first | refine XK.n ?_ | refine XK.a ?_ | refine XK.b ?_)); refine XK.cond rfl (fun hlt => ?_) (fun hlt => ?_) <;> (try simp at hlt)
  · have fa : CS.getD (i : Int).toNat default = CS.getD i default := rfl
    have fb : SS.getD (i : Int).toNat default = SS.getD i default := rfl
    obtain ⟨t1, t2, t3⟩ := hst i (by omega)
    have hss : i < SS.length := by omega
    have hW2 : kW (if day ≤ (i : Int) then w else k) := by split <;> assumption
    have hK2 : KB (if day ≤ (i : Int) then w else k) := by split <;> assumption
    have v1 := validS_ok _ hW2 (SS.getD i default)
    rw [t2] at v1
    have s3 := same24_ok (if day ≤ (i : Int) then w else k) (if day ≤ (i : Int) then w else k) hK2
    rw [(sameR_iff _ _).2 rfl] at s3
    have hY : day ≤ (i : Int) → (if day ≤ (i : Int) then w else k) = w := fun h => if_pos h
    have hZ : ¬ day ≤ (i : Int) → (if day ≤ (i : Int) then w else k) = k := fun h => if_neg h
    generalize (if day ≤ (i : Int) then w else k) = c at *
    generalize SS.getD i default = s at *
    clear hst
    (repeat (first | refine XK.n ?_ | refine XK.a ?_ | refine XK.b ?_))
    (repeat (first | refine XK.n ?_ | refine XK.a ?_ | refine XK.b ?_)); refine XK.join (ST.of [(4, .ptr 4 0), (9, .c (.bool true)), (13, .ptr 1138 0), (15, .c (.int .i64 day)), (27, ksV CS), (28, stsV SS), (30, .c (.int .i64 i)), (31, .ptr 11256 0)] [(4, .cells 27 (kC k)), (1138, .cells 27 (kC w)), (11256, .cells 27 (kC c))] 13000 225 (fun _ => false)) rfl (fun h6 => ?_) (fun h6 => ?_) ?_
    · rw [hY (by simpa using h6)]
      (repeat (first | refine XK.n ?_ | refine XK.a ?_ | refine XK.b ?_))
      exact XK.inv (Weak.of hN rfl rfl rfl frI frI)
    · rw [hZ (by simpa using h6)]
      (repeat (first | refine XK.n ?_ | refine XK.a ?_ | refine XK.b ?_))
      exact XK.inv (Weak.of hN rfl rfl rfl frI frI)
    (repeat (first | refine XK.n ?_ | refine XK.a ?_ | refine XK.b ?_))
    (repeat (first | refine XK.n ?_ | refine XK.a ?_ | refine XK.b ?_)); refine XK.drawn hm ?_; refine XD.goA hT rfl rfl rfl rfl ?_
    rw [fa, t1]
    refine XD.callLA hE rfl rfl rfl rfl trivial rfl (s3) rfl ?_
    refine XD.goA hT rfl rfl rfl rfl ?_
    rw [fb]
    refine XD.callGA hE rfl rfl rfl rfl rfl rfl rfl rfl rfl (v1) rfl ?_
    refine XD.goA hT rfl rfl rfl rfl ?_; refine XD.fin (by kernel_rfl) ?_; (repeat (first | refine XK.n ?_ | refine XK.a ?_ | refine XK.b ?_))
    rw [fb, t3]
    (repeat (first | refine XK.n ?_ | refine XK.a ?_ | refine XK.b ?_)); refine XK.cond rfl (fun h7 => ?_) (fun h7 => ?_)
    · exact absurd h7 (by simp)
    clear h7
    (repeat (first | refine XK.n ?_ | refine XK.a ?_ | refine XK.b ?_))
    exact XK.inv ⟨i + 1, hlt, (Weak.of hN rfl rfl rfl frI frI), by omega⟩
  · rw [av] at kv1
    (repeat (first | refine XK.n ?_ | refine XK.a ?_ | refine XK.b ?_))
    (repeat (first | refine XK.n ?_ | refine XK.a ?_ | refine XK.b ?_)); refine XK.region ?_; refine XL.g ?_
    refine XL.callLA hE rfl rfl rfl rfl trivial rfl (kv1) rfl ?_
    refine XL.g ?_; refine XL.fin ?_; (repeat (first | refine XK.n ?_ | refine XK.a ?_ | refine XK.b ?_))
    (repeat (first | refine XK.n ?_ | refine XK.a ?_ | refine XK.b ?_))
    (first | refine XK.out rfl rfl rfl ?_ | refine XK.outN rfl rfl rfl ?_)
    rfl
end Go.Proofs.YtlhmgphgnedlkaaGreat
end
