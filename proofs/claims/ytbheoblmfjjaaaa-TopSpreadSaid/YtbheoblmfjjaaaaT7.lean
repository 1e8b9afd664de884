import Derived.Test.YtbheoblmfjjaaaaT6
import Derived.Test.YtbheoblmfjjaaaaT3
section
/- The law TopSpread: the walk. -/
namespace Go.Proofs.Ytbheoblmfjjaaaa
open Go.Eng
set_option maxRecDepth 10000
set_option linter.unusedSimpArgs false
set_option linter.unusedVariables false
theorem gus_rev (l : List Gu) : gusL l.reverse = .rs 3 l.length (fun k => guC (l.reverse.getD k default)) := by unfold gusL; rw [List.length_reverse]
theorem trs_rev (l : List Tr) : trsL l.reverse = .rs 2 l.length (fun k => trC (l.reverse.getD k default)) := by unfold trsL; rw [List.length_reverse]
set_option maxHeartbeats 4000000 in
theorem lawSP (p : Pf) (hp : pfW p) (t u : Nat) (ht : t ≤ 255) (hu : u ≤ 255) : Does Try.prog 3 [pfV p, .c (.int .u8 t), .c (.int .u8 u)] (.c (.bool true)) := by
  refine Does.mk (fun d => Nat.beq d 111) TT_ok Try.func3 rfl (by kernel_rfl) Try.ntmps3 rfl rfl fun E hT hE hN hR => ?_
  have hm : E.P.follows .mixedOrders = true := by rw [hE]; kernel_rfl
  (repeat (first | refine XK.norm rfl rfl ?_ | refine XK.rgnA hT rfl rfl rfl ?_ | refine XK.rgnB hT hm rfl rfl rfl ?_)); refine XK.region ?_; refine XL.goA hT rfl rfl rfl rfl ?_
  refine XL.callLA hE rfl rfl rfl rfl trivial rfl (saved_ok) rfl ?_
  refine XL.goA hT rfl rfl rfl rfl ?_; refine XL.fin ?_; (repeat (first | refine XK.norm rfl rfl ?_ | refine XK.rgnA hT rfl rfl rfl ?_ | refine XK.rgnB hT hm rfl rfl rfl ?_))
  (repeat (first | refine XK.norm rfl rfl ?_ | refine XK.rgnA hT rfl rfl rfl ?_ | refine XK.rgnB hT hm rfl rfl rfl ?_)); refine XK.region ?_; refine XL.goA hT rfl rfl rfl rfl ?_
  refine XL.callLA hE rfl rfl rfl rfl trivial rfl (few_ok p 40) rfl ?_
  refine XL.goA hT rfl rfl rfl rfl ?_
  refine XL.callGA hE rfl rfl rfl rfl rfl rfl rfl rfl (validP_ok p hp) rfl ?_
  refine XL.goA hT rfl rfl rfl rfl ?_; refine XL.fin ?_; (repeat (first | refine XK.norm rfl rfl ?_ | refine XK.rgnA hT rfl rfl rfl ?_ | refine XK.rgnB hT hm rfl rfl rfl ?_))
  (repeat (first | refine XK.norm rfl rfl ?_ | refine XK.rgnA hT rfl rfl rfl ?_ | refine XK.rgnB hT hm rfl rfl rfl ?_)); refine XK.cond rfl (fun h1 => ?_) (fun h1 => ?_) <;> (try simp at h1)
  · (repeat (first | refine XK.norm rfl rfl ?_ | refine XK.rgnA hT rfl rfl rfl ?_ | refine XK.rgnB hT hm rfl rfl rfl ?_))
    (first | refine XK.out rfl rfl rfl ?_ | refine XK.outN rfl rfl rfl ?_)
    rfl
  have hF : fewB p 40 = true := by cases h : fewB p 40 <;> simp_all
  have hV : validP p = true := by cases h : validP p <;> simp_all
  clear h1
  have ho := validP_iff.1 hV
  obtain ⟨n1, n2, n3, n4⟩ := ho.nd
  have t1 := turned_ok p.due (by have := ho.nd; omega) t ht
  have t2 := turned_ok p.later (by have := ho.nd; omega) t ht
  (repeat (first | refine XK.norm rfl rfl ?_ | refine XK.rgnA hT rfl rfl rfl ?_ | refine XK.rgnB hT hm rfl rfl rfl ?_)); refine XK.region ?_; refine XL.goA hT rfl rfl rfl rfl ?_
  refine XL.callKA hE rfl rfl rfl rfl trivial rfl rfl (t1) ?_
  refine XL.goA hT rfl rfl rfl rfl ?_; refine XL.fin ?_; (repeat (first | refine XK.norm rfl rfl ?_ | refine XK.rgnA hT rfl rfl rfl ?_ | refine XK.rgnB hT hm rfl rfl rfl ?_))
  (repeat (first | refine XK.norm rfl rfl ?_ | refine XK.rgnA hT rfl rfl rfl ?_ | refine XK.rgnB hT hm rfl rfl rfl ?_)); refine XK.region ?_; refine XL.goA hT rfl rfl rfl rfl ?_
  refine XL.callKA hE rfl rfl rfl rfl trivial rfl rfl (t2) ?_
  refine XL.goA hT rfl rfl rfl rfl ?_; refine XL.fin ?_; (repeat (first | refine XK.norm rfl rfl ?_ | refine XK.rgnA hT rfl rfl rfl ?_ | refine XK.rgnB hT hm rfl rfl rfl ?_))
  (repeat (first | refine XK.norm rfl rfl ?_ | refine XK.rgnA hT rfl rfl rfl ?_ | refine XK.rgnB hT hm rfl rfl rfl ?_))
  refine XK.weak (Weak.ghostS (c := 473) (k := 700) (l1 := [.c (.int .i64 p.parties), ratsL p.assets, dbsL (turnL p.due t), dbsL (turnL p.later t)]) (l2 := [trsL p.ts]) (e := 33) (sz := 3) (f := fun k => guC (p.gs.reverse.getD k default)) rfl rfl rfl) ?_
  refine XK.loop (ι := Nat) (fun j => ST.of [(1, .c (.int .u8 t)), (2, .c (.int .u8 u)), (3, .ptr 3 0), (7, .c (.bool true)), (8, .ptr 473 0), (9, .c (.int .i64 ((p.gs.length : Int) - 1 - j)))]
      [(3, .cells 27 (pfC p)), (473, .cells 27 [.c (.int .i64 p.parties), ratsL p.assets, dbsL (turnL p.due t), dbsL (turnL p.later t), .vec 700 0, trsL p.ts]), (700, .vec 33 3 0 j (fun k => guC (p.gs.reverse.getD k default)))] 2000 155 (fun d => Nat.beq d 111))
    (fun j => j ≤ p.gs.length) (fun j => p.gs.length - j) 0 (Nat.zero_le _)
    (Weak.of hN rfl rfl rfl (by (repeat' (first | exact rfl | exact AvIs.refl _ | exact trivial | exact fun _ _ => rfl | exact fun _ _ => ⟨rfl, AvIs.refl _⟩ | exact cI (by omega) | refine ⟨?_, ?_⟩))) (by (repeat' (first | exact rfl | exact AvIs.refl _ | exact trivial | exact fun _ _ => rfl | exact fun _ _ => ⟨rfl, AvIs.refl _⟩ | refine ⟨?_, ?_⟩)))) fun j hj => ?_
  (repeat (first | refine XK.norm rfl rfl ?_ | refine XK.rgnA hT rfl rfl rfl ?_ | refine XK.rgnB hT hm rfl rfl rfl ?_)); refine XK.cond rfl (fun hlt => ?_) (fun hlt => ?_) <;> (try simp at hlt)
  · have hjl : j < p.gs.length := by omega
    have e : p.gs.reverse.getD j default = p.gs.getD (p.gs.length - 1 - j) default := by
      simp [List.getD, List.getElem?_reverse hjl]
    (repeat (first | refine XK.norm rfl rfl ?_ | refine XK.rgnA hT rfl rfl rfl ?_ | refine XK.rgnB hT hm rfl rfl rfl ?_))
    refine XK.inv ⟨j + 1, hjl, Weak.trans (Weak.stamp (k := 700) (t := 0) hN rfl rfl) (Weak.of hN rfl rfl rfl (by (repeat' (first | exact rfl | exact AvIs.refl _ | exact trivial | exact fun _ _ => rfl | exact fun _ _ => ⟨rfl, AvIs.refl _⟩ | exact cI (by omega) | refine ⟨?_, ?_⟩))) ⟨⟨rfl, rfl⟩, ⟨rfl, rfl⟩, ⟨rfl, rfl, rfl⟩, rfl, fun k hk => (catF_one (g := fun k => guC (p.gs.reverse.getD k default)) ?_ (fun k hk => rfl) k hk).symm⟩), by omega⟩
    rw [e, show ((p.gs.length : Int) - 1 - j).toNat = p.gs.length - 1 - j by omega]
    rfl
  have hjn : j = p.gs.length := by omega
  subst hjn
  clear hlt hj
  refine XK.weak (Weak.frozen (k := 700) hN rfl rfl) ?_
  refine XK.weak (st' := ST.of [(1, .c (.int .u8 t)), (2, .c (.int .u8 u)), (3, .ptr 3 0), (7, .c (.bool true)), (8, .ptr 473 0)]
    [(3, .cells 27 (pfC p)), (473, .cells 27 [.c (.int .i64 p.parties), ratsL p.assets, dbsL (turnL p.due t), dbsL (turnL p.later t), .rs 3 p.gs.length (fun k => guC (p.gs.reverse.getD k default)), trsL p.ts])] 3000 155 (fun d => Nat.beq d 111)) (Weak.of hN rfl rfl rfl (by (repeat' (first | exact rfl | exact AvIs.refl _ | exact trivial | exact fun _ _ => rfl | exact fun _ _ => ⟨rfl, AvIs.refl _⟩ | exact cI (by omega) | refine ⟨?_, ?_⟩))) (by (repeat' (first | exact rfl | exact AvIs.refl _ | exact trivial | exact fun _ _ => rfl | exact fun _ _ => ⟨rfl, AvIs.refl _⟩ | refine ⟨?_, ?_⟩)))) ?_
  (repeat (first | refine XK.norm rfl rfl ?_ | refine XK.rgnA hT rfl rfl rfl ?_ | refine XK.rgnB hT hm rfl rfl rfl ?_))
  refine XK.weak (Weak.ghostS (c := 473) (k := 701) (l1 := [.c (.int .i64 p.parties), ratsL p.assets, dbsL (turnL p.due t), dbsL (turnL p.later t), .rs 3 p.gs.length (fun k => guC (p.gs.reverse.getD k default))]) (l2 := []) (e := 35) (sz := 2) (f := fun k => trC (p.ts.reverse.getD k default)) rfl rfl rfl) ?_
  refine XK.loop (ι := Nat) (fun j => ST.of [(1, .c (.int .u8 t)), (2, .c (.int .u8 u)), (3, .ptr 3 0), (7, .c (.bool true)), (8, .ptr 473 0), (10, .c (.int .i64 ((p.ts.length : Int) - 1 - j)))]
      [(3, .cells 27 (pfC p)), (473, .cells 27 [.c (.int .i64 p.parties), ratsL p.assets, dbsL (turnL p.due t), dbsL (turnL p.later t), .rs 3 p.gs.length (fun k => guC (p.gs.reverse.getD k default)), .vec 701 0]), (701, .vec 35 2 0 j (fun k => trC (p.ts.reverse.getD k default)))] 4000 155 (fun d => Nat.beq d 111))
    (fun j => j ≤ p.ts.length) (fun j => p.ts.length - j) 0 (Nat.zero_le _)
    (Weak.of hN rfl rfl rfl (by (repeat' (first | exact rfl | exact AvIs.refl _ | exact trivial | exact fun _ _ => rfl | exact fun _ _ => ⟨rfl, AvIs.refl _⟩ | exact cI (by omega) | refine ⟨?_, ?_⟩))) (by (repeat' (first | exact rfl | exact AvIs.refl _ | exact trivial | exact fun _ _ => rfl | exact fun _ _ => ⟨rfl, AvIs.refl _⟩ | refine ⟨?_, ?_⟩)))) fun j hj => ?_
  (repeat (first | refine XK.norm rfl rfl ?_ | refine XK.rgnA hT rfl rfl rfl ?_ | refine XK.rgnB hT hm rfl rfl rfl ?_)); refine XK.cond rfl (fun hlt => ?_) (fun hlt => ?_) <;> (try simp at hlt)
  · have hjl : j < p.ts.length := by omega
    have e : p.ts.reverse.getD j default = p.ts.getD (p.ts.length - 1 - j) default := by
      simp [List.getD, List.getElem?_reverse hjl]
    (repeat (first | refine XK.norm rfl rfl ?_ | refine XK.rgnA hT rfl rfl rfl ?_ | refine XK.rgnB hT hm rfl rfl rfl ?_))
    refine XK.inv ⟨j + 1, hjl, Weak.trans (Weak.stamp (k := 701) (t := 0) hN rfl rfl) (Weak.of hN rfl rfl rfl (by (repeat' (first | exact rfl | exact AvIs.refl _ | exact trivial | exact fun _ _ => rfl | exact fun _ _ => ⟨rfl, AvIs.refl _⟩ | exact cI (by omega) | refine ⟨?_, ?_⟩))) ⟨⟨rfl, rfl⟩, ⟨rfl, rfl⟩, ⟨rfl, rfl, rfl⟩, rfl, fun k hk => (catF_one (g := fun k => trC (p.ts.reverse.getD k default)) ?_ (fun k hk => rfl) k hk).symm⟩), by omega⟩
    rw [e, show ((p.ts.length : Int) - 1 - j).toNat = p.ts.length - 1 - j by omega]
    rfl
  have hjn : j = p.ts.length := by omega
  subst hjn
  clear hlt hj
  refine XK.weak (Weak.frozen (k := 701) hN rfl rfl) ?_
  refine XK.weak (st' := ST.of [(1, .c (.int .u8 t)), (2, .c (.int .u8 u)), (3, .ptr 3 0), (7, .c (.bool true)), (8, .ptr 473 0)]
    [(3, .cells 27 (pfC p)), (473, .cells 27 [.c (.int .i64 p.parties), ratsL p.assets, dbsL (turnL p.due t), dbsL (turnL p.later t), gusL p.gs.reverse, trsL p.ts.reverse])] 5000 155 (fun d => Nat.beq d 111)) (Weak.of hN rfl rfl rfl (by (repeat' (first | exact rfl | exact AvIs.refl _ | exact trivial | exact fun _ _ => rfl | exact fun _ _ => ⟨rfl, AvIs.refl _⟩ | exact cI (by omega) | refine ⟨?_, ?_⟩))) ⟨⟨rfl, rfl⟩, rfl, by rw [gus_rev, trs_rev]; rfl⟩) ?_
  have hl1 : (turnL p.due t).length = p.due.length := turnL_len
  (repeat (first | refine XK.norm rfl rfl ?_ | refine XK.rgnA hT rfl rfl rfl ?_ | refine XK.rgnB hT hm rfl rfl rfl ?_)); refine XK.cond rfl (fun hn => ?_) (fun hn => ?_) <;> (try simp at hn)
  · have hk0 : 0 < p.due.length := by omega
    obtain ⟨k, hk⟩ : ∃ k, k = u % p.due.length := ⟨_, rfl⟩
    have hkl : k < p.due.length := by rw [hk]; exact Nat.mod_lt _ hk0
    have hkt : ((u : Int).tmod ((turnL p.due t).length : Nat)) = (k : Int) := by
      rw [hl1, hk]; rfl
    have dqW : qW ((turnL p.due t).getD k default).amt := by
      rw [turnL_getD hkl]
      exact (hp.due _ (Nat.mod_lt _ hk0)).2.2
    have dv := div_ok ((turnL p.due t).getD k default).amt (2, 1) dqW ⟨by simp [inK], by simp [inK]⟩
    (repeat (first | refine XK.norm rfl rfl ?_ | refine XK.rgnA hT rfl rfl rfl ?_ | refine XK.rgnB hT hm rfl rfl rfl ?_)); refine XK.drawn hm ?_; refine XD.goA hT rfl rfl rfl rfl ?_
    refine XD.callLA hE rfl rfl rfl rfl trivial rfl (of_ok 2) rfl ?_
    refine XD.goA hT rfl rfl rfl rfl ?_
    rw [hkt]
    have fk : (turnL p.due t).getD (k : Int).toNat default = (turnL p.due t).getD k default := rfl
    rw [fk]
    refine XD.callLA hE rfl rfl rfl rfl trivial rfl (dv) rfl ?_
    refine XD.goA hT rfl rfl rfl rfl ?_; refine XD.fin (by kernel_rfl) ?_; (repeat (first | refine XK.norm rfl rfl ?_ | refine XK.rgnA hT rfl rfl rfl ?_ | refine XK.rgnB hT hm rfl rfl rfl ?_))
    (repeat (first | refine XK.norm rfl rfl ?_ | refine XK.rgnA hT rfl rfl rfl ?_ | refine XK.rgnB hT hm rfl rfl rfl ?_)); refine XK.cond rfl (fun he => ?_) (fun he => ?_) <;> (try simp at he)
    · (repeat (first | refine XK.norm rfl rfl ?_ | refine XK.rgnA hT rfl rfl rfl ?_ | refine XK.rgnB hT hm rfl rfl rfl ?_))
      (first | refine XK.out rfl rfl rfl ?_ | refine XK.outN rfl rfl rfl ?_)
      rfl
    have he' : (divR ((turnL p.due t).getD k default).amt (2, 1)).2 = 0 := by simpa [List.getD] using he
    clear he
    have hqk : qOk ((turnL p.due t).getD k default).amt = true := (dbB_ok (turn_dbB ho.due k (by rw [hl1]; exact hkl))).2.2.2.1
    obtain ⟨hv1, hv2⟩ := half_val hqk he'
    obtain ⟨x, hx⟩ : ∃ x : Db, x = ⟨((turnL p.due t).getD k default).from_, ((turnL p.due t).getD k default).to, (divR ((turnL p.due t).getD k default).amt (2, 1)).1⟩ := ⟨_, rfl⟩
    (repeat (first | refine XK.norm rfl rfl ?_ | refine XK.rgnA hT rfl rfl rfl ?_ | refine XK.rgnB hT hm rfl rfl rfl ?_))
    refine XK.weak (st' := ST.of [(3, .ptr 3 0), (7, .c (.bool true)), (8, .ptr 473 0)]
      [(3, .cells 27 (pfC p)), (473, .cells 27 [.c (.int .i64 p.parties), ratsL p.assets, .vec 6196 2, dbsL (turnL p.later t), gusL p.gs.reverse, trsL p.ts.reverse]),
       (6196, .vec 42 4 2 (halfL (turnL p.due t) k x).length (fun j => dbC ((halfL (turnL p.due t) k x).getD j default)))] 8000 155 (fun d => Nat.beq d 111)) (Weak.of hN rfl rfl rfl (by (repeat' (first | exact rfl | exact AvIs.refl _ | exact trivial | exact fun _ _ => rfl | exact fun _ _ => ⟨rfl, AvIs.refl _⟩ | exact cI (by omega) | refine ⟨?_, ?_⟩))) ⟨⟨rfl, rfl⟩, ⟨rfl, rfl⟩, ⟨rfl, rfl, rfl⟩, ?_, fun j hj => ?_⟩) ?_
    · rw [halfL_len]; omega
    · refine (halfRow (by rw [hl1]; exact hkl) ?_ ?_ (fun j hj => ?_) j hj)
      · exact Nat.zero_add _
      · rw [hx]; rfl
      · rw [catF_eqQ]; rfl
    refine XK.weak (Weak.frozen (k := 6196) hN rfl rfl) ?_
    obtain ⟨D, hD⟩ : ∃ D, D = halfL (turnL p.due t) k x := ⟨_, rfl⟩
    rw [← hD]
    refine XK.weak (st' := ST.of [(3, .ptr 3 0), (7, .c (.bool true)), (8, .ptr 473 0)]
      [(3, .cells 27 (pfC p)), (473, .cells 27 (pfC (turnP p D t)))] 9000 155 (fun d => Nat.beq d 111)) (Weak.of hN rfl rfl rfl (by (repeat' (first | exact rfl | exact AvIs.refl _ | exact trivial | exact fun _ _ => rfl | exact fun _ _ => ⟨rfl, AvIs.refl _⟩ | exact cI (by omega) | refine ⟨?_, ?_⟩))) (by (repeat' (first | exact rfl | exact AvIs.refl _ | exact trivial | exact fun _ _ => rfl | exact fun _ _ => ⟨rfl, AvIs.refl _⟩ | refine ⟨?_, ?_⟩)))) ?_
    have hDW : ∀ i, i < D.length → dbW (D.getD i default) := by
      rw [hD]
      refine half_all (turn_W hp.due) ?_
      rw [hx]
      have h0 := turn_W (u := t) hp.due k (by rw [hl1]; exact hkl)
      refine ⟨h0.1, h0.2.1, ?_⟩
      have := qOk_iff.1 hv1
      exact ⟨by simp only [inK]; omega, by simp only [inK]; omega⟩
    have hDn : D.length ≤ 400 := by
      rw [hD, halfL_len, hl1]
      simp [fewB] at hF
      omega
    have hDb : ∀ i, i < D.length → dbB p.parties (D.getD i default) = true := by
      rw [hD]
      refine half_all (T := fun d => dbB p.parties d = true) (turn_dbB ho.due) ?_
      rw [hx]
      have h0 := turn_dbB (u := t) ho.due k (by rw [hl1]; exact hkl)
      have hn0 : 0 < (divR ((turnL p.due t).getD k default).amt (2, 1)).1.1 := by
        refine rt_pos_num hv1 ?_
        have hpos : 0 < rt ((turnL p.due t).getD k default).amt := by
          have h1 := rt_le zeroQ_ok hqk
          have h2 := (dbB_ok h0).2.2.2.2
          have h3 : ¬ rt ((turnL p.due t).getD k default).amt ≤ rt (0, 1) := by
            rw [h1]
            intro h4
            have h5 : ((turnL p.due t).getD k default).amt.1 * 1 ≤ 0 * ((turnL p.due t).getD k default).amt.2 := h4
            omega
          rw [rt_zero] at h3
          grind
        grind
      unfold dbB at h0 ⊢
      rw [Bool.and_eq_true] at h0 ⊢
      exact ⟨h0.1, by rw [Bool.and_eq_true]; exact ⟨hv1, by simpa using hn0⟩⟩
    have hDs : ∀ f u, sumD f u D = sumD f u p.due := by
      intro f u
      rw [hD, sumD_half (by rw [hl1]; exact hkl) (by rw [hx]) (by rw [hx]) (by rw [hx]; exact hv2), sumD_turn]
    clear hD hx dv t1 t2
    have hqW := turnP_W hp (t := t) hDW
    have hqo := turnP_ok ho (t := t) hDn hDb
    have hqv : validP (turnP p D t) = true := validP_iff.2 hqo
    have dq := dfl_ok (turnP p D t) hqW
    have dp := dfl_ok p hp
    have vq := validP_ok (turnP p D t) hqW
    have hs := turnP_same (t := t) hDs
    have bl := bools_ok (defR p).1.1 (defR (turnP p D t)).1.1 (defR p).1.2 (defR (turnP p D t)).1.2
    have hds := def_same hV hqv hs
    (repeat (first | refine XK.norm rfl rfl ?_ | refine XK.rgnA hT rfl rfl rfl ?_ | refine XK.rgnB hT hm rfl rfl rfl ?_)); refine XK.region ?_; refine XL.goA hT rfl rfl rfl rfl ?_
    refine XL.callKA hE rfl rfl rfl rfl trivial rfl rfl (dp) ?_
    refine XL.goA hT rfl rfl rfl rfl ?_; refine XL.fin ?_; (repeat (first | refine XK.norm rfl rfl ?_ | refine XK.rgnA hT rfl rfl rfl ?_ | refine XK.rgnB hT hm rfl rfl rfl ?_))
    (repeat (first | refine XK.norm rfl rfl ?_ | refine XK.rgnA hT rfl rfl rfl ?_ | refine XK.rgnB hT hm rfl rfl rfl ?_)); refine XK.region ?_; refine XL.goA hT rfl rfl rfl rfl ?_
    refine XL.callKA hE rfl rfl rfl rfl trivial rfl rfl (dq) ?_
    refine XL.goA hT rfl rfl rfl rfl ?_; refine XL.fin ?_; (repeat (first | refine XK.norm rfl rfl ?_ | refine XK.rgnA hT rfl rfl rfl ?_ | refine XK.rgnB hT hm rfl rfl rfl ?_))
    (repeat (first | refine XK.norm rfl rfl ?_ | refine XK.rgnA hT rfl rfl rfl ?_ | refine XK.rgnB hT hm rfl rfl rfl ?_)); refine XK.region ?_; refine XL.goA hT rfl rfl rfl rfl ?_
    refine XL.callGA hE rfl rfl rfl rfl rfl rfl rfl rfl (vq) rfl ?_
    refine XL.goA hT rfl rfl rfl rfl ?_
    refine XL.callGA hE rfl rfl rfl rfl rfl rfl rfl rfl (bl) rfl ?_
    refine XL.goA hT rfl rfl rfl rfl ?_; refine XL.fin ?_; (repeat (first | refine XK.norm rfl rfl ?_ | refine XK.rgnA hT rfl rfl rfl ?_ | refine XK.rgnB hT hm rfl rfl rfl ?_))
    (first | refine XK.out rfl rfl rfl ?_ | refine XK.outN rfl rfl rfl ?_)
    refine cB ?_
    rw [hqv]
    by_cases g1 : (defR p).2 = 0
    · by_cases g2 : (defR (turnP p D t)).2 = 0
      · rw [hds g1 g2]; simp
      · simp [g2]
    · simp [g1]
  have hDW := turn_W (u := t) hp.due
  have hDn : (turnL p.due t).length ≤ 400 := by rw [hl1]; exact n1
  have hDb := turn_dbB (u := t) ho.due
  have hDs : ∀ f v, sumD f v (turnL p.due t) = sumD f v p.due := fun f v => sumD_turn
  refine XK.weak (st' := ST.of [(3, .ptr 3 0), (7, .c (.bool true)), (8, .ptr 473 0)]
      [(3, .cells 27 (pfC p)), (473, .cells 27 (pfC (turnP p (turnL p.due t) t)))] 9000 155 (fun d => Nat.beq d 111)) (Weak.of hN rfl rfl rfl (by (repeat' (first | exact rfl | exact AvIs.refl _ | exact trivial | exact fun _ _ => rfl | exact fun _ _ => ⟨rfl, AvIs.refl _⟩ | exact cI (by omega) | refine ⟨?_, ?_⟩))) (by (repeat' (first | exact rfl | exact AvIs.refl _ | exact trivial | exact fun _ _ => rfl | exact fun _ _ => ⟨rfl, AvIs.refl _⟩ | refine ⟨?_, ?_⟩)))) ?_
  generalize turnL p.due t = D at *
  have hqW := turnP_W hp (t := t) hDW
  have hqo := turnP_ok ho (t := t) hDn hDb
  have hqv : validP (turnP p D t) = true := validP_iff.2 hqo
  have dq := dfl_ok (turnP p D t) hqW
  have dp := dfl_ok p hp
  have vq := validP_ok (turnP p D t) hqW
  have hs := turnP_same (t := t) hDs
  have bl := bools_ok (defR p).1.1 (defR (turnP p D t)).1.1 (defR p).1.2 (defR (turnP p D t)).1.2
  have hds := def_same hV hqv hs
  (repeat (first | refine XK.norm rfl rfl ?_ | refine XK.rgnA hT rfl rfl rfl ?_ | refine XK.rgnB hT hm rfl rfl rfl ?_)); refine XK.region ?_; refine XL.goA hT rfl rfl rfl rfl ?_
  refine XL.callKA hE rfl rfl rfl rfl trivial rfl rfl (dp) ?_
  refine XL.goA hT rfl rfl rfl rfl ?_; refine XL.fin ?_; (repeat (first | refine XK.norm rfl rfl ?_ | refine XK.rgnA hT rfl rfl rfl ?_ | refine XK.rgnB hT hm rfl rfl rfl ?_))
  (repeat (first | refine XK.norm rfl rfl ?_ | refine XK.rgnA hT rfl rfl rfl ?_ | refine XK.rgnB hT hm rfl rfl rfl ?_)); refine XK.region ?_; refine XL.goA hT rfl rfl rfl rfl ?_
  refine XL.callKA hE rfl rfl rfl rfl trivial rfl rfl (dq) ?_
  refine XL.goA hT rfl rfl rfl rfl ?_; refine XL.fin ?_; (repeat (first | refine XK.norm rfl rfl ?_ | refine XK.rgnA hT rfl rfl rfl ?_ | refine XK.rgnB hT hm rfl rfl rfl ?_))
  (repeat (first | refine XK.norm rfl rfl ?_ | refine XK.rgnA hT rfl rfl rfl ?_ | refine XK.rgnB hT hm rfl rfl rfl ?_)); refine XK.region ?_; refine XL.goA hT rfl rfl rfl rfl ?_
  refine XL.callGA hE rfl rfl rfl rfl rfl rfl rfl rfl (vq) rfl ?_
  refine XL.goA hT rfl rfl rfl rfl ?_
  refine XL.callGA hE rfl rfl rfl rfl rfl rfl rfl rfl (bl) rfl ?_
  refine XL.goA hT rfl rfl rfl rfl ?_; refine XL.fin ?_; (repeat (first | refine XK.norm rfl rfl ?_ | refine XK.rgnA hT rfl rfl rfl ?_ | refine XK.rgnB hT hm rfl rfl rfl ?_))
  (first | refine XK.out rfl rfl rfl ?_ | refine XK.outN rfl rfl rfl ?_)
  refine cB ?_
  rw [hqv]
  by_cases g1 : (defR p).2 = 0
  · by_cases g2 : (defR (turnP p D t)).2 = 0
    · rw [hds g1 g2]; simp
    · simp [g2]
  · simp [g1]
end Go.Proofs.Ytbheoblmfjjaaaa
end
section
/- How portfolios read; the law TopSpread for arguments as they are handed in. -/
namespace Go.Proofs.Ytbheoblmfjjaaaa
open Go.Eng
set_option maxRecDepth 10000
set_option linter.unusedSimpArgs false
set_option linter.unusedVariables false
noncomputable def cDb : Codec Try.prog 42 Db := (Codec.struct ty42_k rfl (.cons cInt (.cons cInt (.cons cQ (.nil _ _)))) (by kernel_rfl)).map (fun x => ⟨x.1, x.2.1, x.2.2.1⟩) dbC dbW (fun _ => rfl) (fun _ => rfl) (fun _ h => ⟨h.1, h.2.1, h.2.2.1⟩)
noncomputable def cDbs : Codec Try.prog 23 (List Db) := Codec.slice cDb ty23_k (by decide) (by kernel_rfl)
noncomputable def cGu : Codec Try.prog 33 Gu := (Codec.struct ty33_k rfl (.cons cInt (.cons cInt (.cons cInt (.nil _ _)))) (by kernel_rfl)).map (fun x => ⟨x.1, x.2.1, x.2.2.1⟩) guC (fun _ => True) (fun _ => rfl) (fun _ => rfl) (fun _ _ => trivial)
noncomputable def cGus : Codec Try.prog 24 (List Gu) := Codec.slice cGu ty24_k (by decide) (by kernel_rfl)
noncomputable def cTr : Codec Try.prog 35 Tr := (Codec.struct ty35_k rfl (.cons cInt (.cons cInt (.nil _ _))) (by kernel_rfl)).map (fun x => ⟨x.1, x.2.1⟩) trC (fun _ => True) (fun _ => rfl) (fun _ => rfl) (fun _ _ => trivial)
noncomputable def cTrs : Codec Try.prog 25 (List Tr) := Codec.slice cTr ty25_k (by decide) (by kernel_rfl)
noncomputable def cPf : Codec Try.prog 27 Pf := (Codec.struct ty27_k rfl (.cons cInt (.cons cQs (.cons cDbs (.cons cDbs (.cons cGus (.cons cTrs (.nil _ _))))))) (by kernel_rfl)).map
  (fun x => ⟨x.1, x.2.1, x.2.2.1, x.2.2.2.1, x.2.2.2.2.1, x.2.2.2.2.2.1⟩) pfC pfW (fun _ => rfl) (fun _ => rfl) (fun _ h => ⟨h.1, all_getD h.2.1, all_getD h.2.2.1, all_getD h.2.2.2.1⟩)
theorem lawSPz (p : Pf) (hp : pfW p) (a b : Int) (ha : inK .u8 a) (hb : inK .u8 b) : Does Try.prog 3 [pfV p, .c (.int .u8 a), .c (.int .u8 b)] (.c (.bool true)) := by
  simp only [inK] at ha hb
  obtain ⟨t, rfl⟩ : ∃ t : Nat, a = t := ⟨a.toNat, by omega⟩
  obtain ⟨u, rfl⟩ : ∃ u : Nat, b = u := ⟨b.toNat, by omega⟩
  exact lawSP p hp t u (by omega) (by omega)
end Go.Proofs.Ytbheoblmfjjaaaa
end
