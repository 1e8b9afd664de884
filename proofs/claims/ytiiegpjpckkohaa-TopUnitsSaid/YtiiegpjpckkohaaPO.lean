import Derived.Test.YtiiegpjpckkohaaPN
section
/- Contracts: tally.moves, run by tally.sums. -/
namespace Go.Proofs.Ytiiegpjpckkohaa
open Go.Eng
set_option maxRecDepth 10000
set_option linter.unusedSimpArgs false
set_option linter.unusedVariables false
def tlO (n : Nat) (s : Tl) : List Ob := [.cells 41 [.vec 2 0], ratsN n s.1, .cells 41 [.c (.slice none 0 0)], .cells 38 [.c (.int .i64 s.2.1)]]
/-- An act that moves something. -/
theorem act_unit {k : K} {a : Act} (h : actB k a = true) (hu : a.unit ≠ -1) : (0 ≤ a.role ∧ a.role < k.holders.length) ∧ (a.to = -1 ∨ 0 ≤ a.to ∧ a.to < k.holders.length) ∧ (0 ≤ a.unit ∧ a.unit < k.units.length) ∧ posB a.lot = true := by
  unfold actB at h
  split at h
  · simp only [Bool.and_eq_true, beq_iff_eq] at h
    exact absurd h.1.2 hu
  · rename_i h1
    have h1 : 0 ≤ a.role ∧ a.role < k.holders.length := by simpa [movB] using h1
    split at h
    · split at h
      · cases h
      · rename_i h2
        simp only [Bool.and_eq_true, decide_eq_true_eq] at h
        refine ⟨h1, ?_, h.1, h.2⟩
        by_cases h3 : a.to = -1
        · exact .inl h3
        · right
          have : ¬ movB k a.to = false := fun h4 => h2 (.inr ⟨h3, h4⟩)
          simpa [movB] using this
    · split at h
      · simp only [Bool.and_eq_true, beq_iff_eq] at h
        exact absurd h.1.2 hu
      · cases h
theorem moves1_ok (k : K) (hk : kW k) (l : List Int) (hc : checkR k l = 0) (party : Int) (fid : Nat) (L b : Nat) (mk : LoopState → Option Code → Array Value → Obj) (ch : Mv → Int)
    (hY : ∀ i, i < l.length → ∀ m, mvAt k l i = some m → ∀ s : Tl, (∀ u, qW (s.1 u)) → s.2.1 = 0 → DoesR Try.prog L [mvV m] (.lrec (mk .ready none) b (tlCs party fid 1) :: tlO k.units.length s) (.c (.bool (decide ((stepS ch party s.1 m).2 = 0))))
      (.lrec (tlRec mk (stepS ch party s.1 m).2) b (tlCs party fid 1) :: tlO k.units.length ((stepS ch party s.1 m).1, (stepS ch party s.1 m).2, s.2.2))) :
    DoesM Try.prog 98 [.fn (.yield L) [] [], .rptr (kC k), .rptr [intsV l]] (.lrec (mk .ready none) b (tlCs party fid 1) :: tlO k.units.length (tlT ch party (mvAt k l) 0)) (.tup [])
      (.lrec (tlRec mk (tlT ch party (mvAt k l) l.length).2.1) b (tlCs party fid 1) :: tlO k.units.length (tlT ch party (mvAt k l) l.length)) := by
  refine DoesM.mk (fun _ => false) 100 TT_ok Try.func98 rfl (by kernel_rfl) Try.ntmps98 rfl rfl rfl fun E hT hE hN hR => ?_
  have hm : E.P.follows .mixedOrders = true := by rw [hE]; kernel_rfl
  obtain ⟨h2, h3, h4, -⟩ := checkR_ok hk hc
  have hF := h2.facts
  (repeat (first | refine XK.norm rfl rfl ?_ | refine XK.rgnA hT rfl rfl rfl ?_ | refine XK.rgnB hT hm rfl rfl rfl ?_))
  (repeat (first | refine XK.norm rfl rfl ?_ | refine XK.rgnA hT rfl rfl rfl ?_ | refine XK.rgnB hT hm rfl rfl rfl ?_)); refine XK.region ?_; refine XL.goA hT rfl rfl rfl rfl ?_
  refine XL.callKA hE rfl rfl rfl rfl trivial rfl rfl (course_ok k l) ?_
  refine XL.goA hT rfl rfl rfl rfl ?_; refine XL.fin ?_; (repeat (first | refine XK.norm rfl rfl ?_ | refine XK.rgnA hT rfl rfl rfl ?_ | refine XK.rgnB hT hm rfl rfl rfl ?_))
  refine XK.weak (Weak.trans (Weak.frozenC (k := 103) hN rfl rfl rfl) (Weak.of (L := [(1, .rptr (kC k)), (2, .rptr [intsV l]), (3, .rptr [.fn (.yield L) [] []]), (4, .ptr 168 0), (11, .fn (.func 111) [] [.rptr (kC k), .rptr [intsV l]])])
    (O := [(0, .lrec (mk .ready none) b (tlCs party fid 1)), (1, .cells 41 [.vec 2 0]), (2, ratsN k.units.length (fun _ => (0, 1))), (3, .cells 41 [.c (.slice none 0 0)]), (4, .cells 38 [.c (.int .i64 0)]), (168, .cells 3 [.c (.int .i64 0)])]) (nx := 2000) (nt := 64) (md := fun _ => false) hN rfl rfl rfl (by (repeat' (first | exact rfl | exact AvIs.refl _ | exact trivial | exact fun _ _ => rfl | exact fun _ _ => ⟨rfl, AvIs.refl _⟩ | refine ⟨?_, ?_⟩))) (by (repeat' (first | exact rfl | exact AvIs.refl _ | exact trivial | exact fun _ _ => rfl | exact fun _ _ => ⟨rfl, AvIs.refl _⟩ | refine ⟨?_, ?_⟩))))) ?_
  generalize hsf : tlT ch party (mvAt k l) l.length = sf
  refine XK.rangeFunc 900 [168, 0, 1, 2, 3, 4] (frL 64 [(1, .rptr (kC k)), (2, .rptr [intsV l]), (3, .rptr [.fn (.yield L) [] []]), (4, .ptr 168 0)])
    (ST.of [] [(0, .lrec (tlRec mk sf.2.1) b (tlCs party fid 1)), (1, .cells 41 [.vec 2 0]), (2, ratsN k.units.length sf.1), (3, .cells 41 [.c (.slice none 0 0)]), (4, .cells 38 [.c (.int .i64 sf.2.1)])] 3000 64 (fun _ => false))
    (res := .tup []) (args' := [.rptr (kC k), .rptr [intsV l]]) (s := .done) (pend := some .ret) (O' := o2 k.units.length party fid mk b sf) (O := o2 k.units.length party fid mk b (tlT ch party (mvAt k l) 0)) hR rfl trivial rfl (frL_length _ _) (frL_is (by (repeat' (first | exact rfl | exact AvIs.refl _ | exact trivial | exact fun _ _ => rfl | exact fun _ _ => ⟨rfl, AvIs.refl _⟩ | refine ⟨?_, ?_⟩)))) (fun L' D fn => ?_) rfl (by (repeat' (first | exact rfl | exact AvIs.refl _ | exact trivial | exact fun _ _ => rfl | exact fun _ _ => ⟨rfl, AvIs.refl _⟩ | refine ⟨?_, ?_⟩))) rfl rfl (by (repeat' (first | exact rfl | exact AvIs.refl _ | exact trivial | exact fun _ _ => rfl | exact fun _ _ => ⟨rfl, AvIs.refl _⟩ | refine ⟨?_, ?_⟩))) rfl rfl (by simp) (fun L' D fn cs => (Weak.of hN rfl rfl rfl (by (repeat' (first | exact rfl | exact AvIs.refl _ | exact trivial | exact fun _ _ => rfl | exact fun _ _ => ⟨rfl, AvIs.refl _⟩ | refine ⟨?_, ?_⟩))) (by (repeat' (first | exact rfl | exact AvIs.refl _ | exact trivial | exact fun _ _ => rfl | exact fun _ _ => ⟨rfl, AvIs.refl _⟩ | refine ⟨?_, ?_⟩))))) ?_
  · rw [← hsf, hE]
    refine course1_ok k hk l hc party fid L b mk L' L' (recOf fn _ _ _ D) (tlT ch party (mvAt k l)) rfl (fun i h m hm => tlT_stop h m hm) (fun j hj h0 => ?_) (fun h0 => ?_)
    · have hstp := tlT_steps h0
      have hn := fun h => tlT_none (ch := ch) (party := party) (mv := mvAt k l) (i := j) h h0
      have hs := fun m h => tlT_some (ch := ch) (party := party) (mv := mvAt k l) (i := j) (m := m) h h0
      have hYj := hY j hj
      have hlj := h3 j hj
      have hqW := tlT_W (ch := ch) (party := party) (mv := mvAt k l) j
      generalize tlT ch party (mvAt k l) (j + 1) = s1 at *
      generalize tlT ch party (mvAt k l) j = s0 at *
      obtain ⟨q, e, sp⟩ := s0
      simp only at h0 hstp
      subst h0 hstp
      refine DoesR.mkT TT_ok (fun _ => false) 100 (ST.of [(1, .rptr (kC k)), (2, .rptr [intsV l]), (3, .rptr [.fn (.yield L) [] []]), (4, .ptr 1 0), (5, .vec 7 0)]
        ((0, .lrec (recOf fn _ _ _ D .ready none) L' (mvCs k l L)) :: (o2N k.units.length party fid mk b (q, 0, (j : Int)) ++ [(7, holdO k (followR k l j)), (8, outO k (followR k l j))])) 1000 64 (fun _ => false)) rfl ?_ (Nat.le_refl 8) (fun E hT hE hN hR => ?_) rfl (fun E hT hE hN hR => ?_)
      · intro x hx
        simp only [List.mem_toArray, List.mem_cons, List.not_mem_nil, or_false] at hx
        show x < (frL 64 _).length
        rw [frL_length]
        rcases hx with rfl | rfl <;> decide
      · have hm : E.P.follows .mixedOrders = true := by rw [hE]; kernel_rfl
        (repeat (first | refine XK.norm rfl rfl ?_ | refine XK.rgnA hT rfl rfl rfl ?_ | refine XK.rgnB hT hm rfl rfl rfl ?_))
        exact XK.nil ⟨rfl, (Weak.of hN rfl rfl rfl (by (repeat' (first | exact rfl | exact AvIs.refl _ | exact trivial | exact fun _ _ => rfl | exact fun _ _ => ⟨rfl, AvIs.refl _⟩ | refine ⟨?_, ?_⟩))) (by (repeat' (first | exact rfl | exact AvIs.refl _ | exact trivial | exact fun _ _ => rfl | exact fun _ _ => ⟨rfl, AvIs.refl _⟩ | refine ⟨?_, ?_⟩))))⟩
      · have hm : E.P.follows .mixedOrders = true := by rw [hE]; kernel_rfl
        have fx : l.getD (j : Int).toNat default = l.getD j default := rfl
        (repeat (first | refine XK.norm rfl rfl ?_ | refine XK.rgnA hT rfl rfl rfl ?_ | refine XK.rgnB hT hm rfl rfl rfl ?_)); refine XK.cond rfl (fun h5 => ?_) (fun h5 => ?_) <;> (try simp at h5)
        · exfalso
          have : (j : Int) = l.length := by simpa using h5
          omega
        · have hmv : mvAt k l j = if l.getD j default = -1 ∨ (acAt k (l.getD j default).toNat).unit = -1 then none
            else some ⟨(acAt k (l.getD j default).toNat).unit, (acAt k (l.getD j default).toNat).lot, (followR k l j).hold (acAt k (l.getD j default).toNat).role.toNat,
              if (acAt k (l.getD j default).toNat).to ≠ -1 then (followR k l j).hold (acAt k (l.getD j default).toNat).to.toNat else -1⟩ := rfl
          generalize mvAt k l j = mo at *
          have hah : ∀ z : Int, 0 ≤ z → z < k.acts.length → actB k (acAt k z.toNat) = true := fun z h1 h2 => hF.act z.toNat (by omega)
          (repeat (first | refine XK.norm rfl rfl ?_ | refine XK.rgnA hT rfl rfl rfl ?_ | refine XK.rgnB hT hm rfl rfl rfl ?_))
          rw [fx]
          generalize l.getD j default = z at *
          have fa : k.acts.getD z.toNat default = acAt k z.toNat := rfl
          (repeat (first | refine XK.norm rfl rfl ?_ | refine XK.rgnA hT rfl rfl rfl ?_ | refine XK.rgnB hT hm rfl rfl rfl ?_)); refine XK.cond rfl (fun h6 => ?_) (fun h6 => ?_)
          · have h6 : z = -1 ∨ (acAt k z.toNat).unit = -1 := by simpa [acAt] using h6
            rw [if_pos h6] at hmv
            obtain rfl := hn hmv
            (repeat (first | refine XK.norm rfl rfl ?_ | refine XK.rgnA hT rfl rfl rfl ?_ | refine XK.rgnB hT hm rfl rfl rfl ?_))
            (first | refine XK.outY [0, 1, 2, 3, 4, 5, 6, 7, 8] hN rfl rfl rfl ?_ ?_ ?_ | refine XK.outYN [0, 1, 2, 3, 4, 5, 6, 7, 8] hN rfl rfl rfl ?_ ?_ ?_)
            · (repeat' (first | exact rfl | exact AvIs.refl _ | exact trivial | exact fun _ _ => rfl | exact fun _ _ => ⟨rfl, AvIs.refl _⟩ | refine ⟨?_, ?_⟩))
            · rfl
            · rfl
          · have h6 : ¬ (z = -1 ∨ (acAt k z.toNat).unit = -1) := by simpa [acAt] using h6
            rw [if_neg h6] at hmv
            have hz := hlj.resolve_left fun h => h6 (.inl h)
            have hau := act_unit (hah z hz.1 hz.2) (fun h => h6 (.inr h))
            obtain rfl := hs _ hmv
            have hYj := hYj _ hmv (q, 0, (j : Int)) hqW rfl
            (repeat (first | refine XK.norm rfl rfl ?_ | refine XK.rgnA hT rfl rfl rfl ?_ | refine XK.rgnB hT hm rfl rfl rfl ?_))
            rw [fa]
            generalize acAt k z.toNat = ac at *
            (repeat (first | refine XK.norm rfl rfl ?_ | refine XK.rgnA hT rfl rfl rfl ?_ | refine XK.rgnB hT hm rfl rfl rfl ?_))
            (repeat (first | refine XK.norm rfl rfl ?_ | refine XK.rgnA hT rfl rfl rfl ?_ | refine XK.rgnB hT hm rfl rfl rfl ?_)); refine XK.cond rfl (fun h7 => ?_) (fun h7 => ?_)
            · have h7 : ac.to ≠ -1 := by simpa using h7
              rw [if_pos h7] at hYj ⊢
              have hto := hau.2.1.resolve_left h7
              (repeat (first | refine XK.norm rfl rfl ?_ | refine XK.rgnA hT rfl rfl rfl ?_ | refine XK.rgnB hT hm rfl rfl rfl ?_)); refine XK.region ?_; refine XL.goA hT rfl rfl rfl rfl ?_
              ((refine XL.yieldM [2, 3, 4, 5, 6] hE rfl rfl rfl rfl trivial (hYj) rfl ?_ rfl ?_ rfl rfl rfl ?_); (focus (repeat' (first | exact rfl | exact AvIs.refl _ | exact trivial | (intro i hi; rfl) | exact fun _ _ => ⟨rfl, AvIs.refl _⟩ | (intro i hi; rcases i with _ | _ | _ | _ | _ | _ | _ | i <;> first | rfl | exact absurd hi (by simp; done) | (simp at hi; omega)) | refine ⟨?_, ?_⟩))); (focus (repeat' (first | exact rfl | exact AvIs.refl _ | exact trivial | (intro i hi; rfl) | exact fun _ _ => ⟨rfl, AvIs.refl _⟩ | (intro i hi; rcases i with _ | _ | _ | _ | _ | _ | _ | i <;> first | rfl | exact absurd hi (by simp; done) | (simp at hi; omega)) | refine ⟨?_, ?_⟩))))
              refine XL.goA hT rfl rfl rfl rfl ?_; refine XL.fin ?_; (repeat (first | refine XK.norm rfl rfl ?_ | refine XK.rgnA hT rfl rfl rfl ?_ | refine XK.rgnB hT hm rfl rfl rfl ?_))
              generalize stepS ch party q ⟨ac.unit, ac.lot, (followR k l j).hold ac.role.toNat, (followR k l j).hold ac.to.toNat⟩ = sr at *
              (repeat (first | refine XK.norm rfl rfl ?_ | refine XK.rgnA hT rfl rfl rfl ?_ | refine XK.rgnB hT hm rfl rfl rfl ?_)); refine XK.cond rfl (fun h8 => ?_) (fun h8 => ?_)
              · have h8 : sr.2 ≠ 0 := by simpa using h8
                (repeat (first | refine XK.norm rfl rfl ?_ | refine XK.rgnA hT rfl rfl rfl ?_ | refine XK.rgnB hT hm rfl rfl rfl ?_))
                (first | refine XK.outY [0, 1, 2, 3, 4, 5, 6, 7, 8] hN rfl rfl rfl ?_ ?_ ?_ | refine XK.outYN [0, 1, 2, 3, 4, 5, 6, 7, 8] hN rfl rfl rfl ?_ ?_ ?_)
                · (repeat' (first | exact rfl | exact AvIs.refl _ | exact trivial | exact fun _ _ => rfl | exact fun _ _ => ⟨rfl, AvIs.refl _⟩ | refine ⟨?_, ?_⟩))
                · simp [h8]
                · show _ = if sr.2 = 0 then _ else _
                  rw [if_neg h8]
              · have h8 : sr.2 = 0 := by simpa using h8
                (repeat (first | refine XK.norm rfl rfl ?_ | refine XK.rgnA hT rfl rfl rfl ?_ | refine XK.rgnB hT hm rfl rfl rfl ?_))
                (first | refine XK.outY [0, 1, 2, 3, 4, 5, 6, 7, 8] hN rfl rfl rfl ?_ ?_ ?_ | refine XK.outYN [0, 1, 2, 3, 4, 5, 6, 7, 8] hN rfl rfl rfl ?_ ?_ ?_)
                · (repeat' (first | exact rfl | exact AvIs.refl _ | exact trivial | exact fun _ _ => rfl | exact fun _ _ => ⟨rfl, AvIs.refl _⟩ | refine ⟨?_, ?_⟩))
                · simp [h8]
                · show _ = if sr.2 = 0 then _ else _
                  rw [if_pos h8]
            · have h7 : ¬ ac.to ≠ -1 := by simpa using h7
              rw [if_neg h7] at hYj ⊢
              (repeat (first | refine XK.norm rfl rfl ?_ | refine XK.rgnA hT rfl rfl rfl ?_ | refine XK.rgnB hT hm rfl rfl rfl ?_)); refine XK.region ?_; refine XL.goA hT rfl rfl rfl rfl ?_
              ((refine XL.yieldM [2, 3, 4, 5, 6] hE rfl rfl rfl rfl trivial (hYj) rfl ?_ rfl ?_ rfl rfl rfl ?_); (focus (repeat' (first | exact rfl | exact AvIs.refl _ | exact trivial | (intro i hi; rfl) | exact fun _ _ => ⟨rfl, AvIs.refl _⟩ | (intro i hi; rcases i with _ | _ | _ | _ | _ | _ | _ | i <;> first | rfl | exact absurd hi (by simp; done) | (simp at hi; omega)) | refine ⟨?_, ?_⟩))); (focus (repeat' (first | exact rfl | exact AvIs.refl _ | exact trivial | (intro i hi; rfl) | exact fun _ _ => ⟨rfl, AvIs.refl _⟩ | (intro i hi; rcases i with _ | _ | _ | _ | _ | _ | _ | i <;> first | rfl | exact absurd hi (by simp; done) | (simp at hi; omega)) | refine ⟨?_, ?_⟩))))
              refine XL.goA hT rfl rfl rfl rfl ?_; refine XL.fin ?_; (repeat (first | refine XK.norm rfl rfl ?_ | refine XK.rgnA hT rfl rfl rfl ?_ | refine XK.rgnB hT hm rfl rfl rfl ?_))
              generalize stepS ch party q ⟨ac.unit, ac.lot, (followR k l j).hold ac.role.toNat, -1⟩ = sr at *
              (repeat (first | refine XK.norm rfl rfl ?_ | refine XK.rgnA hT rfl rfl rfl ?_ | refine XK.rgnB hT hm rfl rfl rfl ?_)); refine XK.cond rfl (fun h8 => ?_) (fun h8 => ?_)
              · have h8 : sr.2 ≠ 0 := by simpa using h8
                (repeat (first | refine XK.norm rfl rfl ?_ | refine XK.rgnA hT rfl rfl rfl ?_ | refine XK.rgnB hT hm rfl rfl rfl ?_))
                (first | refine XK.outY [0, 1, 2, 3, 4, 5, 6, 7, 8] hN rfl rfl rfl ?_ ?_ ?_ | refine XK.outYN [0, 1, 2, 3, 4, 5, 6, 7, 8] hN rfl rfl rfl ?_ ?_ ?_)
                · (repeat' (first | exact rfl | exact AvIs.refl _ | exact trivial | exact fun _ _ => rfl | exact fun _ _ => ⟨rfl, AvIs.refl _⟩ | refine ⟨?_, ?_⟩))
                · simp [h8]
                · show _ = if sr.2 = 0 then _ else _
                  rw [if_neg h8]
              · have h8 : sr.2 = 0 := by simpa using h8
                (repeat (first | refine XK.norm rfl rfl ?_ | refine XK.rgnA hT rfl rfl rfl ?_ | refine XK.rgnB hT hm rfl rfl rfl ?_))
                (first | refine XK.outY [0, 1, 2, 3, 4, 5, 6, 7, 8] hN rfl rfl rfl ?_ ?_ ?_ | refine XK.outYN [0, 1, 2, 3, 4, 5, 6, 7, 8] hN rfl rfl rfl ?_ ?_ ?_)
                · (repeat' (first | exact rfl | exact AvIs.refl _ | exact trivial | exact fun _ _ => rfl | exact fun _ _ => ⟨rfl, AvIs.refl _⟩ | refine ⟨?_, ?_⟩))
                · simp [h8]
                · show _ = if sr.2 = 0 then _ else _
                  rw [if_pos h8]
    · have hstp := tlT_steps h0
      rw [hsf] at h0 hstp ⊢
      obtain ⟨q, e, sp⟩ := sf
      simp only at h0 hstp
      subst h0 hstp
      clear hsf
      refine DoesR.mkT TT_ok (fun _ => false) 100 (ST.of [(1, .rptr (kC k)), (2, .rptr [intsV l]), (3, .rptr [.fn (.yield L) [] []]), (4, .ptr 1 0), (5, .vec 7 0)]
        ((0, .lrec (recOf fn _ _ _ D .ready none) L' (mvCs k l L)) :: (o2N k.units.length party fid mk b (q, 0, (l.length : Int)) ++ [(7, holdO k (followR k l l.length)), (8, outO k (followR k l l.length))])) 1000 64 (fun _ => false)) rfl ?_ (Nat.le_refl 8) (fun E hT hE hN hR => ?_) rfl (fun E hT hE hN hR => ?_)
      · intro x hx
        simp only [List.mem_toArray, List.mem_cons, List.not_mem_nil, or_false] at hx
        show x < (frL 64 _).length
        rw [frL_length]
        rcases hx with rfl | rfl <;> decide
      · have hm : E.P.follows .mixedOrders = true := by rw [hE]; kernel_rfl
        (repeat (first | refine XK.norm rfl rfl ?_ | refine XK.rgnA hT rfl rfl rfl ?_ | refine XK.rgnB hT hm rfl rfl rfl ?_))
        exact XK.nil ⟨rfl, (Weak.of hN rfl rfl rfl (by (repeat' (first | exact rfl | exact AvIs.refl _ | exact trivial | exact fun _ _ => rfl | exact fun _ _ => ⟨rfl, AvIs.refl _⟩ | refine ⟨?_, ?_⟩))) (by (repeat' (first | exact rfl | exact AvIs.refl _ | exact trivial | exact fun _ _ => rfl | exact fun _ _ => ⟨rfl, AvIs.refl _⟩ | refine ⟨?_, ?_⟩))))⟩
      · have hm : E.P.follows .mixedOrders = true := by rw [hE]; kernel_rfl
        (repeat (first | refine XK.norm rfl rfl ?_ | refine XK.rgnA hT rfl rfl rfl ?_ | refine XK.rgnB hT hm rfl rfl rfl ?_)); refine XK.cond rfl (fun h5 => ?_) (fun h5 => ?_) <;> (try simp at h5)
        (repeat (first | refine XK.norm rfl rfl ?_ | refine XK.rgnA hT rfl rfl rfl ?_ | refine XK.rgnB hT hm rfl rfl rfl ?_))
        (first | refine XK.outY [0, 1, 2, 3, 4, 5, 6, 7, 8] hN rfl rfl rfl ?_ ?_ ?_ | refine XK.outYN [0, 1, 2, 3, 4, 5, 6, 7, 8] hN rfl rfl rfl ?_ ?_ ?_)
        · (repeat' (first | exact rfl | exact AvIs.refl _ | exact trivial | exact fun _ _ => rfl | exact fun _ _ => ⟨rfl, AvIs.refl _⟩ | refine ⟨?_, ?_⟩))
        · rfl
        · rfl
  · (repeat (first | refine XK.norm rfl rfl ?_ | refine XK.rgnA hT rfl rfl rfl ?_ | refine XK.rgnB hT hm rfl rfl rfl ?_))
    (first | refine XK.outR [0, 1, 2, 3, 4] hN rfl rfl rfl ?_ rfl rfl ?_ | refine XK.outRN [0, 1, 2, 3, 4] hN rfl rfl rfl ?_ rfl rfl ?_)
    · (repeat' (first | exact rfl | exact AvIs.refl _ | exact trivial | exact fun _ _ => rfl | exact fun _ _ => ⟨rfl, AvIs.refl _⟩ | refine ⟨?_, ?_⟩))
    · (repeat' (first | exact rfl | exact AvIs.refl _ | exact trivial | exact fun _ _ => rfl | exact fun _ _ => ⟨rfl, AvIs.refl _⟩ | refine ⟨?_, ?_⟩))
end Go.Proofs.Ytiiegpjpckkohaa
end
section
/- Contracts: tally.sums, Given, Received. -/
namespace Go.Proofs.Ytiiegpjpckkohaa
open Go.Eng
set_option maxRecDepth 10000
set_option linter.unusedSimpArgs false
set_option linter.unusedVariables false
theorem kOk.units {k : K} (h : kOk k) : k.units.length ≤ 20 := by
  obtain ⟨hw, hv⟩ := h
  unfold kValid at hv
  split at hv
  · simp at hv
  · rename_i h1
    simp only [Bool.or_eq_true, decide_eq_true_eq, not_or] at h1
    omega
theorem tlRec_eq (mk : LoopState → Option Code → Array Value → Obj) (e : Int) : tlRec mk e = mk (if e = 0 then .ready else .done) (if e = 0 then none else some .ret) := by
  unfold tlRec; split <;> rfl
theorem moves1_ok' (k : K) (hk : kW k) (l : List Int) (hc : checkR k l = 0) (party : Int) (fid : Nat) (L b : Nat) (mk : LoopState → Option Code → Array Value → Obj) (ch : Mv → Int)
    (hY : ∀ i, i < l.length → ∀ m, mvAt k l i = some m → ∀ s : Tl, (∀ u, qW (s.1 u)) → s.2.1 = 0 → DoesR Try.prog L [mvV m] (.lrec (mk .ready none) b (tlCs party fid 1) :: tlO k.units.length s) (.c (.bool (decide ((stepS ch party s.1 m).2 = 0))))
      (.lrec (tlRec mk (stepS ch party s.1 m).2) b (tlCs party fid 1) :: tlO k.units.length ((stepS ch party s.1 m).1, (stepS ch party s.1 m).2, s.2.2))) :
    DoesM Try.prog 98 [.fn (.yield L) [] [], .rptr (kC k), .rptr [intsV l]] (.lrec (mk .ready none) b (tlCs party fid 1) :: tlO k.units.length (tlT ch party (mvAt k l) 0)) (.tup [])
      (.lrec (mk (if (tlT ch party (mvAt k l) l.length).2.1 = 0 then .ready else .done) (if (tlT ch party (mvAt k l) l.length).2.1 = 0 then none else some .ret)) b (tlCs party fid 1) :: tlO k.units.length (tlT ch party (mvAt k l) l.length)) := by
  rw [← tlRec_eq mk]
  exact moves1_ok k hk l hc party fid L b mk ch hY
noncomputable def sumsR (k : K) (l : List Int) (party : Int) (ch : Mv → Int) : (Nat → Q) × Int :=
  if checkR k l ≠ 0 then (fun _ => (0, 1), checkR k l)
  else if party < 0 ∨ k.parties ≤ party then (fun _ => (0, 1), 1)
  else ((tlT ch party (mvAt k l) l.length).1, (tlT ch party (mvAt k l) l.length).2.1)
theorem mv_facts {k : K} (hF : KFacts k) {l : List Int} (hl : stepsOk k l) {i : Nat} (hi : i < l.length) {m : Mv} (h : mvAt k l i = some m) :
    ∃ ac : Act, l.getD i default ≠ -1 ∧ ac = acAt k (l.getD i default).toNat ∧ (0 ≤ m.unit ∧ m.unit < k.units.length) ∧ posB m.val = true ∧ m.unit = ac.unit ∧ m.val = ac.lot ∧ (0 ≤ ac.role ∧ ac.role < k.holders.length) ∧ (ac.to = -1 ∨ 0 ≤ ac.to ∧ ac.to < k.holders.length) ∧
      m.giver = (followR k l i).hold ac.role.toNat ∧ m.recv = (if ac.to ≠ -1 then (followR k l i).hold ac.to.toNat else -1) := by
  unfold mvAt at h
  split at h
  · cases h
  · rename_i h1
    injection h with h
    subst h
    have hz := (hl i hi).resolve_left fun h => h1 (.inl h)
    have ha := act_unit (hF.act (l.getD i default).toNat (by omega)) (fun h => h1 (.inr h))
    exact ⟨_, fun h => h1 (.inl h), rfl, ha.2.2.1, ha.2.2.2, rfl, rfl, ha.1, ha.2.1, rfl, rfl⟩
theorem posB_W {q : Q} (h : posB q = true) : qW q := by
  simp only [posB, Bool.and_eq_true] at h
  exact qOk_W h.2
theorem sumsT_ok (k : K) (hk : kW k) (l : List Int) (party : Int) (fid : Nat) (ch : Mv → Int) (hch : ∀ m, Does Try.prog fid [mvV m] (.c (.int .i64 (ch m)))) :
    Does Try.prog 64 [kV k, intsV l, .c (.int .i64 party), .fn (.func fid) [] []] (sumsV k.units.length (sumsR k l party ch)) := by
  refine Does.mk (fun _ => false) TT_ok Try.func64 rfl (by kernel_rfl) Try.ntmps64 rfl rfl fun E hT hE hN hR => ?_
  have hm : E.P.follows .mixedOrders = true := by rw [hE]; kernel_rfl
  (repeat (first | refine XK.norm rfl rfl ?_ | refine XK.rgnA hT rfl rfl rfl ?_ | refine XK.rgnB hT hm rfl rfl rfl ?_)); refine XK.region ?_; refine XL.goA hT rfl rfl rfl rfl ?_
  refine XL.callLA hE rfl rfl rfl rfl trivial rfl (check17_ok k hk l) rfl ?_
  refine XL.goA hT rfl rfl rfl rfl ?_; refine XL.fin ?_; (repeat (first | refine XK.norm rfl rfl ?_ | refine XK.rgnA hT rfl rfl rfl ?_ | refine XK.rgnB hT hm rfl rfl rfl ?_))
  (repeat (first | refine XK.norm rfl rfl ?_ | refine XK.rgnA hT rfl rfl rfl ?_ | refine XK.rgnB hT hm rfl rfl rfl ?_)); refine XK.cond rfl (fun h1 => ?_) (fun h1 => ?_)
  · have h1 : checkR k l ≠ 0 := by simpa using h1
    (repeat (first | refine XK.norm rfl rfl ?_ | refine XK.rgnA hT rfl rfl rfl ?_ | refine XK.rgnB hT hm rfl rfl rfl ?_))
    (first | refine XK.outL rfl rfl rfl ?_ | refine XK.outLN rfl rfl rfl ?_)
    rw [sumsR, if_pos h1]
    exact sumsV_err rfl h1
  · have h1 : checkR k l = 0 := by simpa using h1
    obtain ⟨h2, h3, h4, -⟩ := checkR_ok hk h1
    have hF := h2.facts
    have hun := h2.units
    rw [sumsR, if_neg (by simpa using h1)]
    (repeat (first | refine XK.norm rfl rfl ?_ | refine XK.rgnA hT rfl rfl rfl ?_ | refine XK.rgnB hT hm rfl rfl rfl ?_)); refine XK.cond rfl (fun h5 => ?_) (fun h5 => ?_)
    · have h5 : party < 0 ∨ k.parties ≤ party := by simpa using h5
      (repeat (first | refine XK.norm rfl rfl ?_ | refine XK.rgnA hT rfl rfl rfl ?_ | refine XK.rgnB hT hm rfl rfl rfl ?_))
      (first | refine XK.outL rfl rfl rfl ?_ | refine XK.outLN rfl rfl rfl ?_)
      rw [if_pos h5]
      exact sumsV_err rfl (by simp)
    · have h5 : ¬ (party < 0 ∨ k.parties ≤ party) := by simpa using h5
      rw [if_neg h5]
      (repeat (first | refine XK.norm rfl rfl ?_ | refine XK.rgnA hT rfl rfl rfl ?_ | refine XK.rgnB hT hm rfl rfl rfl ?_))
      refine XK.loop (ι := Nat) (fun i => ST.of [(1, intsV l), (4, .rptr (kC k)), (6, .rptr [.c (.int .i64 party)]), (7, .rptr [.fn (.func fid) [] []]), (8, .ptr 8 0), (9, .ptr 9 0), (11, .ptr 311 0), (35, .c (.int .i64 k.units.length)), (36, .c (.int .i64 i))]
        [(8, .cells 41 [.c (.slice none 0 0)]), (9, .cells 38 [.c (.int .i64 0)]), (311, .cells 41 [.vec 333 0]), (333, ratsN k.units.length (fun j => if j < i then (0, 1) else (0, 0)))] 2000 75 (fun _ => false))
        (fun i => i ≤ k.units.length) (fun i => k.units.length - i) 0 (Nat.zero_le _)
        (Weak.trans (Weak.frozenC (k := 4) hN rfl rfl rfl) (Weak.trans (Weak.frozenC (k := 6) hN rfl rfl rfl) (Weak.trans (Weak.frozenC (k := 7) hN rfl rfl rfl) (Weak.of hN rfl rfl rfl (by (repeat' (first | exact rfl | exact AvIs.refl _ | exact trivial | exact fun _ _ => rfl | exact fun _ _ => ⟨rfl, AvIs.refl _⟩ | refine ⟨?_, ?_⟩))) (by (repeat' (first | exact rfl | exact AvIs.refl _ | exact trivial | exact fun _ _ => rfl | exact fun _ _ => ⟨rfl, AvIs.refl _⟩ | refine ⟨?_, ?_⟩))))))) fun i hi => ?_
      (repeat (first | refine XK.norm rfl rfl ?_ | refine XK.rgnA hT rfl rfl rfl ?_ | refine XK.rgnB hT hm rfl rfl rfl ?_)); refine XK.cond rfl (fun hlt => ?_) (fun hlt => ?_) <;> (try simp at hlt)
      · (repeat (first | refine XK.norm rfl rfl ?_ | refine XK.rgnA hT rfl rfl rfl ?_ | refine XK.rgnB hT hm rfl rfl rfl ?_))
        refine XK.inv ⟨i + 1, hlt, ?_, by omega⟩
        refine Weak.of hN rfl rfl rfl (by (repeat' (first | exact rfl | exact AvIs.refl _ | exact trivial | exact fun _ _ => rfl | exact fun _ _ => ⟨rfl, AvIs.refl _⟩ | refine ⟨?_, ?_⟩))) ⟨by (repeat' (first | exact rfl | exact AvIs.refl _ | exact trivial | exact fun _ _ => rfl | exact fun _ _ => ⟨rfl, AvIs.refl _⟩ | refine ⟨?_, ?_⟩)), by (repeat' (first | exact rfl | exact AvIs.refl _ | exact trivial | exact fun _ _ => rfl | exact fun _ _ => ⟨rfl, AvIs.refl _⟩ | refine ⟨?_, ?_⟩)), by (repeat' (first | exact rfl | exact AvIs.refl _ | exact trivial | exact fun _ _ => rfl | exact fun _ _ => ⟨rfl, AvIs.refl _⟩ | refine ⟨?_, ?_⟩)), ⟨rfl, rfl, rfl⟩, rfl, ?_⟩
        intro j hj
        by_cases hji : j = i
        · subst hji; simp [setRowF, setL]
        · simp [setRowF, beq_false hji, lt_succ_ne hji]
      · have hie : i = k.units.length := by omega
        subst hie
        (repeat (first | refine XK.norm rfl rfl ?_ | refine XK.rgnA hT rfl rfl rfl ?_ | refine XK.rgnB hT hm rfl rfl rfl ?_)); refine XK.region ?_; refine XL.goA hT rfl rfl rfl rfl ?_
        refine XL.callKA hE rfl rfl rfl rfl trivial rfl rfl (moves_ok k l) ?_
        refine XL.goA hT rfl rfl rfl rfl ?_; refine XL.fin ?_; (repeat (first | refine XK.norm rfl rfl ?_ | refine XK.rgnA hT rfl rfl rfl ?_ | refine XK.rgnB hT hm rfl rfl rfl ?_))
        refine XK.weak (Weak.of (L := [(6, .rptr [.c (.int .i64 party)]), (7, .rptr [.fn (.func fid) [] []]), (8, .ptr 8 0), (9, .ptr 9 0), (11, .ptr 311 0), (46, .fn (.func 98) [] [.rptr (kC k), .rptr [intsV l]])])
          (O := [(8, .cells 41 [.c (.slice none 0 0)]), (9, .cells 38 [.c (.int .i64 0)]), (311, .cells 41 [.vec 333 0]), (333, ratsN k.units.length (fun _ => (0, 1)))]) (nx := 3000) (nt := 75) (md := fun _ => false) hN rfl rfl rfl (by (repeat' (first | exact rfl | exact AvIs.refl _ | exact trivial | exact fun _ _ => rfl | exact fun _ _ => ⟨rfl, AvIs.refl _⟩ | refine ⟨?_, ?_⟩))) ⟨by (repeat' (first | exact rfl | exact AvIs.refl _ | exact trivial | exact fun _ _ => rfl | exact fun _ _ => ⟨rfl, AvIs.refl _⟩ | refine ⟨?_, ?_⟩)), by (repeat' (first | exact rfl | exact AvIs.refl _ | exact trivial | exact fun _ _ => rfl | exact fun _ _ => ⟨rfl, AvIs.refl _⟩ | refine ⟨?_, ?_⟩)), by (repeat' (first | exact rfl | exact AvIs.refl _ | exact trivial | exact fun _ _ => rfl | exact fun _ _ => ⟨rfl, AvIs.refl _⟩ | refine ⟨?_, ?_⟩)), ⟨rfl, rfl, rfl⟩, rfl, fun j hj => by simp [hj]⟩) ?_
        generalize hsf : tlT ch party (mvAt k l) l.length = sf
        refine XK.rangeFunc 900 [311, 333, 8, 9] (frL 75 [(6, .rptr [.c (.int .i64 party)]), (7, .rptr [.fn (.func fid) [] []]), (8, .ptr 8 0), (9, .ptr 9 0), (11, .ptr 311 0)])
          (ST.of [(8, .ptr 8 0), (9, .ptr 9 0), (11, .ptr 311 0)] [(311, .cells 41 [.vec 333 0]), (333, ratsN k.units.length sf.1), (8, .cells 41 [.c (.slice none 0 0)]), (9, .cells 38 [.c (.int .i64 sf.2.1)])] 4000 75 (fun _ => false))
          (res := .tup []) (args' := [.rptr (kC k), .rptr [intsV l]]) (s := if sf.2.1 = 0 then .ready else .done) (pend := if sf.2.1 = 0 then none else some .ret) (O' := tlO k.units.length sf) (O := tlO k.units.length (tlT ch party (mvAt k l) 0)) hR rfl trivial rfl (frL_length _ _) (frL_is (by (repeat' (first | exact rfl | exact AvIs.refl _ | exact trivial | exact fun _ _ => rfl | exact fun _ _ => ⟨rfl, AvIs.refl _⟩ | refine ⟨?_, ?_⟩)))) (fun L D fn => ?_) rfl (by (repeat' (first | exact rfl | exact AvIs.refl _ | exact trivial | exact fun _ _ => rfl | exact fun _ _ => ⟨rfl, AvIs.refl _⟩ | refine ⟨?_, ?_⟩))) rfl rfl (by (repeat' (first | exact rfl | exact AvIs.refl _ | exact trivial | exact fun _ _ => rfl | exact fun _ _ => ⟨rfl, AvIs.refl _⟩ | refine ⟨?_, ?_⟩))) rfl rfl (by split <;> simp) (fun L D fn cs => (Weak.of hN rfl rfl rfl (by (repeat' (first | exact rfl | exact AvIs.refl _ | exact trivial | exact fun _ _ => rfl | exact fun _ _ => ⟨rfl, AvIs.refl _⟩ | refine ⟨?_, ?_⟩))) (by (repeat' (first | exact rfl | exact AvIs.refl _ | exact trivial | exact fun _ _ => rfl | exact fun _ _ => ⟨rfl, AvIs.refl _⟩ | refine ⟨?_, ?_⟩))))) ?_
        · rw [← hsf, hE]
          refine moves1_ok' k hk l h1 party fid L L (recOf fn _ _ _ D) ch (fun i hi m hm s hsw hs0 => ?_)
          obtain ⟨ac, _, _, hu, hp, -⟩ := mv_facts hF h3 hi hm
          have hpw := posB_W hp
          clear hsf
          obtain ⟨q, e, sp⟩ := s
          simp only at hs0 hsw
          subst hs0
          have hchm := hch m
          refine DoesR.mkT TT_ok (fun _ => false) 100 (ST.of [(6, .rptr [.c (.int .i64 party)]), (7, .rptr [.fn (.func fid) [] []]), (8, .ptr 3 0), (9, .ptr 4 0), (11, .ptr 1 0), (13, .ptr 113 0)]
            [(0, .lrec (recOf fn _ _ _ D .ready none) L (tlCs party fid 1)), (1, .cells 41 [.vec 2 0]), (2, ratsN k.units.length q), (3, .cells 41 [.c (.slice none 0 0)]), (4, .cells 38 [.c (.int .i64 0)]), (113, .cells 126 [.c (.int .i64 m.unit), .c (.int .i64 m.val.1), .c (.int .i64 m.val.2), .c (.int .i64 m.giver), .c (.int .i64 m.recv)])] 1000 75 (fun _ => false)) rfl ?_ (Nat.le_refl 4) (fun E hT hE hN hR => ?_) rfl (fun E hT hE hN hR => ?_)
          · intro x hx
            simp only [List.mem_toArray, List.mem_singleton] at hx
            subst hx
            show 47 < (frL 75 _).length
            rw [frL_length]
            decide
          · have hm : E.P.follows .mixedOrders = true := by rw [hE]; kernel_rfl
            (repeat (first | refine XK.norm rfl rfl ?_ | refine XK.rgnA hT rfl rfl rfl ?_ | refine XK.rgnB hT hm rfl rfl rfl ?_))
            exact XK.nil ⟨rfl, (Weak.of hN rfl rfl rfl (by (repeat' (first | exact rfl | exact AvIs.refl _ | exact trivial | exact fun _ _ => rfl | exact fun _ _ => ⟨rfl, AvIs.refl _⟩ | refine ⟨?_, ?_⟩))) (by (repeat' (first | exact rfl | exact AvIs.refl _ | exact trivial | exact fun _ _ => rfl | exact fun _ _ => ⟨rfl, AvIs.refl _⟩ | refine ⟨?_, ?_⟩))))⟩
          · have hm : E.P.follows .mixedOrders = true := by rw [hE]; kernel_rfl
            have hse : stepS ch party q m = if ch m ≠ party then (q, 0) else if (addR (q m.unit.toNat) m.val).2 ≠ 0 then (q, 2) else (setQ q m.unit.toNat (addR (q m.unit.toNat) m.val).1, 0) := rfl
            rw [hse]
            (repeat (first | refine XK.norm rfl rfl ?_ | refine XK.rgnA hT rfl rfl rfl ?_ | refine XK.rgnB hT hm rfl rfl rfl ?_)); refine XK.drawn hm ?_; refine XD.goA hT rfl rfl rfl rfl ?_
            refine XD.callLA hE rfl rfl rfl rfl trivial rfl (hchm) rfl ?_
            refine XD.goA hT rfl rfl rfl rfl ?_; refine XD.fin (by kernel_rfl) ?_; (repeat (first | refine XK.norm rfl rfl ?_ | refine XK.rgnA hT rfl rfl rfl ?_ | refine XK.rgnB hT hm rfl rfl rfl ?_))
            (repeat (first | refine XK.norm rfl rfl ?_ | refine XK.rgnA hT rfl rfl rfl ?_ | refine XK.rgnB hT hm rfl rfl rfl ?_)); refine XK.cond rfl (fun h6 => ?_) (fun h6 => ?_) <;> (try simp at h6)
            · rw [if_pos h6]
              (repeat (first | refine XK.norm rfl rfl ?_ | refine XK.rgnA hT rfl rfl rfl ?_ | refine XK.rgnB hT hm rfl rfl rfl ?_))
              (first | refine XK.outY [0, 1, 2, 3, 4] hN rfl rfl rfl ?_ ?_ ?_ | refine XK.outYN [0, 1, 2, 3, 4] hN rfl rfl rfl ?_ ?_ ?_)
              · (repeat' (first | exact rfl | exact AvIs.refl _ | exact trivial | exact fun _ _ => rfl | exact fun _ _ => ⟨rfl, AvIs.refl _⟩ | refine ⟨?_, ?_⟩))
              · rfl
              · rfl
            · rw [if_neg (by simpa using h6)]
              (repeat (first | refine XK.norm rfl rfl ?_ | refine XK.rgnA hT rfl rfl rfl ?_ | refine XK.rgnB hT hm rfl rfl rfl ?_)); refine XK.drawn hm ?_; refine XD.goA hT rfl rfl rfl rfl ?_
              refine XD.callLA hE rfl rfl rfl rfl trivial rfl (add_ok (q m.unit.toNat) m.val (hsw _) hpw) rfl ?_
              refine XD.goA hT rfl rfl rfl rfl ?_; refine XD.fin (by kernel_rfl) ?_; (repeat (first | refine XK.norm rfl rfl ?_ | refine XK.rgnA hT rfl rfl rfl ?_ | refine XK.rgnB hT hm rfl rfl rfl ?_))
              generalize addR (q m.unit.toNat) m.val = ad at *
              (repeat (first | refine XK.norm rfl rfl ?_ | refine XK.rgnA hT rfl rfl rfl ?_ | refine XK.rgnB hT hm rfl rfl rfl ?_)); refine XK.cond rfl (fun h7 => ?_) (fun h7 => ?_) <;> (try simp at h7)
              · rw [if_pos h7]
                (repeat (first | refine XK.norm rfl rfl ?_ | refine XK.rgnA hT rfl rfl rfl ?_ | refine XK.rgnB hT hm rfl rfl rfl ?_))
                (first | refine XK.outY [0, 1, 2, 3, 4] hN rfl rfl rfl ?_ ?_ ?_ | refine XK.outYN [0, 1, 2, 3, 4] hN rfl rfl rfl ?_ ?_ ?_)
                · (repeat' (first | exact rfl | exact AvIs.refl _ | exact trivial | exact fun _ _ => rfl | exact fun _ _ => ⟨rfl, AvIs.refl _⟩ | refine ⟨?_, ?_⟩))
                · rfl
                · rfl
              · rw [if_neg (by simpa using h7)]
                (repeat (first | refine XK.norm rfl rfl ?_ | refine XK.rgnA hT rfl rfl rfl ?_ | refine XK.rgnB hT hm rfl rfl rfl ?_))
                (first | refine XK.outY [0, 1, 2, 3, 4] hN rfl rfl rfl ?_ ?_ ?_ | refine XK.outYN [0, 1, 2, 3, 4] hN rfl rfl rfl ?_ ?_ ?_)
                · refine ⟨⟨rfl, rfl, rfl⟩, by (repeat' (first | exact rfl | exact AvIs.refl _ | exact trivial | exact fun _ _ => rfl | exact fun _ _ => ⟨rfl, AvIs.refl _⟩ | refine ⟨?_, ?_⟩)), ⟨⟨rfl, rfl, rfl⟩, rfl, ?_⟩, by (repeat' (first | exact rfl | exact AvIs.refl _ | exact trivial | exact fun _ _ => rfl | exact fun _ _ => ⟨rfl, AvIs.refl _⟩ | refine ⟨?_, ?_⟩)), by (repeat' (first | exact rfl | exact AvIs.refl _ | exact trivial | exact fun _ _ => rfl | exact fun _ _ => ⟨rfl, AvIs.refl _⟩ | refine ⟨?_, ?_⟩))⟩
                  intro j hj
                  by_cases hji : j = m.unit.toNat
                  · subst hji; simp [setRowF, setL, setQ]
                  · simp [setRowF, beq_false hji, setQ, hji]
                · rfl
                · rfl
        · by_cases herr : sf.2.1 = 0
          · rw [if_pos herr]
            (repeat (first | refine XK.norm rfl rfl ?_ | refine XK.rgnA hT rfl rfl rfl ?_ | refine XK.rgnB hT hm rfl rfl rfl ?_))
            refine XK.weak (Weak.trans (Weak.frozen (k := 333) hN rfl rfl) (Weak.of (L := [(8, .ptr 8 0), (9, .ptr 9 0)]) (O := [(8, .cells 41 [ratV k.units.length sf.1]), (9, .cells 38 [.c (.int .i64 0)])]) (nx := 5000) (nt := 75) (md := fun _ => false) hN rfl rfl rfl (by (repeat' (first | exact rfl | exact AvIs.refl _ | exact trivial | exact fun _ _ => rfl | exact fun _ _ => ⟨rfl, AvIs.refl _⟩ | refine ⟨?_, ?_⟩))) (by (repeat' (first | exact rfl | exact AvIs.refl _ | exact trivial | exact fun _ _ => rfl | exact fun _ _ => ⟨rfl, AvIs.refl _⟩ | refine ⟨?_, ?_⟩))))) ?_
            (first | refine XK.outL rfl rfl rfl ?_ | refine XK.outLN rfl rfl rfl ?_)
            exact sumsV_ok herr fun _ => rfl
          · rw [if_neg herr]
            show XK E [.code .ret, _, _] _ _
            (repeat (first | refine XK.norm rfl rfl ?_ | refine XK.rgnA hT rfl rfl rfl ?_ | refine XK.rgnB hT hm rfl rfl rfl ?_))
            (first | refine XK.outL rfl rfl rfl ?_ | refine XK.outLN rfl rfl rfl ?_)
            exact sumsV_err rfl herr
end Go.Proofs.Ytiiegpjpckkohaa
end
