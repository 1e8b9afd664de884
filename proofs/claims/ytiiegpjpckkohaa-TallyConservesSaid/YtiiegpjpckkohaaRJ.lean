/- The law TallyConserves: the walk. -/
import Derived.Test.YtiiegpjpckkohaaPU
namespace Go.Proofs.Ytiiegpjpckkohaa
open Go.Eng
set_option maxRecDepth 10000
set_option linter.unusedSimpArgs false
set_option linter.unusedVariables false
theorem lawV (k : K) (hk : kW k) (l : List Int) : Does Try.prog 5 [kV k, intsV l] (.c (.bool true)) := by
  refine Does.mk (fun _ => false) TT_ok Try.func5 rfl (by kernel_rfl) Try.ntmps5 rfl rfl fun E hT hE hN hR => ?_
  have hm : E.P.follows .mixedOrders = true := by rw [hE]; kernel_rfl
  refine XK.fact (Sat.rs_len (j := 1) rfl) fun hlen => ?_
  have hm' := hlen.1
  (repeat (first | refine XK.norm rfl rfl ?_ | refine XK.rgnA hT rfl rfl rfl ?_ | refine XK.rgnB hT hm rfl rfl rfl ?_)); refine XK.region ?_; refine XL.goA hT rfl rfl rfl rfl ?_
  refine XL.callLA hE rfl rfl rfl rfl trivial rfl (head17_ok) rfl ?_
  refine XL.goA hT rfl rfl rfl rfl ?_; refine XL.fin ?_; (repeat (first | refine XK.norm rfl rfl ?_ | refine XK.rgnA hT rfl rfl rfl ?_ | refine XK.rgnB hT hm rfl rfl rfl ?_))
  (repeat (first | refine XK.norm rfl rfl ?_ | refine XK.rgnA hT rfl rfl rfl ?_ | refine XK.rgnB hT hm rfl rfl rfl ?_)); refine XK.region ?_; refine XL.goA hT rfl rfl rfl rfl ?_
  refine XL.callLA hE rfl rfl rfl rfl trivial rfl (smallK_ok k l) rfl ?_
  refine XL.goA hT rfl rfl rfl rfl ?_; refine XL.fin ?_; (repeat (first | refine XK.norm rfl rfl ?_ | refine XK.rgnA hT rfl rfl rfl ?_ | refine XK.rgnB hT hm rfl rfl rfl ?_))
  (repeat (first | refine XK.norm rfl rfl ?_ | refine XK.rgnA hT rfl rfl rfl ?_ | refine XK.rgnB hT hm rfl rfl rfl ?_)); refine XK.cond rfl (fun hs => ?_) (fun hs => ?_)
  · (repeat (first | refine XK.norm rfl rfl ?_ | refine XK.rgnA hT rfl rfl rfl ?_ | refine XK.rgnB hT hm rfl rfl rfl ?_))
    (first | refine XK.out rfl rfl rfl ?_ | refine XK.outN rfl rfl rfl ?_)
    rfl
  · (repeat (first | refine XK.norm rfl rfl ?_ | refine XK.rgnA hT rfl rfl rfl ?_ | refine XK.rgnB hT hm rfl rfl rfl ?_)); refine XK.region ?_; refine XL.goA hT rfl rfl rfl rfl ?_
    refine XL.callKA hE rfl rfl rfl rfl trivial rfl rfl (outcomes_ok k hk l) ?_
    refine XL.goA hT rfl rfl rfl rfl ?_; refine XL.fin ?_; (repeat (first | refine XK.norm rfl rfl ?_ | refine XK.rgnA hT rfl rfl rfl ?_ | refine XK.rgnB hT hm rfl rfl rfl ?_))
    (repeat (first | refine XK.norm rfl rfl ?_ | refine XK.rgnA hT rfl rfl rfl ?_ | refine XK.rgnB hT hm rfl rfl rfl ?_)); refine XK.cond rfl (fun h1 => ?_) (fun h1 => ?_) <;> (try simp at h1)
    · (repeat (first | refine XK.norm rfl rfl ?_ | refine XK.rgnA hT rfl rfl rfl ?_ | refine XK.rgnB hT hm rfl rfl rfl ?_))
      (first | refine XK.out rfl rfl rfl ?_ | refine XK.outN rfl rfl rfl ?_)
      rfl
    · obtain ⟨kk, kf, h4, _⟩ := checkR_ok hk h1
      have hF := kk.facts
      have hun := kk.units
      obtain ⟨P, hP⟩ := Int.eq_ofNat_of_zero_le (show 0 ≤ k.parties by have := hF.parties; omega)
      (repeat (first | refine XK.norm rfl rfl ?_ | refine XK.rgnA hT rfl rfl rfl ?_ | refine XK.rgnB hT hm rfl rfl rfl ?_)); refine XK.region ?_; refine XL.goA hT rfl rfl rfl rfl ?_
      refine XL.callKA hE rfl rfl rfl rfl trivial rfl rfl (zeros_ok k.units.length (by omega)) ?_
      refine XL.goA hT rfl rfl rfl rfl ?_; refine XL.fin ?_; (repeat (first | refine XK.norm rfl rfl ?_ | refine XK.rgnA hT rfl rfl rfl ?_ | refine XK.rgnB hT hm rfl rfl rfl ?_))
      (repeat (first | refine XK.norm rfl rfl ?_ | refine XK.rgnA hT rfl rfl rfl ?_ | refine XK.rgnB hT hm rfl rfl rfl ?_)); refine XK.region ?_; refine XL.goA hT rfl rfl rfl rfl ?_
      refine XL.callMA [700] hE rfl rfl rfl rfl trivial (zerosM_ok k.units.length (by omega)) rfl rfl rfl rfl rfl ?_
      refine XL.goA hT rfl rfl rfl rfl ?_; refine XL.fin ?_; (repeat (first | refine XK.norm rfl rfl ?_ | refine XK.rgnA hT rfl rfl rfl ?_ | refine XK.rgnB hT hm rfl rfl rfl ?_))
      (repeat (first | refine XK.norm rfl rfl ?_ | refine XK.rgnA hT rfl rfl rfl ?_ | refine XK.rgnB hT hm rfl rfl rfl ?_))
      let fG := fun p : Nat => (sumsR k l p Mv.giver).1
      let fR := fun p : Nat => (sumsR k l p Mv.recv).1
      refine XK.loop (ι := Nat) (fun p => ST.of [(1, intsV l), (2, .ptr 2 0), (5, .c (.bool true)), (8, ratV k.units.length (accT fG p)), (9, .vec 700 0), (10, .c (.int .i64 p))] [(2, .cells 27 (kC k)), (700, .vec 29 2 0 k.units.length (fun u => qc (accT fR p u)))] 2000 206 (fun _ => false))
        (fun p => p ≤ P ∧ ∀ q : Nat, q < p → ((sumsR k l q Mv.giver).2 = 0 ∧ (sumsR k l q Mv.recv).2 = 0) ∧ addB k.units.length k.units.length (accT fG q) (fG q) = true ∧ addB k.units.length k.units.length (accT fR q) (fR q) = true) (fun p => P - p) 0 ⟨Nat.zero_le _, fun j hj => absurd hj (Nat.not_lt_zero _)⟩
        (Weak.of hN rfl rfl rfl (by (repeat' (first | exact rfl | exact AvIs.refl _ | exact trivial | exact fun _ _ => rfl | exact fun _ _ => ⟨rfl, AvIs.refl _⟩ | refine ⟨?_, ?_⟩))) (by (repeat' (first | exact rfl | exact AvIs.refl _ | exact trivial | exact fun _ _ => rfl | exact fun _ _ => ⟨rfl, AvIs.refl _⟩ | refine ⟨?_, ?_⟩)))) fun p hp => ?_
      obtain ⟨hp1, hp2⟩ := hp
      (repeat (first | refine XK.norm rfl rfl ?_ | refine XK.rgnA hT rfl rfl rfl ?_ | refine XK.rgnB hT hm rfl rfl rfl ?_))
      rw [hP]
      (repeat (first | refine XK.norm rfl rfl ?_ | refine XK.rgnA hT rfl rfl rfl ?_ | refine XK.rgnB hT hm rfl rfl rfl ?_)); refine XK.cond rfl (fun hlt => ?_) (fun hlt => ?_) <;> (try simp at hlt)
      · have d1 := given_ok k hk l p
        have d2 := received_ok k hk l p
        have eG : accT fG (p + 1) = addQ (accT fG p) (sumsR k l p Mv.giver).1 := rfl
        have eR : accT fR (p + 1) = addQ (accT fR p) (sumsR k l p Mv.recv).1 := rfl
        have hnx : ((sumsR k l p Mv.giver).2 = 0 ∧ (sumsR k l p Mv.recv).2 = 0) ∧ addB k.units.length k.units.length (accT fG p) (sumsR k l p Mv.giver).1 = true ∧ addB k.units.length k.units.length (accT fR p) (sumsR k l p Mv.recv).1 = true →
          ∀ q : Nat, q < p + 1 → ((sumsR k l q Mv.giver).2 = 0 ∧ (sumsR k l q Mv.recv).2 = 0) ∧ addB k.units.length k.units.length (accT fG q) (fG q) = true ∧ addB k.units.length k.units.length (accT fR q) (fR q) = true := fun h q hq => by
          by_cases hqp : q = p
          · subst hqp; exact h
          · exact hp2 q (by omega)
        have cG := sumsR_code (k := k) (l := l) (p := (p : Int)) (ch := Mv.giver) h1 (by omega) (by omega)
        have cR := sumsR_code (k := k) (l := l) (p := (p : Int)) (ch := Mv.recv) h1 (by omega) (by omega)
        have wG := sumsR_W k l p Mv.giver
        have wR := sumsR_W k l p Mv.recv
        have aG := accT_W (f := fG) p
        have aR := accT_W (f := fR) p
        generalize sumsR k l p Mv.giver = x at *
        generalize sumsR k l p Mv.recv = y at *
        generalize accT fG p = gave at *
        generalize accT fR p = got at *
        (repeat (first | refine XK.norm rfl rfl ?_ | refine XK.rgnA hT rfl rfl rfl ?_ | refine XK.rgnB hT hm rfl rfl rfl ?_)); refine XK.region ?_; refine XL.goA hT rfl rfl rfl rfl ?_
        refine XL.callKA hE rfl rfl rfl rfl trivial rfl rfl (d1) ?_
        refine XL.goA hT rfl rfl rfl rfl ?_; refine XL.fin ?_; (repeat (first | refine XK.norm rfl rfl ?_ | refine XK.rgnA hT rfl rfl rfl ?_ | refine XK.rgnB hT hm rfl rfl rfl ?_))
        (repeat (first | refine XK.norm rfl rfl ?_ | refine XK.rgnA hT rfl rfl rfl ?_ | refine XK.rgnB hT hm rfl rfl rfl ?_)); refine XK.region ?_; refine XL.goA hT rfl rfl rfl rfl ?_
        refine XL.callKA hE rfl rfl rfl rfl trivial rfl rfl (d2) ?_
        refine XL.goA hT rfl rfl rfl rfl ?_; refine XL.fin ?_; (repeat (first | refine XK.norm rfl rfl ?_ | refine XK.rgnA hT rfl rfl rfl ?_ | refine XK.rgnB hT hm rfl rfl rfl ?_))
        by_cases hall : (x.2 = 0 ∧ y.2 = 0) ∧ addB k.units.length k.units.length gave x.1 = true ∧ addB k.units.length k.units.length got y.1 = true
        · rw [if_pos hall.1.1, if_pos hall.1.2]
          have d3 := add17_ok k.units.length k.units.length gave x.1 (by omega) (fun i _ => aG i) (fun i _ => wG i)
          have d4 := addM_ok k.units.length k.units.length got y.1 (by omega) (fun i _ => aR i) (fun i _ => wR i) hall.2.2
          unfold addV at d3
          rw [hall.2.1] at d3
          (repeat (first | refine XK.norm rfl rfl ?_ | refine XK.rgnA hT rfl rfl rfl ?_ | refine XK.rgnB hT hm rfl rfl rfl ?_)); refine XK.region ?_; refine XL.goA hT rfl rfl rfl rfl ?_
          refine XL.callKA hE rfl rfl rfl rfl trivial rfl rfl (d3) ?_
          refine XL.goA hT rfl rfl rfl rfl ?_; refine XL.fin ?_; (repeat (first | refine XK.norm rfl rfl ?_ | refine XK.rgnA hT rfl rfl rfl ?_ | refine XK.rgnB hT hm rfl rfl rfl ?_))
          (repeat (first | refine XK.norm rfl rfl ?_ | refine XK.rgnA hT rfl rfl rfl ?_ | refine XK.rgnB hT hm rfl rfl rfl ?_)); refine XK.region ?_; refine XL.goA hT rfl rfl rfl rfl ?_
          refine XL.callMB [701] _ (Sub.frozen (k := 700) hN rfl rfl) hE rfl rfl rfl rfl trivial d4 rfl (by intro o ho; simp at ho; subst ho; exact fun _ _ => rfl) rfl ?_ rfl trivial rfl rfl rfl ?_
          · (repeat' (first | exact rfl | exact AvIs.refl _ | exact trivial | exact fun _ _ => rfl | refine And.intro ?_ ?_))
          refine XL.goA hT rfl rfl rfl rfl ?_; refine XL.fin ?_; (repeat (first | refine XK.norm rfl rfl ?_ | refine XK.rgnA hT rfl rfl rfl ?_ | refine XK.rgnB hT hm rfl rfl rfl ?_))
          (repeat (first | refine XK.norm rfl rfl ?_ | refine XK.rgnA hT rfl rfl rfl ?_ | refine XK.rgnB hT hm rfl rfl rfl ?_)); refine XK.cond rfl (fun h3 => ?_) (fun h3 => ?_) <;> (try simp at h3)
          · exfalso
            rw [hall.1.1, hall.1.2] at h3
            simp at h3
          · (repeat (first | refine XK.norm rfl rfl ?_ | refine XK.rgnA hT rfl rfl rfl ?_ | refine XK.rgnB hT hm rfl rfl rfl ?_))
            rw [if_pos rfl]
            refine XK.inv ⟨p + 1, ⟨hlt, hnx hall⟩, Weak.trans (Weak.give (k := 700) (q := 701) 1 hN rfl rfl rfl rfl (by decide)) (Weak.trans (Weak.stamp (k := 700) (t := 0) hN rfl rfl) (Weak.of hN rfl rfl rfl ?_ ?_)), by omega⟩
            · rw [eG]; (repeat' (first | exact rfl | exact AvIs.refl _ | exact trivial | exact fun _ _ => rfl | exact fun _ _ => ⟨rfl, AvIs.refl _⟩ | refine ⟨?_, ?_⟩))
            · rw [eR]; (repeat' (first | exact rfl | exact AvIs.refl _ | exact trivial | exact fun _ _ => rfl | exact fun _ _ => ⟨rfl, AvIs.refl _⟩ | refine ⟨?_, ?_⟩))
        · have d3 := add17_ok k.units.length (if x.2 = 0 then k.units.length else 0) gave x.1 (by omega) (fun i _ => aG i) (fun i _ => wG i)
          have d4 := add17_ok k.units.length (if y.2 = 0 then k.units.length else 0) got y.1 (by omega) (fun i _ => aR i) (fun i _ => wR i)
          refine XK.weak (Weak.frozen (k := 700) hN rfl rfl) ?_
          (repeat (first | refine XK.norm rfl rfl ?_ | refine XK.rgnA hT rfl rfl rfl ?_ | refine XK.rgnB hT hm rfl rfl rfl ?_)); refine XK.region ?_; refine XL.goA hT rfl rfl rfl rfl ?_
          refine XL.callKA hE rfl rfl rfl rfl trivial rfl rfl (d3) ?_
          refine XL.goA hT rfl rfl rfl rfl ?_; refine XL.fin ?_; (repeat (first | refine XK.norm rfl rfl ?_ | refine XK.rgnA hT rfl rfl rfl ?_ | refine XK.rgnB hT hm rfl rfl rfl ?_))
          (repeat (first | refine XK.norm rfl rfl ?_ | refine XK.rgnA hT rfl rfl rfl ?_ | refine XK.rgnB hT hm rfl rfl rfl ?_)); refine XK.region ?_; refine XL.goA hT rfl rfl rfl rfl ?_
          refine XL.callKA hE rfl rfl rfl rfl trivial rfl rfl (d4) ?_
          refine XL.goA hT rfl rfl rfl rfl ?_; refine XL.fin ?_; (repeat (first | refine XK.norm rfl rfl ?_ | refine XK.rgnA hT rfl rfl rfl ?_ | refine XK.rgnB hT hm rfl rfl rfl ?_))
          (repeat (first | refine XK.norm rfl rfl ?_ | refine XK.rgnA hT rfl rfl rfl ?_ | refine XK.rgnB hT hm rfl rfl rfl ?_)); refine XK.cond rfl (fun h3 => ?_) (fun h3 => ?_)
          · (repeat (first | refine XK.norm rfl rfl ?_ | refine XK.rgnA hT rfl rfl rfl ?_ | refine XK.rgnB hT hm rfl rfl rfl ?_))
            (first | refine XK.out rfl rfl rfl ?_ | refine XK.outN rfl rfl rfl ?_)
            refine cB ?_
            rcases cG with cG | cG <;> rcases cR with cR | cR <;> simp [cG, cR]
          · exfalso
            apply hall
            rcases cG with cG | cG <;> rcases cR with cR | cR <;> simp [cG, cR] at h3 ⊢
            exact h3
      · have hpP : p = P := by omega
        subst hpP
        have g1 := fun q hq => (hp2 q hq).1
        have g2 := fun q hq => (hp2 q hq).2.1
        have g3 := fun q hq => (hp2 q hq).2.2
        have hcon := fun h => conserve hF kf (by omega) hP g1 g2 g3 h
        have wq : ∀ u, qW (accT fR p u) := accT_W p
        clear hp2 hp1 g1 g2 g3
        change (∀ i, i < l.length → outOk (mvAt k l) (accT fR p) i) → ∀ u, u < k.units.length → accT fG p u = outT (mvAt k l) (accT fR p) l.length u at hcon
        generalize accT fG p = gave at *
        generalize accT fR p = got at *
        (repeat (first | refine XK.norm rfl rfl ?_ | refine XK.rgnA hT rfl rfl rfl ?_ | refine XK.rgnB hT hm rfl rfl rfl ?_))
        refine XK.loop (ι := Nat) (fun i => ST.of [(1, intsV l), (2, .ptr 2 0), (5, .c (.bool true)), (8, ratV k.units.length gave), (9, .vec 700 0), (19, .c (.int .i64 i))] [(2, .cells 27 (kC k)), (700, .vec 29 2 0 k.units.length (fun u => qc (outT (mvAt k l) got i u)))] 4000 206 (fun _ => false))
          (fun i => i ≤ l.length ∧ ∀ j, j < i → outOk (mvAt k l) got j) (fun i => l.length - i) 0 ⟨Nat.zero_le _, fun j hj => absurd hj (Nat.not_lt_zero _)⟩
          (Weak.of hN rfl rfl rfl (by (repeat' (first | exact rfl | exact AvIs.refl _ | exact trivial | exact fun _ _ => rfl | exact fun _ _ => ⟨rfl, AvIs.refl _⟩ | refine ⟨?_, ?_⟩))) (by (repeat' (first | exact rfl | exact AvIs.refl _ | exact trivial | exact fun _ _ => rfl | exact fun _ _ => ⟨rfl, AvIs.refl _⟩ | refine ⟨?_, ?_⟩)))) fun i hi => ?_
        obtain ⟨hi1, hi2⟩ := hi
        (repeat (first | refine XK.norm rfl rfl ?_ | refine XK.rgnA hT rfl rfl rfl ?_ | refine XK.rgnB hT hm rfl rfl rfl ?_)); refine XK.cond rfl (fun hlt => ?_) (fun hlt => ?_) <;> (try simp at hlt)
        · have hz := kf i hlt
          have hmv := mvAt_hold hk h1 (i := i) hlt
          have fi : (i : Int).toNat = i := rfl
          have eN : mvAt k l i = none → outT (mvAt k l) got (i + 1) = outT (mvAt k l) got i := fun h => by simp only [outT, h]
          have eS : ∀ m, mvAt k l i = some m → outT (mvAt k l) got (i + 1) = if m.recv = -1 then setQ (outT (mvAt k l) got i) m.unit.toNat (addR (outT (mvAt k l) got i m.unit.toNat) m.val).1 else outT (mvAt k l) got i := fun m h => by simp only [outT, h]
          have oS : outOk (mvAt k l) got i → ∀ j, j < i + 1 → outOk (mvAt k l) got j := fun h j hj => by
            by_cases hji : j = i
            · subst hji; exact h
            · exact hi2 j (by omega)
          have oN : mvAt k l i = none → outOk (mvAt k l) got i := fun h m hm => by rw [h] at hm; cases hm
          have oM : ∀ m, mvAt k l i = some m → (m.recv = -1 → (addR (outT (mvAt k l) got i m.unit.toNat) m.val).2 = 0) → outOk (mvAt k l) got i := fun m h hh m' hm' => by rw [h] at hm'; cases hm'; exact hh
          have wo := outT_W (mv := mvAt k l) wq i
          generalize outT (mvAt k l) got i = q at *
          (repeat (first | refine XK.norm rfl rfl ?_ | refine XK.rgnA hT rfl rfl rfl ?_ | refine XK.rgnB hT hm rfl rfl rfl ?_)); refine XK.cond rfl (fun h5 => ?_) (fun h5 => ?_)
          · rw [fi] at h5
            have h5 : (0 ≤ l.getD i default ∧ 0 ≤ (acAt k (l.getD i default).toNat).unit) ∧ (acAt k (l.getD i default).toNat).to < 0 := by simpa [acAt] using h5
            have ha := act_unit (hF.act (l.getD i default).toNat (by omega)) (by omega)
            rw [if_neg (by omega)] at hmv
            rw [if_neg (by omega)] at hmv
            have e1 := eS _ hmv
            have o1 := oM _ hmv
            simp only [if_true] at e1 o1
            have wl : qW (acAt k (l.getD i default).toNat).lot := posB_W ha.2.2.2
            have ad := add_ok (q (acAt k (l.getD i default).toNat).unit.toNat) (acAt k (l.getD i default).toNat).lot (wo _) wl
            generalize hab : addR (q (acAt k (l.getD i default).toNat).unit.toNat) (acAt k (l.getD i default).toNat).lot = ab at *
            have hb1 : 0 ≤ (k.acts.getD (l.getD (i : Int).toNat default).toNat default).unit ∧ (k.acts.getD (l.getD (i : Int).toNat default).toNat default).unit < k.units.length := ha.2.2.1
            have hb2 : 0 ≤ l.getD (i : Int).toNat default ∧ l.getD (i : Int).toNat default < k.acts.length := by rw [fi]; omega
            (repeat (first | refine XK.norm rfl rfl ?_ | refine XK.rgnA hT rfl rfl rfl ?_ | refine XK.rgnB hT hm rfl rfl rfl ?_)); refine XK.drawn hm ?_; refine XD.goA hT rfl rfl rfl rfl ?_
            refine XD.callLA hE rfl rfl rfl rfl trivial rfl (ad) rfl ?_
            refine XD.goA hT rfl rfl rfl rfl ?_; refine XD.fin (by kernel_rfl) ?_; (repeat (first | refine XK.norm rfl rfl ?_ | refine XK.rgnA hT rfl rfl rfl ?_ | refine XK.rgnB hT hm rfl rfl rfl ?_))
            (repeat (first | refine XK.norm rfl rfl ?_ | refine XK.rgnA hT rfl rfl rfl ?_ | refine XK.rgnB hT hm rfl rfl rfl ?_)); refine XK.cond rfl (fun h6 => ?_) (fun h6 => ?_) <;> (try simp at h6)
            · (repeat (first | refine XK.norm rfl rfl ?_ | refine XK.rgnA hT rfl rfl rfl ?_ | refine XK.rgnB hT hm rfl rfl rfl ?_))
              (first | refine XK.out rfl rfl rfl ?_ | refine XK.outN rfl rfl rfl ?_)
              rfl
            · (repeat (first | refine XK.norm rfl rfl ?_ | refine XK.rgnA hT rfl rfl rfl ?_ | refine XK.rgnB hT hm rfl rfl rfl ?_))
              refine XK.inv ⟨i + 1, ⟨hlt, oS (o1 fun _ => h6)⟩, Weak.of hN rfl rfl rfl (by (repeat' (first | exact rfl | exact AvIs.refl _ | exact trivial | exact fun _ _ => rfl | exact fun _ _ => ⟨rfl, AvIs.refl _⟩ | refine ⟨?_, ?_⟩))) ?_, by omega⟩
              rw [e1]
              refine ⟨by (repeat' (first | exact rfl | exact AvIs.refl _ | exact trivial | exact fun _ _ => rfl | exact fun _ _ => ⟨rfl, AvIs.refl _⟩ | refine ⟨?_, ?_⟩)), ⟨rfl, rfl, rfl⟩, rfl, ?_⟩
              intro j hj
              rw [setRowF_eq, fi, show k.acts.getD (l.getD i default).toNat default = acAt k (l.getD i default).toNat from rfl]
              by_cases hji : j = (acAt k (l.getD i default).toNat).unit.toNat
              · rw [if_pos hji]; simp [setL, setQ, qc, hji]
              · rw [if_neg hji]; simp only [setQ]; rw [if_neg hji]
          · have hq : outT (mvAt k l) got (i + 1) = q ∧ outOk (mvAt k l) got i := by
              rw [fi] at h5
              have h5 : ¬ ((0 ≤ l.getD i default ∧ 0 ≤ (acAt k (l.getD i default).toNat).unit) ∧ (acAt k (l.getD i default).toNat).to < 0) := by simpa [acAt] using h5
              by_cases h6 : l.getD i default = -1 ∨ (acAt k (l.getD i default).toNat).unit = -1
              · rw [if_pos h6] at hmv
                exact ⟨eN hmv, oN hmv⟩
              · rw [if_neg h6] at hmv
                have ha := act_unit (hF.act (l.getD i default).toNat (by omega)) (by omega)
                rw [if_pos (by omega)] at hmv
                have e1 := eS _ hmv
                have o1 := oM _ hmv
                have hr := holdTo_range hF kf (r := (acAt k (l.getD i default).toNat).to.toNat) (by omega) i (by omega)
                simp only at e1 o1
                rw [if_neg (by omega)] at e1
                exact ⟨e1, o1 fun h => by omega⟩
            obtain ⟨hq, ho⟩ := hq
            (repeat (first | refine XK.norm rfl rfl ?_ | refine XK.rgnA hT rfl rfl rfl ?_ | refine XK.rgnB hT hm rfl rfl rfl ?_))
            refine XK.inv ⟨i + 1, ⟨hlt, oS ho⟩, Weak.of hN rfl rfl rfl (by (repeat' (first | exact rfl | exact AvIs.refl _ | exact trivial | exact fun _ _ => rfl | exact fun _ _ => ⟨rfl, AvIs.refl _⟩ | refine ⟨?_, ?_⟩))) ?_, by omega⟩
            rw [hq]
            (repeat' (first | exact rfl | exact AvIs.refl _ | exact trivial | exact fun _ _ => rfl | exact fun _ _ => ⟨rfl, AvIs.refl _⟩ | refine ⟨?_, ?_⟩))
        · have hin : i = l.length := by omega
          subst hin
          refine XK.weak (Weak.trans (Weak.frozen (k := 700) hN rfl rfl) (Weak.of (L := [(5, .c (.bool true)), (8, ratV k.units.length gave), (9, ratV k.units.length (outT (mvAt k l) got l.length))]) (O := []) (nx := 5000) (nt := 206) (md := fun _ => false) hN rfl rfl rfl (by (repeat' (first | exact rfl | exact AvIs.refl _ | exact trivial | exact fun _ _ => rfl | exact fun _ _ => ⟨rfl, AvIs.refl _⟩ | refine ⟨?_, ?_⟩))) trivial)) ?_
          (repeat (first | refine XK.norm rfl rfl ?_ | refine XK.rgnA hT rfl rfl rfl ?_ | refine XK.rgnB hT hm rfl rfl rfl ?_)); refine XK.region ?_; refine XL.goA hT rfl rfl rfl rfl ?_
          refine XL.callGA hE rfl rfl rfl rfl rfl rfl rfl rfl (same_ok _ _ gave (outT (mvAt k l) got l.length)) rfl ?_
          refine XL.goA hT rfl rfl rfl rfl ?_; refine XL.fin ?_; (repeat (first | refine XK.norm rfl rfl ?_ | refine XK.rgnA hT rfl rfl rfl ?_ | refine XK.rgnB hT hm rfl rfl rfl ?_))
          (repeat (first | refine XK.norm rfl rfl ?_ | refine XK.rgnA hT rfl rfl rfl ?_ | refine XK.rgnB hT hm rfl rfl rfl ?_))
          (first | refine XK.out rfl rfl rfl ?_ | refine XK.outN rfl rfl rfl ?_)
          refine cB ?_
          have := hcon hi2
          simp only [Bool.true_and, beq_self_eq_true]
          rw [List.all_eq_true]
          intro u hu
          rw [beq_iff_eq]
          exact this u (List.mem_range.1 hu)
end Go.Proofs.Ytiiegpjpckkohaa
