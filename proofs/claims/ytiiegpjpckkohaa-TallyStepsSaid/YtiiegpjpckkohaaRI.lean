/- The law TallySteps: the walk. -/
import Derived.Test.YtiiegpjpckkohaaPT
namespace Go.Proofs.Ytiiegpjpckkohaa
open Go.Eng
set_option maxRecDepth 10000
set_option linter.unusedSimpArgs false
set_option linter.unusedVariables false
def ratsP (n : Nat) (q : Nat → Q) : Ob := .vec 29 2 1 n (fun i => [.c (.int .i64 (q i).1), .c (.int .i64 (q i).2)])
theorem lawP (k : K) (hk : kW k) (l : List Int) (p : Int) : Does Try.prog 6 [kV k, intsV l, .c (.int .i64 p)] (.c (.bool true)) := by
  refine Does.mk (fun d => Nat.beq d 115 || Nat.beq d 118) TT_ok Try.func6 rfl (by kernel_rfl) Try.ntmps6 rfl rfl fun E hT hE hN hR => ?_
  have hm : E.P.follows .mixedOrders = true := by rw [hE]; kernel_rfl
  refine XK.fact (Sat.rs_len (j := 1) rfl) fun hlen => ?_
  have hm' := hlen.1
  (repeat (first | refine XK.norm rfl rfl ?_ | refine XK.rgnA hT rfl rfl rfl ?_ | refine XK.rgnB hT hm rfl rfl rfl ?_)); refine XK.region ?_; refine XL.goA hT rfl rfl rfl rfl ?_
  refine XL.callLA hE rfl rfl rfl rfl trivial rfl (head17_ok) rfl ?_
  refine XL.goA hT rfl rfl rfl rfl ?_; refine XL.fin ?_; (repeat (first | refine XK.norm rfl rfl ?_ | refine XK.rgnA hT rfl rfl rfl ?_ | refine XK.rgnB hT hm rfl rfl rfl ?_))
  (repeat (first | refine XK.norm rfl rfl ?_ | refine XK.rgnA hT rfl rfl rfl ?_ | refine XK.rgnB hT hm rfl rfl rfl ?_)); refine XK.region ?_; refine XL.goA hT rfl rfl rfl rfl ?_
  refine XL.callLA hE rfl rfl rfl rfl trivial rfl (smallK_ok k l) rfl ?_
  refine XL.goA hT rfl rfl rfl rfl ?_; refine XL.fin ?_; (repeat (first | refine XK.norm rfl rfl ?_ | refine XK.rgnA hT rfl rfl rfl ?_ | refine XK.rgnB hT hm rfl rfl rfl ?_))
  (repeat (first | refine XK.norm rfl rfl ?_ | refine XK.rgnA hT rfl rfl rfl ?_ | refine XK.rgnB hT hm rfl rfl rfl ?_)); refine XK.cond rfl (fun hs => ?_) (fun hs => ?_)
  · (repeat (first | refine XK.norm rfl rfl ?_ | refine XK.rgnA hT rfl rfl rfl ?_ | refine XK.rgnB hT hm rfl rfl rfl ?_))
    (first | refine XK.out rfl rfl rfl ?_ | refine XK.outN rfl rfl rfl ?_)
    rfl
  · obtain ⟨hs, hne⟩ : smallK k l.length = true ∧ ¬ l = [] := by
      simpa using hs
    obtain ⟨n, hn⟩ : ∃ n, l.length = n + 1 := ⟨l.length - 1, by have := List.length_pos_iff.2 hne; omega⟩
    have en : ((l.length : Int) - 1) = (n : Int) := by omega
    have hnl : n ≤ l.length := by omega
    have d1 := given_ok k hk l p
    have d2 := received_ok k hk l p
    have d3 := given_ok k hk (l.take n) p
    have d4 := received_ok k hk (l.take n) p
    have g1 := fun h => sumsR_last hk hn (p := p) (ch := Mv.giver) h
    have g2 := fun h => sumsR_last hk hn (p := p) (ch := Mv.recv) h
    have g3 := fun h => sumsR_range (k := k) (l := l) (p := p) (ch := Mv.giver) h
    have wb := sumsR_W k (l.take n) p Mv.giver
    have wy := sumsR_W k (l.take n) p Mv.recv
    generalize sumsR k l p Mv.giver = a at *
    generalize sumsR k l p Mv.recv = x at *
    generalize sumsR k (l.take n) p Mv.giver = b at *
    generalize sumsR k (l.take n) p Mv.recv = y at *
    (repeat (first | refine XK.norm rfl rfl ?_ | refine XK.rgnA hT rfl rfl rfl ?_ | refine XK.rgnB hT hm rfl rfl rfl ?_)); refine XK.region ?_; refine XL.goA hT rfl rfl rfl rfl ?_
    refine XL.callKA hE rfl rfl rfl rfl trivial rfl rfl (d1) ?_
    refine XL.goA hT rfl rfl rfl rfl ?_; refine XL.fin ?_; (repeat (first | refine XK.norm rfl rfl ?_ | refine XK.rgnA hT rfl rfl rfl ?_ | refine XK.rgnB hT hm rfl rfl rfl ?_))
    rw [en]
    (repeat (first | refine XK.norm rfl rfl ?_ | refine XK.rgnA hT rfl rfl rfl ?_ | refine XK.rgnB hT hm rfl rfl rfl ?_)); refine XK.drawn hm ?_; refine XD.goA hT rfl rfl rfl rfl ?_
    refine XD.callK hE rfl rfl rfl rfl trivial rfl rfl d3 ⟨rfl, intsV_take l n hnl, rfl⟩ ?_
    refine XD.goA hT rfl rfl rfl rfl ?_; refine XD.fin (by kernel_rfl) ?_; (repeat (first | refine XK.norm rfl rfl ?_ | refine XK.rgnA hT rfl rfl rfl ?_ | refine XK.rgnB hT hm rfl rfl rfl ?_))
    (repeat (first | refine XK.norm rfl rfl ?_ | refine XK.rgnA hT rfl rfl rfl ?_ | refine XK.rgnB hT hm rfl rfl rfl ?_)); refine XK.region ?_; refine XL.goA hT rfl rfl rfl rfl ?_
    refine XL.callKA hE rfl rfl rfl rfl trivial rfl rfl (d2) ?_
    refine XL.goA hT rfl rfl rfl rfl ?_; refine XL.fin ?_; (repeat (first | refine XK.norm rfl rfl ?_ | refine XK.rgnA hT rfl rfl rfl ?_ | refine XK.rgnB hT hm rfl rfl rfl ?_))
    (repeat (first | refine XK.norm rfl rfl ?_ | refine XK.rgnA hT rfl rfl rfl ?_ | refine XK.rgnB hT hm rfl rfl rfl ?_)); refine XK.drawn hm ?_; refine XD.goA hT rfl rfl rfl rfl ?_
    refine XD.callK hE rfl rfl rfl rfl trivial rfl rfl d4 ⟨rfl, intsV_take l n hnl, rfl⟩ ?_
    refine XD.goA hT rfl rfl rfl rfl ?_; refine XD.fin (by kernel_rfl) ?_; (repeat (first | refine XK.norm rfl rfl ?_ | refine XK.rgnA hT rfl rfl rfl ?_ | refine XK.rgnB hT hm rfl rfl rfl ?_))
    (repeat (first | refine XK.norm rfl rfl ?_ | refine XK.rgnA hT rfl rfl rfl ?_ | refine XK.rgnB hT hm rfl rfl rfl ?_)); refine XK.cond rfl (fun h1 => ?_) (fun h1 => ?_) <;> (try simp at h1)
    · (repeat (first | refine XK.norm rfl rfl ?_ | refine XK.rgnA hT rfl rfl rfl ?_ | refine XK.rgnB hT hm rfl rfl rfl ?_))
      (first | refine XK.out rfl rfl rfl ?_ | refine XK.outN rfl rfl rfl ?_)
      refine cB ?_
      by_cases k1 : a.2 = 0 <;> by_cases k2 : x.2 = 0 <;> simp [k1, k2]
    · obtain ⟨h1, h2⟩ := h1
      obtain ⟨c1, c2, c3⟩ := g1 h1
      obtain ⟨_, c4, c5⟩ := g2 h2
      (repeat (first | refine XK.norm rfl rfl ?_ | refine XK.rgnA hT rfl rfl rfl ?_ | refine XK.rgnB hT hm rfl rfl rfl ?_)); refine XK.cond rfl (fun h3 => ?_) (fun h3 => ?_) <;> (try simp at h3)
      · exfalso
        rw [c2, c4] at h3
        simp at h3
      · obtain ⟨kk, kf, _⟩ := checkR_ok hk c1
        have hun := kk.units
        rw [if_pos c2, if_pos c4, if_pos h1, if_pos h2]
        (repeat (first | refine XK.norm rfl rfl ?_ | refine XK.rgnA hT rfl rfl rfl ?_ | refine XK.rgnB hT hm rfl rfl rfl ?_)); refine XK.rgnD hT hm rfl rfl rfl (by kernel_rfl) ?_ ?_
        · have hz := kf n (by omega)
          simp only [AllP, impG, Int.toNat_natCast, decide_eq_true_eq]
          (repeat' (first | exact trivial | exact fun h => h | (intro h; omega) | omega | (intro h; exact ⟨by omega, by omega⟩) | refine And.intro ?_ ?_))
        · have fn : (n : Int).toNat = n := rfl
          have hz := kf n (by omega)
          have hmv := mvAt_hold hk c1 (i := n) (by omega)
          refine XK.weak (Weak.of (L := [(1, intsV l), (2, .c (.int .i64 p)), (3, .ptr 3 0), (7, .c (.bool true)), (8, .c (.int .i64 n)), (9, ratV k.units.length a.1), (11, .vec 2345 1), (13, ratV k.units.length x.1), (15, .vec 2348 1), (137, .c (.bool (decide (0 ≤ l.getD n default) && decide (0 ≤ (acAt k (l.getD n default).toNat).unit))))])
            (O := [(3, .cells 27 (kC k)), (2345, ratsP k.units.length b.1), (2348, ratsP k.units.length y.1)]) (nx := 5000) (nt := 223) (md := fun _ => false) hN rfl rfl rfl ?_ ?_) ?_
          · (repeat' (first | exact rfl | exact AvIs.refl _ | exact trivial | exact fun _ _ => rfl | exact fun _ _ => ⟨rfl, AvIs.refl _⟩ | refine And.intro ?_ ?_))
          · (repeat' (first | exact rfl | exact AvIs.refl _ | exact trivial | exact fun _ _ => rfl | exact fun _ _ => ⟨rfl, AvIs.refl _⟩ | exact Nat.zero_add _ | refine And.intro ?_ ?_))
          (repeat (first | refine XK.norm rfl rfl ?_ | refine XK.rgnA hT rfl rfl rfl ?_ | refine XK.rgnB hT hm rfl rfl rfl ?_)); refine XK.join (ST.of [(7, .c (.bool true)), (9, ratV k.units.length a.1), (11, .vec 2345 1), (13, ratV k.units.length x.1), (15, .vec 2348 1)] [(2345, ratsP k.units.length a.1), (2348, ratsP k.units.length x.1)] 5000 223 (fun _ => false)) rfl (fun h5 => ?_) (fun h5 => ?_) ?_
          · have h5 : 0 ≤ l.getD n default ∧ 0 ≤ (acAt k (l.getD n default).toNat).unit := by simpa using h5
            have ha := act_unit (kk.facts.act (l.getD n default).toNat (by omega)) (by omega)
            rw [if_neg (by omega)] at hmv
            (repeat (first | refine XK.norm rfl rfl ?_ | refine XK.rgnA hT rfl rfl rfl ?_ | refine XK.rgnB hT hm rfl rfl rfl ?_))
            rw [fn, show k.acts.getD (l.getD n default).toNat default = acAt k (l.getD n default).toNat from rfl]
            generalize acAt k (l.getD n default).toNat = ac at *
            have hho : ∀ r : Int, 0 ≤ r → r < k.holders.length → Does Try.prog 36 [kV k, intsV l, .c (.int .i64 r), .c (.int .i64 n)] (.tup [.c (.int .i64 (holdTo k l (r.toNat : Int) n).1), .c (.int .i64 0)]) := fun r hr0 hr1 => by
              obtain ⟨r, rfl⟩ := Int.eq_ofNat_of_zero_le hr0
              have := holder_ok k hk l r n
              rw [holderR_at c1 (by omega) hnl] at this
              exact this
            have wl : qW ac.lot := posB_W ha.2.2.2
            (repeat (first | refine XK.norm rfl rfl ?_ | refine XK.rgnA hT rfl rfl rfl ?_ | refine XK.rgnB hT hm rfl rfl rfl ?_)); refine XK.region ?_; refine XL.goA hT rfl rfl rfl rfl ?_
            refine XL.callLA hE rfl rfl rfl rfl trivial rfl (hho ac.role ha.1.1 ha.1.2) rfl ?_
            refine XL.goA hT rfl rfl rfl rfl ?_; refine XL.fin ?_; (repeat (first | refine XK.norm rfl rfl ?_ | refine XK.rgnA hT rfl rfl rfl ?_ | refine XK.rgnB hT hm rfl rfl rfl ?_))
            (repeat (first | refine XK.norm rfl rfl ?_ | refine XK.rgnA hT rfl rfl rfl ?_ | refine XK.rgnB hT hm rfl rfl rfl ?_)); refine XK.region ?_; refine XL.goA hT rfl rfl rfl rfl ?_
            refine XL.callLA hE rfl rfl rfl rfl trivial rfl (hho (if ac.to < 0 then 0 else ac.to) (by split <;> omega) (by split <;> omega)) rfl ?_
            refine XL.goA hT rfl rfl rfl rfl ?_; refine XL.fin ?_; (repeat (first | refine XK.norm rfl rfl ?_ | refine XK.rgnA hT rfl rfl rfl ?_ | refine XK.rgnB hT hm rfl rfl rfl ?_))
            have hap := g3 h1
            have ea : a.1 = if ((holdTo k l (ac.role.toNat : Int) n).1 == p) = true then setQ b.1 ac.unit.toNat (addR (b.1 ac.unit.toNat) ac.lot).1 else b.1 := by
              rw [c3, hmv]
              simp only [lastR]
              by_cases h : (holdTo k l (ac.role.toNat : Int) n).1 = p
              · rw [if_neg (by simpa using h), if_pos (by simpa using h)]
              · rw [if_pos h, if_neg (by simpa using h)]
            have ex : x.1 = if ((holdTo k l ((if ac.to < 0 then 0 else ac.to).toNat : Int) n).1 == p && decide (0 ≤ ac.to)) = true then setQ y.1 ac.unit.toNat (addR (y.1 ac.unit.toNat) ac.lot).1 else y.1 := by
              rw [c5, hmv]
              simp only [lastR]
              by_cases h0 : 0 ≤ ac.to
              · rw [if_neg (show ¬ ac.to < 0 by omega), if_pos (show ac.to ≠ -1 by omega)]
                by_cases h : (holdTo k l (ac.to.toNat : Int) n).1 = p
                · rw [if_neg (fun h' => h' h), if_pos (by rw [beq_iff_eq.2 h]; simpa using h0)]
                · rw [if_pos h, if_neg (by rw [beq_eq_false_iff_ne.2 h]; simp)]
              · rw [if_neg (show ¬ ac.to ≠ -1 by omega), if_pos (by omega), if_neg (by simp [h0])]
            (repeat (first | refine XK.norm rfl rfl ?_ | refine XK.rgnA hT rfl rfl rfl ?_ | refine XK.rgnB hT hm rfl rfl rfl ?_)); refine XK.cond rfl (fun h6 => ?_) (fun h6 => ?_) <;> (try simp at h6)
            (repeat (first | refine XK.norm rfl rfl ?_ | refine XK.rgnA hT rfl rfl rfl ?_ | refine XK.rgnB hT hm rfl rfl rfl ?_)); refine XK.join (ST.of [(2, .c (.int .i64 p)), (7, .c (.bool true)), (9, ratV k.units.length a.1), (11, .vec 2345 1), (13, ratV k.units.length x.1), (15, .vec 2348 1), (17, .ptr 5017 0), (20, .c (.int .i64 (holdTo k l ((if ac.to < 0 then 0 else ac.to).toNat : Int) n).1))] [(2345, ratsP k.units.length a.1), (2348, ratsP k.units.length y.1), (5017, .cells 64 (actC ac))] 9000 223 (fun _ => false)) rfl (fun h7 => ?_) (fun h7 => ?_) ?_
            · rw [ea, if_pos h7]
              (repeat (first | refine XK.norm rfl rfl ?_ | refine XK.rgnA hT rfl rfl rfl ?_ | refine XK.rgnB hT hm rfl rfl rfl ?_)); refine XK.drawn hm ?_; refine XD.goA hT rfl rfl rfl rfl ?_
              refine XD.callLA hE rfl rfl rfl rfl trivial rfl (add_ok _ _ (wb ac.unit.toNat) wl) rfl ?_
              refine XD.goA hT rfl rfl rfl rfl ?_; refine XD.fin (by kernel_rfl) ?_; (repeat (first | refine XK.norm rfl rfl ?_ | refine XK.rgnA hT rfl rfl rfl ?_ | refine XK.rgnB hT hm rfl rfl rfl ?_))
              refine XK.inv (Weak.of hN rfl rfl rfl (by (repeat' (first | exact rfl | exact AvIs.refl _ | exact trivial | exact fun _ _ => rfl | exact fun _ _ => ⟨rfl, AvIs.refl _⟩ | refine ⟨?_, ?_⟩))) ?_)
              refine ⟨⟨⟨rfl, rfl, rfl⟩, rfl, ?_⟩, by (repeat' (first | exact rfl | exact AvIs.refl _ | exact trivial | exact fun _ _ => rfl | exact fun _ _ => ⟨rfl, AvIs.refl _⟩ | refine ⟨?_, ?_⟩))⟩
              intro j hj
              by_cases hji : j = ac.unit.toNat
              · subst hji; simp [setRowF, setL, setQ]
              · simp [setRowF, beq_false hji, setQ, hji]
            · rw [ea, if_neg (by rw [h7]; simp)]
              (repeat (first | refine XK.norm rfl rfl ?_ | refine XK.rgnA hT rfl rfl rfl ?_ | refine XK.rgnB hT hm rfl rfl rfl ?_))
              exact XK.inv (Weak.of hN rfl rfl rfl (by (repeat' (first | exact rfl | exact AvIs.refl _ | exact trivial | exact fun _ _ => rfl | exact fun _ _ => ⟨rfl, AvIs.refl _⟩ | refine ⟨?_, ?_⟩))) (by (repeat' (first | exact rfl | exact AvIs.refl _ | exact trivial | exact fun _ _ => rfl | exact fun _ _ => ⟨rfl, AvIs.refl _⟩ | refine ⟨?_, ?_⟩))))
            · (repeat (first | refine XK.norm rfl rfl ?_ | refine XK.rgnA hT rfl rfl rfl ?_ | refine XK.rgnB hT hm rfl rfl rfl ?_)); refine XK.cond rfl (fun h8 => ?_) (fun h8 => ?_)
              · rw [ex, if_pos h8]
                (repeat (first | refine XK.norm rfl rfl ?_ | refine XK.rgnA hT rfl rfl rfl ?_ | refine XK.rgnB hT hm rfl rfl rfl ?_)); refine XK.drawn hm ?_; refine XD.goA hT rfl rfl rfl rfl ?_
                refine XD.callLA hE rfl rfl rfl rfl trivial rfl (add_ok _ _ (wy ac.unit.toNat) wl) rfl ?_
                refine XD.goA hT rfl rfl rfl rfl ?_; refine XD.fin (by kernel_rfl) ?_; (repeat (first | refine XK.norm rfl rfl ?_ | refine XK.rgnA hT rfl rfl rfl ?_ | refine XK.rgnB hT hm rfl rfl rfl ?_))
                refine XK.inv (Weak.of hN rfl rfl rfl (by (repeat' (first | exact rfl | exact AvIs.refl _ | exact trivial | exact fun _ _ => rfl | exact fun _ _ => ⟨rfl, AvIs.refl _⟩ | refine ⟨?_, ?_⟩))) ?_)
                refine ⟨by (repeat' (first | exact rfl | exact AvIs.refl _ | exact trivial | exact fun _ _ => rfl | exact fun _ _ => ⟨rfl, AvIs.refl _⟩ | refine ⟨?_, ?_⟩)), ⟨rfl, rfl, rfl⟩, rfl, ?_⟩
                intro j hj
                by_cases hji : j = ac.unit.toNat
                · subst hji; simp [setRowF, setL, setQ]
                · simp [setRowF, beq_false hji, setQ, hji]
              · rw [ex, if_neg (by rw [h8]; simp)]
                (repeat (first | refine XK.norm rfl rfl ?_ | refine XK.rgnA hT rfl rfl rfl ?_ | refine XK.rgnB hT hm rfl rfl rfl ?_))
                exact XK.inv (Weak.of hN rfl rfl rfl (by (repeat' (first | exact rfl | exact AvIs.refl _ | exact trivial | exact fun _ _ => rfl | exact fun _ _ => ⟨rfl, AvIs.refl _⟩ | refine ⟨?_, ?_⟩))) (by (repeat' (first | exact rfl | exact AvIs.refl _ | exact trivial | exact fun _ _ => rfl | exact fun _ _ => ⟨rfl, AvIs.refl _⟩ | refine ⟨?_, ?_⟩))))
          · have hno : mvAt k l n = none := by
              rw [hmv]
              refine if_pos ?_
              have h5 : ¬ (0 ≤ l.getD n default ∧ 0 ≤ (acAt k (l.getD n default).toNat).unit) := by simpa using h5
              rcases hz with hz | hz
              · exact .inl hz
              · right
                by_cases hu : (acAt k (l.getD n default).toNat).unit = -1
                · exact hu
                · have ha := act_unit (kk.facts.act (l.getD n default).toNat (by omega)) hu
                  omega
            rw [c3, c5, hno]
            (repeat (first | refine XK.norm rfl rfl ?_ | refine XK.rgnA hT rfl rfl rfl ?_ | refine XK.rgnB hT hm rfl rfl rfl ?_))
            exact XK.inv (Weak.of hN rfl rfl rfl (by (repeat' (first | exact rfl | exact AvIs.refl _ | exact trivial | exact fun _ _ => rfl | exact fun _ _ => ⟨rfl, AvIs.refl _⟩ | refine ⟨?_, ?_⟩))) (by (repeat' (first | exact rfl | exact AvIs.refl _ | exact trivial | exact fun _ _ => rfl | exact fun _ _ => ⟨rfl, AvIs.refl _⟩ | refine ⟨?_, ?_⟩))))
          · (repeat (first | refine XK.norm rfl rfl ?_ | refine XK.rgnA hT rfl rfl rfl ?_ | refine XK.rgnB hT hm rfl rfl rfl ?_)); refine XK.region ?_; refine XL.goA hT rfl rfl rfl rfl ?_
            refine XL.callGA hE rfl rfl rfl rfl rfl rfl rfl rfl (same_ok _ _ a.1 a.1) rfl ?_
            refine XL.goA hT rfl rfl rfl rfl ?_
            refine XL.callGA hE rfl rfl rfl rfl rfl rfl rfl rfl (same_ok _ _ x.1 x.1) rfl ?_
            refine XL.goA hT rfl rfl rfl rfl ?_; refine XL.fin ?_; (repeat (first | refine XK.norm rfl rfl ?_ | refine XK.rgnA hT rfl rfl rfl ?_ | refine XK.rgnB hT hm rfl rfl rfl ?_))
            (repeat (first | refine XK.norm rfl rfl ?_ | refine XK.rgnA hT rfl rfl rfl ?_ | refine XK.rgnB hT hm rfl rfl rfl ?_))
            (first | refine XK.out rfl rfl rfl ?_ | refine XK.outN rfl rfl rfl ?_)
            refine cB ?_
            simp
end Go.Proofs.Ytiiegpjpckkohaa
