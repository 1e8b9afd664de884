/- The law TopUnits: the plain laws and the walk. -/
import Derived.Test.YtiiegpjpckkohaaPR
import Derived.Test.YtiiegpjpckkohaaPP
import Derived.Test.YtiiegpjpckkohaaQB
namespace Go.Proofs.Ytiiegpjpckkohaa
open Go.Eng
set_option maxRecDepth 10000
set_option linter.unusedSimpArgs false
set_option linter.unusedVariables false
def inT (t : Tm) (o : Int) : Tm := ⟨o, t.rate, t.cap⟩
def bareU (t : Tm) (o : Int) : Tm := ⟨o, (0, 1), t.cap⟩
theorem tabU {k : K} (h : kOk k) : (validR (fun j => k.units.getD j default) k.units.length).2 = true := by
  obtain ⟨hw, hv⟩ := h
  unfold kValid at hv
  split at hv
  · simp at hv
  · split at hv
    · simp at hv
    · rename_i h2
      have h2 : framedB k = true := by simpa using h2
      unfold framedB at h2
      split at h2
      · cases h2
      · split at h2
        · cases h2
        · rename_i h3; simpa using h3
/-- A claim's part in another unit. -/
theorem gX_in {k : K} {t : Tm} {o : Int} {cl : Nat → Option Clm} (hu : rt (k.units.getD t.unit.toNat default).fac ≠ 0) (i : Nat) :
    gX k (inT t o) cl i = gX k t cl i * (rt (k.units.getD t.unit.toNat default).fac * (rt (k.units.getD o.toNat default).fac)⁻¹) := by
  unfold gX
  cases hc : cl i with
  | none => simp
  | some c =>
    simp only [prX, inT, convX]
    generalize rt (k.units.getD t.unit.toNat default).fac = fu at *
    generalize rt (k.units.getD o.toNat default).fac = fo at *
    generalize rt c.1.val * rt (k.units.getD c.1.unit.toNat default).fac = y
    generalize rt t.rate = r
    rw [Rat.div_def, Rat.div_def]
    have : fu⁻¹ * fu = 1 := Rat.inv_mul_cancel fu hu
    grind
/-- Damages in another unit. -/
theorem units_same {k : K} {l : List Int} {t : Tm} {o a b u : Int} (hc : t.cap.1 < 0) (h1 : (damagesR k l t a b u).2 = 0) (h2 : (damagesR k l (inT t o) a b u).2 = 0)
    (h3 : (convK k (damagesR k l t a b u).1 o).2 = 0) : (convK k (damagesR k l t a b u).1 o).1 = (damagesR k l (inT t o) a b u).1 := by
  obtain ⟨x1, x2⟩ := dam_free h1 hc
  obtain ⟨y1, y2⟩ := dam_free h2 (show (inT t o).cap.1 < 0 from hc)
  have u1 := (damages_qOk h1).2
  have u2 := (damages_qOk h2).2
  obtain ⟨c1, c2, c3, c4⟩ := convR_ok h3
  refine A.ext2 ?_ ?_
  · exact Eq.trans c2 u2.symm
  · refine rt_inj c3 y1 ?_
    have e3 : rt (convK k (damagesR k l t a b u).1 o).1.val = convX (fun j => k.units.getD j default) (damagesR k l t a b u).1 o := c4
    have hf := c1.fac
    rw [u1] at hf
    have hu := rt_ne hf.1
    refine Eq.trans e3 ?_
    unfold convX
    rw [u1, x2, y2, Rat.div_def, Rat.mul_assoc, ← S_mul]
    exact S_congr fun i hi => (gX_in hu i).symm
theorem units_none {k : K} (hw : kW k) {l : List Int} {t : Tm} {o a b u : Int} (h1 : (damagesR k l t a b u).2 = 0) (h2 : (damagesR k l (inT t o) a b u).2 = 0)
    (h3 : (convK k (damagesR k l t a b u).1 o).2 = 11) : (damagesR k l t a b u).1.val = (0, 1) ∧ (damagesR k l (inT t o) a b u).1.val = (0, 1) := by
  obtain ⟨q1, _, _, _, v1, k1, a1, z1⟩ := damages_sum h1
  obtain ⟨q2, _, _, _, v2, k2, a2, z2⟩ := damages_sum h2
  have w1 := (damT_val z1).2.2
  have w2 := (damT_val z2).2.2
  have b1 := asked_valid a1
  have b2 := asked_valid a2
  have dq := damages_qOk h1
  have hn : ∀ i, i < k.clauses.length → claimAt k l (followR k l l.length).out a b u i = none := by
    intro i hi
    cases hc : claimAt k l (followR k l l.length).out a b u i with
    | none => rfl
    | some c =>
      exfalso
      have g1 := (w1 i hi c hc).1
      have g2 := (w2 i hi c hc).1
      have p1 := (convR_ok g1).1
      have p2 := (convR_ok g2).1
      have hp : convPre (fun j => k.units.getD j default) k.units.length (damagesR k l t a b u).1 o := by
        refine ⟨p1.1, ⟨?_, dq.1⟩, b2.2.1, ?_⟩
        · rw [dq.2]; exact b1.2.1
        · rw [dq.2]; exact p1.2.2.2.symm.trans p2.2.2.2
      have e : (convK k (damagesR k l t a b u).1 o).2 = 0 ∨ (convK k (damagesR k l t a b u).1 o).2 = 2 := by
        unfold convK
        rw [convR_pre hp]
        split
        · rcases toQ_code (convX (fun j => k.units.getD j default) (damagesR k l t a b u).1 o) with h | h
          · exact absurd h ‹_›
          · exact .inr h
        · exact .inl rfl
      omega
  exact ⟨dam_none h1 hn, dam_none h2 hn⟩
theorem lawTU (k : K) (hk : kW k) (l : List Int) (t : Tm) (ht : tmW t) (a b u o : Int) (ho : inK .i64 o) : Does Try.prog 4 [kV k, intsV l, tmV t, .c (.int .i64 a), .c (.int .i64 b), .c (.int .i64 u), .c (.int .i64 o)] (.c (.bool true)) := by
  refine Does.mk (fun _ => false) TT_ok Try.func4 rfl (by kernel_rfl) Try.ntmps4 rfl rfl fun E hT hE hN hR => ?_
  have hm : E.P.follows .mixedOrders = true := by rw [hE]; kernel_rfl
  (repeat (first | refine XK.norm rfl rfl ?_ | refine XK.rgnA hT rfl rfl rfl ?_ | refine XK.rgnB hT hm rfl rfl rfl ?_)); refine XK.region ?_; refine XL.goA hT rfl rfl rfl rfl ?_
  refine XL.callLA hE rfl rfl rfl rfl trivial rfl (netted_ok) rfl ?_
  refine XL.goA hT rfl rfl rfl rfl ?_; refine XL.fin ?_; (repeat (first | refine XK.norm rfl rfl ?_ | refine XK.rgnA hT rfl rfl rfl ?_ | refine XK.rgnB hT hm rfl rfl rfl ?_))
  (repeat (first | refine XK.norm rfl rfl ?_ | refine XK.rgnA hT rfl rfl rfl ?_ | refine XK.rgnB hT hm rfl rfl rfl ?_)); refine XK.region ?_; refine XL.goA hT rfl rfl rfl rfl ?_
  refine XL.callLA hE rfl rfl rfl rfl trivial rfl (smallK_ok k l) rfl ?_
  refine XL.goA hT rfl rfl rfl rfl ?_; refine XL.fin ?_; (repeat (first | refine XK.norm rfl rfl ?_ | refine XK.rgnA hT rfl rfl rfl ?_ | refine XK.rgnB hT hm rfl rfl rfl ?_))
  (repeat (first | refine XK.norm rfl rfl ?_ | refine XK.rgnA hT rfl rfl rfl ?_ | refine XK.rgnB hT hm rfl rfl rfl ?_)); refine XK.cond rfl (fun hs => ?_) (fun hs => ?_) <;> (try simp at hs)
  · (repeat (first | refine XK.norm rfl rfl ?_ | refine XK.rgnA hT rfl rfl rfl ?_ | refine XK.rgnB hT hm rfl rfl rfl ?_))
    (first | refine XK.out rfl rfl rfl ?_ | refine XK.outN rfl rfl rfl ?_)
    rfl
  · have hcap : t.cap.1 < 0 := by omega
    have ti : tmW (inT t o) := ⟨ho, ht.2.1, ht.2.2⟩
    have tb : tmW (bareU t o) := ⟨ho, ⟨by simp [inK, bareU], by simp [inK, bareU]⟩, ht.2.2⟩
    have d1 := damages_ok k hk l t ht a b u
    have d2 := damages_ok k hk l (inT t o) ti a b u
    have d3 := balance_ok k hk l (bareU t o) tb a b k.days
    have d4 := setOff_ok k hk l a b o
    have n1 := fun h1 h2 h3 => units_same (k := k) (l := l) (t := t) (o := o) (a := a) (b := b) (u := u) hcap h1 h2 h3
    have n2 := fun h1 h2 h3 => units_none (k := k) hk (l := l) (t := t) (o := o) (a := a) (b := b) (u := u) h1 h2 h3
    have n3 := fun h1 h2 => bal_set (k := k) hk (l := l) (t := bareU t o) rfl hcap (a := a) (b := b) h1 h2
    have wx := damagesR_W (k := k) (l := l) ht a b u
    have wu : inK .i64 (damagesR k l t a b u).1.unit := by
      by_cases h : (damagesR k l t a b u).2 = 0
      · rw [(damages_qOk h).2]; exact ht.1
      · rw [damages_err h]; simp [inK, zA]
    have hco : Does Try.prog 26 [unitsV k.units, av (damagesR k l t a b u).1, .c (.int .i64 o)] (ar (convK k (damagesR k l t a b u).1 o)) := convert_ok k.units.length (fun j => k.units.getD j default) _ o (all_getD hk.2.2.1) ⟨wu, wx⟩
    rw [show (bareU t o).unit = o from rfl] at n3
    generalize convK k (damagesR k l t a b u).1 o = w at *
    generalize damagesR k l t a b u = x at *
    generalize damagesR k l (inT t o) a b u = y at *
    generalize balanceR k l (bareU t o) a b k.days = p at *
    generalize setOffR k l a b o = q at *
    dsimp only [tmV, inT, bareU] at d1 d2 d3
    (repeat (first | refine XK.norm rfl rfl ?_ | refine XK.rgnA hT rfl rfl rfl ?_ | refine XK.rgnB hT hm rfl rfl rfl ?_)); refine XK.region ?_; refine XL.goA hT rfl rfl rfl rfl ?_
    refine XL.callLA hE rfl rfl rfl rfl trivial rfl (d1) rfl ?_
    refine XL.goA hT rfl rfl rfl rfl ?_; refine XL.fin ?_; (repeat (first | refine XK.norm rfl rfl ?_ | refine XK.rgnA hT rfl rfl rfl ?_ | refine XK.rgnB hT hm rfl rfl rfl ?_))
    (repeat (first | refine XK.norm rfl rfl ?_ | refine XK.rgnA hT rfl rfl rfl ?_ | refine XK.rgnB hT hm rfl rfl rfl ?_)); refine XK.region ?_; refine XL.goA hT rfl rfl rfl rfl ?_
    refine XL.callLA hE rfl rfl rfl rfl trivial rfl (d2) rfl ?_
    refine XL.goA hT rfl rfl rfl rfl ?_; refine XL.fin ?_; (repeat (first | refine XK.norm rfl rfl ?_ | refine XK.rgnA hT rfl rfl rfl ?_ | refine XK.rgnB hT hm rfl rfl rfl ?_))
    (repeat (first | refine XK.norm rfl rfl ?_ | refine XK.rgnA hT rfl rfl rfl ?_ | refine XK.rgnB hT hm rfl rfl rfl ?_)); refine XK.cond rfl (fun h1 => ?_) (fun h1 => ?_) <;> (try simp at h1)
    · obtain ⟨h1, h1'⟩ := h1
      (repeat (first | refine XK.norm rfl rfl ?_ | refine XK.rgnA hT rfl rfl rfl ?_ | refine XK.rgnB hT hm rfl rfl rfl ?_)); refine XK.region ?_; refine XL.goA hT rfl rfl rfl rfl ?_
      refine XL.callLA hE rfl rfl rfl rfl trivial rfl (hco) rfl ?_
      refine XL.goA hT rfl rfl rfl rfl ?_; refine XL.fin ?_; (repeat (first | refine XK.norm rfl rfl ?_ | refine XK.rgnA hT rfl rfl rfl ?_ | refine XK.rgnB hT hm rfl rfl rfl ?_))
      (repeat (first | refine XK.norm rfl rfl ?_ | refine XK.rgnA hT rfl rfl rfl ?_ | refine XK.rgnB hT hm rfl rfl rfl ?_)); refine XK.cond rfl (fun h2 => ?_) (fun h2 => ?_) <;> (try simp at h2)
      · exfalso
        rcases h2 with ⟨h2, h3⟩ | ⟨h2, h3⟩
        · rw [n1 h1 h1' h2] at h3; simp at h3
        · obtain ⟨e1, e2⟩ := n2 h1 h1' h2
          rw [e1, e2] at h3; simp at h3
      · (repeat (first | refine XK.norm rfl rfl ?_ | refine XK.rgnA hT rfl rfl rfl ?_ | refine XK.rgnB hT hm rfl rfl rfl ?_))
        (repeat (first | refine XK.norm rfl rfl ?_ | refine XK.rgnA hT rfl rfl rfl ?_ | refine XK.rgnB hT hm rfl rfl rfl ?_)); refine XK.region ?_; refine XL.goA hT rfl rfl rfl rfl ?_
        refine XL.callLA hE rfl rfl rfl rfl trivial rfl (d3) rfl ?_
        refine XL.goA hT rfl rfl rfl rfl ?_; refine XL.fin ?_; (repeat (first | refine XK.norm rfl rfl ?_ | refine XK.rgnA hT rfl rfl rfl ?_ | refine XK.rgnB hT hm rfl rfl rfl ?_))
        (repeat (first | refine XK.norm rfl rfl ?_ | refine XK.rgnA hT rfl rfl rfl ?_ | refine XK.rgnB hT hm rfl rfl rfl ?_)); refine XK.region ?_; refine XL.goA hT rfl rfl rfl rfl ?_
        refine XL.callLA hE rfl rfl rfl rfl trivial rfl (d4) rfl ?_
        refine XL.goA hT rfl rfl rfl rfl ?_; refine XL.fin ?_; (repeat (first | refine XK.norm rfl rfl ?_ | refine XK.rgnA hT rfl rfl rfl ?_ | refine XK.rgnB hT hm rfl rfl rfl ?_))
        (repeat (first | refine XK.norm rfl rfl ?_ | refine XK.rgnA hT rfl rfl rfl ?_ | refine XK.rgnB hT hm rfl rfl rfl ?_))
        (first | refine XK.out rfl rfl rfl ?_ | refine XK.outN rfl rfl rfl ?_)
        refine cB ?_
        by_cases e1 : p.2 = 0
        · by_cases e2 : q.2 = 0
          · rw [n3 e1 e2]; simp
          · simp [e2]
        · simp [e1]
    · (repeat (first | refine XK.norm rfl rfl ?_ | refine XK.rgnA hT rfl rfl rfl ?_ | refine XK.rgnB hT hm rfl rfl rfl ?_))
      (repeat (first | refine XK.norm rfl rfl ?_ | refine XK.rgnA hT rfl rfl rfl ?_ | refine XK.rgnB hT hm rfl rfl rfl ?_)); refine XK.region ?_; refine XL.goA hT rfl rfl rfl rfl ?_
      refine XL.callLA hE rfl rfl rfl rfl trivial rfl (d3) rfl ?_
      refine XL.goA hT rfl rfl rfl rfl ?_; refine XL.fin ?_; (repeat (first | refine XK.norm rfl rfl ?_ | refine XK.rgnA hT rfl rfl rfl ?_ | refine XK.rgnB hT hm rfl rfl rfl ?_))
      (repeat (first | refine XK.norm rfl rfl ?_ | refine XK.rgnA hT rfl rfl rfl ?_ | refine XK.rgnB hT hm rfl rfl rfl ?_)); refine XK.region ?_; refine XL.goA hT rfl rfl rfl rfl ?_
      refine XL.callLA hE rfl rfl rfl rfl trivial rfl (d4) rfl ?_
      refine XL.goA hT rfl rfl rfl rfl ?_; refine XL.fin ?_; (repeat (first | refine XK.norm rfl rfl ?_ | refine XK.rgnA hT rfl rfl rfl ?_ | refine XK.rgnB hT hm rfl rfl rfl ?_))
      (repeat (first | refine XK.norm rfl rfl ?_ | refine XK.rgnA hT rfl rfl rfl ?_ | refine XK.rgnB hT hm rfl rfl rfl ?_))
      (first | refine XK.out rfl rfl rfl ?_ | refine XK.outN rfl rfl rfl ?_)
      refine cB ?_
      by_cases e1 : p.2 = 0
      · by_cases e2 : q.2 = 0
        · rw [n3 e1 e2]; simp
        · simp [e2]
      · simp [e1]
end Go.Proofs.Ytiiegpjpckkohaa
