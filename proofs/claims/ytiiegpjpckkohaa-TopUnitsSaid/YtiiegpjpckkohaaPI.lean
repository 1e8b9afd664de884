import Derived.Test.YtiiegpjpckkohaaPH
import Derived.Test.YtiiegpjpckkohaaPD
import Derived.Test.YtiiegpjpckkohaaP5
import Derived.Test.YtiiegpjpckkohaaPE
section
/- Contracts: package remedy: claims. -/
namespace Go.Proofs.Ytiiegpjpckkohaa
open Go.Eng
set_option maxRecDepth 10000
set_option linter.unusedSimpArgs false
set_option linter.unusedVariables false
/-- The days of the first i steps. -/
def daysP (l : List Int) (i : Nat) : List Int := (List.range i).map (fun i => daysTo l i)
theorem daysP_len (l : List Int) (i : Nat) : (daysP l i).length = i := by simp [daysP]
theorem daysP_succ (l : List Int) (i : Nat) : daysP l (i + 1) = daysP l i ++ [daysTo l i] := by simp [daysP, List.range_succ]
theorem daysP_get (l : List Int) {i n : Nat} (h : i < n) : (daysP l n).getD i default = daysTo l i := by
  simp [daysP, List.getD_eq_getElem?_getD, List.getElem?_map, h]
def daysL (l : List Int) : List Int := daysP l l.length
theorem claims_ok (k : K) (l : List Int) (n : Nat) (out : Nat → Oc) (by_ to until_ : Int) (hl : l.length ≤ 4000) :
    Does Try.prog 54 [kV k, intsV l, ocsV n out, .c (.int .i64 by_), .c (.int .i64 to), .c (.int .i64 until_)]
      (.fn (.func 76) [] [.rptr [ocsV n out], .rptr (kC k), .rptr [.c (.int .i64 by_)], .rptr [intsV (daysL l)], .rptr [.c (.int .i64 until_)], .rptr [intsV l], .rptr [.c (.int .i64 to)]]) := by
  refine Does.mk (fun d => Nat.beq d 19) TT_ok Try.func54 rfl (by kernel_rfl) Try.ntmps54 rfl rfl fun E hT hE hN hR => ?_
  have hm : E.P.follows .mixedOrders = true := by rw [hE]; kernel_rfl
  (repeat (first | refine XK.norm rfl rfl ?_ | refine XK.rgnA hT rfl rfl rfl ?_ | refine XK.rgnB hT hm rfl rfl rfl ?_))
  refine XK.loop (ι := Nat) (fun i => ST.of [(6, .rptr (kC k)), (7, .rptr [intsV l]), (8, .rptr [ocsV n out]), (9, .rptr [.c (.int .i64 by_)]), (10, .rptr [.c (.int .i64 to)]), (11, .rptr [.c (.int .i64 until_)]), (13, .ptr 49 0), (14, .c (.int .i64 (daysTo l i))), (20, intsV l), (21, .c (.int .i64 l.length)), (22, .c (.int .i64 i))]
      [(49, .cells 22 [.vec 55 0]), (55, intsO (daysP l i))] 1000 36 (fun _ => false))
    (fun i => i ≤ l.length) (fun i => l.length - i) 0 (Nat.zero_le _)
    (Weak.trans (Weak.frozenC (k := 6) hN rfl rfl rfl) (Weak.trans (Weak.frozenC (k := 7) hN rfl rfl rfl) (Weak.trans (Weak.frozenC (k := 8) hN rfl rfl rfl) (Weak.trans (Weak.frozenC (k := 9) hN rfl rfl rfl) (Weak.trans (Weak.frozenC (k := 10) hN rfl rfl rfl) (Weak.trans (Weak.frozenC (k := 11) hN rfl rfl rfl) (Weak.of hN rfl rfl rfl (by (repeat' (first | exact rfl | exact AvIs.refl _ | exact trivial | exact fun _ _ => rfl | exact fun _ _ => ⟨rfl, AvIs.refl _⟩ | refine ⟨?_, ?_⟩))) (by (repeat' (first | exact rfl | exact AvIs.refl _ | exact trivial | exact fun _ _ => rfl | exact fun _ _ => ⟨rfl, AvIs.refl _⟩ | refine ⟨?_, ?_⟩)))))))))) fun i hi => ?_
  have hd := daysTo_le l i
  (repeat (first | refine XK.norm rfl rfl ?_ | refine XK.rgnA hT rfl rfl rfl ?_ | refine XK.rgnB hT hm rfl rfl rfl ?_)); refine XK.cond rfl (fun hlt => ?_) (fun hlt => ?_) <;> (try simp at hlt)
  · have hlen := daysP_len l i
    have fx : l.getD (i : Int).toNat default = l.getD i default := rfl
    (repeat (first | refine XK.norm rfl rfl ?_ | refine XK.rgnA hT rfl rfl rfl ?_ | refine XK.rgnB hT hm rfl rfl rfl ?_))
    rw [fx]
    (repeat (first | refine XK.norm rfl rfl ?_ | refine XK.rgnA hT rfl rfl rfl ?_ | refine XK.rgnB hT hm rfl rfl rfl ?_)); refine XK.cond rfl (fun h5 => ?_) (fun h5 => ?_) <;> (try simp at h5)
    · (repeat (first | refine XK.norm rfl rfl ?_ | refine XK.rgnA hT rfl rfl rfl ?_ | refine XK.rgnB hT hm rfl rfl rfl ?_))
      refine XK.inv ⟨i + 1, hlt, ?_, by omega⟩
      refine Weak.trans (Weak.stamp (k := 55) (t := 0) hN rfl rfl) ?_
      rw [daysP_succ]
      exact Weak.of hN rfl rfl rfl (by (repeat' (first | exact rfl | exact AvIs.refl _ | exact trivial | exact fun _ _ => rfl | exact fun _ _ => ⟨rfl, AvIs.refl _⟩ | exact cI (by omega) | exact (cI (by simp [daysTo, h5])) | refine ⟨?_, ?_⟩))) ⟨by (repeat' (first | exact rfl | exact AvIs.refl _ | exact trivial | exact fun _ _ => rfl | exact fun _ _ => ⟨rfl, AvIs.refl _⟩ | refine ⟨?_, ?_⟩)), ⟨rfl, rfl, rfl⟩, by simp, ints_app (daysP l i) (daysTo l i) _ rfl⟩
    · (repeat (first | refine XK.norm rfl rfl ?_ | refine XK.rgnA hT rfl rfl rfl ?_ | refine XK.rgnB hT hm rfl rfl rfl ?_))
      refine XK.inv ⟨i + 1, hlt, ?_, by omega⟩
      refine Weak.trans (Weak.stamp (k := 55) (t := 0) hN rfl rfl) ?_
      rw [daysP_succ]
      exact Weak.of hN rfl rfl rfl (by (repeat' (first | exact rfl | exact AvIs.refl _ | exact trivial | exact fun _ _ => rfl | exact fun _ _ => ⟨rfl, AvIs.refl _⟩ | exact cI (by omega) | exact (cI (by simp [daysTo, h5])) | refine ⟨?_, ?_⟩))) ⟨by (repeat' (first | exact rfl | exact AvIs.refl _ | exact trivial | exact fun _ _ => rfl | exact fun _ _ => ⟨rfl, AvIs.refl _⟩ | refine ⟨?_, ?_⟩)), ⟨rfl, rfl, rfl⟩, by simp, ints_app (daysP l i) (daysTo l i) _ rfl⟩
  · have hie : i = l.length := by omega
    subst hie
    (repeat (first | refine XK.norm rfl rfl ?_ | refine XK.rgnA hT rfl rfl rfl ?_ | refine XK.rgnB hT hm rfl rfl rfl ?_))
    refine XK.weak (Weak.trans (Weak.frozen (k := 55) hN rfl rfl) (Weak.frozenC (k := 49) hN rfl rfl rfl)) ?_
    (first | refine XK.out rfl rfl rfl ?_ | refine XK.outN rfl rfl rfl ?_)
    rfl
end Go.Proofs.Ytiiegpjpckkohaa
end
section
/- Contracts: package remedy: the claims, one after the other. -/
namespace Go.Proofs.Ytiiegpjpckkohaa
open Go.Eng
set_option maxRecDepth 10000
set_option linter.unusedSimpArgs false
set_option linter.unusedVariables false
/-- What a failed clause leads to. -/
abbrev Clm := A × Int
def claimV (c : Clm) : AV := .agg [.c (.int .i64 c.1.unit), .c (.int .i64 c.1.val.1), .c (.int .i64 c.1.val.2), .c (.int .i64 c.2)]
def claimAt (k : K) (l : List Int) (out : Nat → Oc) (by_ to until_ : Int) (i : Nat) : Option Clm :=
  if (out i).status ≠ 4 ∨ (clAt k i).unit = -1 ∨ (out i).bearer ≠ by_ ∨ until_ ≤ daysTo l ((out i).to - 1).toNat then none
  else if (holdTo k l (clAt k i).to (out i).to.toNat).1 ≠ to then none
  else some (⟨(clAt k i).unit, (clAt k i).value⟩, until_ - daysTo l ((out i).to - 1).toNat - 1)
/-- What the damages are computed with: the parts, the result, its error. -/
abbrev Dm := List Q × A × Int
def ratsO (L : List Q) : Ob := .vec 29 2 L.length L.length (fun i => [.c (.int .i64 (L.getD i default).1), .c (.int .i64 (L.getD i default).2)])
def damO (s : Dm) : List Ob := [.cells 41 [.vec 2 s.1.length], ratsO s.1, .cells 45 [.c (.int .i64 s.2.1.unit), .c (.int .i64 s.2.1.val.1), .c (.int .i64 s.2.1.val.2)], .cells 38 [.c (.int .i64 s.2.2)]]
def damCs (k : K) (t : Tm) : List AV := frL 116 [(6, .rptr (kC k)), (8, .rptr (tmC t)), (12, .ptr 3 0), (13, .ptr 4 0), (16, .ptr 1 0)]
theorem claims1_ok (k : K) (hk : kW k) (t : Tm) (l : List Int) (hc : checkR k l = 0) (n : Nat) (hn : n ≤ k.clauses.length) (out : Nat → Oc) (by_ to until_ : Int) (hu : 0 ≤ until_ ∧ until_ ≤ 10000)
    (hf : ∀ i, i < n → (out i).status = 4 → 1 ≤ (out i).to ∧ (out i).to ≤ l.length) (L b : Nat) (mk : LoopState → Option Code → Array Value → Obj) (mkE : Array Value → Obj) (st : Nat → Dm)
    (h0 : (st 0).2.2 = 0) (hN0 : ∀ i, i < n → claimAt k l out by_ to until_ i = none → st (i + 1) = st i) (hS : ∀ i, (st i).2.2 ≠ 0 → ∀ m, i ≤ m → st m = st i)
    (hY : ∀ i, i < n → ∀ c, claimAt k l out by_ to until_ i = some c → (st i).2.2 = 0 →
      DoesR Try.prog L [claimV c] (.lrec (mk .ready none) b (damCs k t) :: damO (st i)) (.c (.bool (decide ((st (i + 1)).2.2 = 0)))) (.lrec (if (st (i + 1)).2.2 = 0 then mk .ready none else mk .done (some .ret)) b (damCs k t) :: damO (st (i + 1))))
    (hE : (if (st n).2.2 = 0 then mk .ready none else mk .done (some .ret)) = mkE) :
    DoesM Try.prog 76 [.fn (.yield L) [] [], .rptr [ocsV n out], .rptr (kC k), .rptr [.c (.int .i64 by_)], .rptr [intsV (daysL l)], .rptr [.c (.int .i64 until_)], .rptr [intsV l], .rptr [.c (.int .i64 to)]]
      (.lrec (mk .ready none) b (damCs k t) :: damO (st 0)) (.tup []) (.lrec mkE b (damCs k t) :: damO (st n)) := by
  subst hE
  refine DoesM.mk (fun _ => false) 100 TT_ok Try.func76 rfl (by kernel_rfl) Try.ntmps76 rfl rfl rfl fun E hT hE hN hR => ?_
  have hm : E.P.follows .mixedOrders = true := by rw [hE]; kernel_rfl
  obtain ⟨h2, h3, h4, -⟩ := checkR_ok hk hc
  have hF := h2.facts
  have hnc := hF.nc
  (repeat (first | refine XK.norm rfl rfl ?_ | refine XK.rgnA hT rfl rfl rfl ?_ | refine XK.rgnB hT hm rfl rfl rfl ?_))
  refine XK.loop (ι := Nat) (fun i => ST.of [(0, .fn (.yield L) [] []), (2, .rptr (kC k)), (3, .rptr [.c (.int .i64 by_)]), (4, .rptr [intsV (daysL l)]), (5, .rptr [.c (.int .i64 until_)]), (6, .rptr [intsV l]), (7, .rptr [.c (.int .i64 to)]), (15, ocsV n out), (16, .c (.int .i64 n)), (17, .c (.int .i64 i))]
      [(0, .lrec (mk .ready none) b (damCs k t)), (1, .cells 41 [.vec 2 (st i).1.length]), (2, ratsO (st i).1), (3, .cells 45 [.c (.int .i64 (st i).2.1.unit), .c (.int .i64 (st i).2.1.val.1), .c (.int .i64 (st i).2.1.val.2)]), (4, .cells 38 [.c (.int .i64 (st i).2.2)])] 1000 88 (fun _ => false))
    (fun i => i ≤ n ∧ (st i).2.2 = 0) (fun i => n - i) 0 ⟨Nat.zero_le _, h0⟩
    (Weak.of hN rfl rfl rfl (by (repeat' (first | exact rfl | exact AvIs.refl _ | exact trivial | exact fun _ _ => rfl | exact fun _ _ => ⟨rfl, AvIs.refl _⟩ | refine ⟨?_, ?_⟩))) (by (repeat' (first | exact rfl | exact AvIs.refl _ | exact trivial | exact fun _ _ => rfl | exact fun _ _ => ⟨rfl, AvIs.refl _⟩ | refine ⟨?_, ?_⟩)))) fun i hi => ?_
  obtain ⟨hi, hst⟩ := hi
  (repeat (first | refine XK.norm rfl rfl ?_ | refine XK.rgnA hT rfl rfl rfl ?_ | refine XK.rgnB hT hm rfl rfl rfl ?_)); refine XK.cond rfl (fun hlt => ?_) (fun hlt => ?_) <;> (try simp at hlt)
  · have hfi := hf i hlt
    have hY := hY i hlt
    have hN0 := hN0 i hlt
    have fo : out (i : Int).toNat = out i := rfl
    have fc : k.clauses.getD (i : Int).toNat default = clAt k i := rfl
    have hcl := hF.clB (i := i) (by omega)
    have hlen := daysP_len l l.length
    (repeat (first | refine XK.norm rfl rfl ?_ | refine XK.rgnA hT rfl rfl rfl ?_ | refine XK.rgnB hT hm rfl rfl rfl ?_))
    rw [fo, fc]
    have hca : claimAt k l out by_ to until_ i = if (out i).status ≠ 4 ∨ (clAt k i).unit = -1 ∨ (out i).bearer ≠ by_ ∨ until_ ≤ daysTo l ((out i).to - 1).toNat then none
      else if (holdTo k l (clAt k i).to (out i).to.toNat).1 ≠ to then none
      else some (⟨(clAt k i).unit, (clAt k i).value⟩, until_ - daysTo l ((out i).to - 1).toNat - 1) := rfl
    generalize claimAt k l out by_ to until_ i = cm at *
    generalize out i = o at *
    generalize clAt k i = x at *
    have hlen2 : (daysL l).length = l.length := hlen
    have hto : o.status = 4 → 0 ≤ o.to - 1 ∧ o.to - 1 < (daysL l).length := fun h => by have := hfi h; omega
    have hkey : o.status = 4 → (daysL l).getD (o.to - 1).toNat default = daysTo l (o.to - 1).toNat := fun h => daysP_get l (by have := hfi h; omega)
    (repeat (first | refine XK.norm rfl rfl ?_ | refine XK.rgnA hT rfl rfl rfl ?_ | refine XK.rgnB hT hm rfl rfl rfl ?_)); refine XK.cond rfl (fun hb => ?_) (fun hb => ?_)
    · have hb : o.status ≠ 4 ∨ x.unit = -1 ∨ o.bearer ≠ by_ ∨ until_ ≤ daysTo l (o.to - 1).toNat := by
        by_cases h4 : o.status = 4
        · rw [hkey h4] at hb
          simp only [Bool.or_eq_true, bne_iff_ne, beq_iff_eq, decide_eq_true_eq] at hb
          rcases hb with ((hb | hb) | hb) | hb
          · exact .inl hb
          · exact .inr (.inl hb)
          · exact .inr (.inr (.inl hb))
          · exact .inr (.inr (.inr hb))
        · exact .inl h4
      rw [if_pos hb] at hca
      (repeat (first | refine XK.norm rfl rfl ?_ | refine XK.rgnA hT rfl rfl rfl ?_ | refine XK.rgnB hT hm rfl rfl rfl ?_))
      refine XK.inv ⟨i + 1, ⟨hlt, by rw [hN0 hca]; exact hst⟩, ?_, by omega⟩
      rw [hN0 hca]
      exact (Weak.of hN rfl rfl rfl (by (repeat' (first | exact rfl | exact AvIs.refl _ | exact trivial | exact fun _ _ => rfl | exact fun _ _ => ⟨rfl, AvIs.refl _⟩ | refine ⟨?_, ?_⟩))) (by (repeat' (first | exact rfl | exact AvIs.refl _ | exact trivial | exact fun _ _ => rfl | exact fun _ _ => ⟨rfl, AvIs.refl _⟩ | refine ⟨?_, ?_⟩))))
    · have hb : ¬ (o.status ≠ 4 ∨ x.unit = -1 ∨ o.bearer ≠ by_ ∨ until_ ≤ daysTo l (o.to - 1).toNat) := by
        simp only [Bool.or_eq_false_iff, bne_eq_false_iff_eq, beq_eq_false_iff_ne, decide_eq_false_iff_not] at hb
        obtain ⟨⟨⟨hb1, hb2⟩, hb3⟩, hb4⟩ := hb
        rw [hkey hb1] at hb4
        rintro (h | h | h | h)
        · exact h hb1
        · exact hb2 h
        · exact h hb3
        · exact hb4 h
      rw [if_neg hb] at hca
      have h4 : o.status = 4 := Decidable.not_not.1 fun h => hb (.inl h)
      have h5 : x.unit ≠ -1 := fun h => hb (.inr (.inl h))
      have hfo := hfi h4
      have hkey := hkey h4
      have hrole : 0 ≤ x.to ∧ x.to < k.holders.length := by
        rcases hcl.2.2.2.2.2.2 with h | h
        · exact absurd h.1 h5
        · have := h.2.2.2.2.2
          simpa [movB] using this
      obtain ⟨r, hr⟩ := Int.eq_ofNat_of_zero_le hrole.1
      obtain ⟨m, hm2⟩ := Int.eq_ofNat_of_zero_le (show 0 ≤ o.to by omega)
      have hho : Does Try.prog 36 [kV k, intsV l, .c (.int .i64 x.to), .c (.int .i64 o.to)] (.tup [.c (.int .i64 (holdTo k l x.to o.to.toNat).1), .c (.int .i64 0)]) := by
        have := holder_ok k hk l x.to o.to
        rw [hr, hm2, holderR_at hc (by omega) (by omega)] at this
        rw [hr, hm2]
        exact this
      have hdd := daysTo_le l (o.to - 1).toNat
      generalize (holdTo k l x.to o.to.toNat).1 = hld at *
      (repeat (first | refine XK.norm rfl rfl ?_ | refine XK.rgnA hT rfl rfl rfl ?_ | refine XK.rgnB hT hm rfl rfl rfl ?_)); refine XK.region ?_; refine XL.goA hT rfl rfl rfl rfl ?_
      refine XL.callLA hE rfl rfl rfl rfl trivial rfl (hho) rfl ?_
      refine XL.goA hT rfl rfl rfl rfl ?_; refine XL.fin ?_; (repeat (first | refine XK.norm rfl rfl ?_ | refine XK.rgnA hT rfl rfl rfl ?_ | refine XK.rgnB hT hm rfl rfl rfl ?_))
      (repeat (first | refine XK.norm rfl rfl ?_ | refine XK.rgnA hT rfl rfl rfl ?_ | refine XK.rgnB hT hm rfl rfl rfl ?_)); refine XK.cond rfl (fun h6 => ?_) (fun h6 => ?_)
      · have h6 : hld ≠ to := by simpa using h6
        rw [if_pos h6] at hca
        (repeat (first | refine XK.norm rfl rfl ?_ | refine XK.rgnA hT rfl rfl rfl ?_ | refine XK.rgnB hT hm rfl rfl rfl ?_))
        refine XK.inv ⟨i + 1, ⟨hlt, by rw [hN0 hca]; exact hst⟩, ?_, by omega⟩
        rw [hN0 hca]
        exact (Weak.of hN rfl rfl rfl (by (repeat' (first | exact rfl | exact AvIs.refl _ | exact trivial | exact fun _ _ => rfl | exact fun _ _ => ⟨rfl, AvIs.refl _⟩ | refine ⟨?_, ?_⟩))) (by (repeat' (first | exact rfl | exact AvIs.refl _ | exact trivial | exact fun _ _ => rfl | exact fun _ _ => ⟨rfl, AvIs.refl _⟩ | refine ⟨?_, ?_⟩))))
      · have h6 : ¬ hld ≠ to := by simpa using h6
        rw [if_neg h6] at hca
        have hY := hY _ hca hst
        (repeat (first | refine XK.norm rfl rfl ?_ | refine XK.rgnA hT rfl rfl rfl ?_ | refine XK.rgnB hT hm rfl rfl rfl ?_))
        refine XK.drawn hm ?_
        refine XD.go hT rfl rfl rfl rfl ?_ ?_
        · simp only [AllP, impG, inK, hkey]
          omega
        rw [hkey]
        ((refine XD.yieldM [0, 1, 2, 3, 4] hE rfl rfl rfl rfl trivial (hY) rfl ?_ rfl ?_ rfl rfl rfl ?_); (focus (repeat' (first | exact rfl | exact AvIs.refl _ | exact trivial | (intro i hi; rfl) | exact fun _ _ => ⟨rfl, AvIs.refl _⟩ | (intro i hi; rcases i with _ | _ | _ | _ | _ | _ | _ | i <;> first | rfl | exact absurd hi (by simp; done) | (simp at hi; omega)) | refine ⟨?_, ?_⟩))); (focus (repeat' (first | exact rfl | exact AvIs.refl _ | exact trivial | (intro i hi; rfl) | exact fun _ _ => ⟨rfl, AvIs.refl _⟩ | (intro i hi; rcases i with _ | _ | _ | _ | _ | _ | _ | i <;> first | rfl | exact absurd hi (by simp; done) | (simp at hi; omega)) | refine ⟨?_, ?_⟩))))
        refine XD.goA hT rfl rfl rfl rfl ?_; refine XD.fin (by kernel_rfl) ?_; (repeat (first | refine XK.norm rfl rfl ?_ | refine XK.rgnA hT rfl rfl rfl ?_ | refine XK.rgnB hT hm rfl rfl rfl ?_))
        (repeat (first | refine XK.norm rfl rfl ?_ | refine XK.rgnA hT rfl rfl rfl ?_ | refine XK.rgnB hT hm rfl rfl rfl ?_)); refine XK.cond rfl (fun h7 => ?_) (fun h7 => ?_)
        · have h7 : (st (i + 1)).2.2 ≠ 0 := by simpa using h7
          have hlast := hS (i + 1) h7 n hlt
          rw [hlast, if_neg h7]
          (repeat (first | refine XK.norm rfl rfl ?_ | refine XK.rgnA hT rfl rfl rfl ?_ | refine XK.rgnB hT hm rfl rfl rfl ?_))
          (first | refine XK.outR [0, 1, 2, 3, 4] hN rfl rfl rfl ?_ rfl rfl ?_ | refine XK.outRN [0, 1, 2, 3, 4] hN rfl rfl rfl ?_ rfl rfl ?_)
          · (repeat' (first | exact rfl | exact AvIs.refl _ | exact trivial | exact fun _ _ => rfl | exact fun _ _ => ⟨rfl, AvIs.refl _⟩ | refine ⟨?_, ?_⟩))
          · (repeat' (first | exact rfl | exact AvIs.refl _ | exact trivial | exact fun _ _ => rfl | exact fun _ _ => ⟨rfl, AvIs.refl _⟩ | refine ⟨?_, ?_⟩))
        · have h7 : (st (i + 1)).2.2 = 0 := by simpa using h7
          rw [if_pos h7]
          (repeat (first | refine XK.norm rfl rfl ?_ | refine XK.rgnA hT rfl rfl rfl ?_ | refine XK.rgnB hT hm rfl rfl rfl ?_))
          exact XK.inv ⟨i + 1, ⟨hlt, h7⟩, (Weak.of hN rfl rfl rfl (by (repeat' (first | exact rfl | exact AvIs.refl _ | exact trivial | exact fun _ _ => rfl | exact fun _ _ => ⟨rfl, AvIs.refl _⟩ | refine ⟨?_, ?_⟩))) (by (repeat' (first | exact rfl | exact AvIs.refl _ | exact trivial | exact fun _ _ => rfl | exact fun _ _ => ⟨rfl, AvIs.refl _⟩ | refine ⟨?_, ?_⟩)))), by omega⟩
  · have hie : i = n := by omega
    subst hie
    rw [if_pos hst]
    (repeat (first | refine XK.norm rfl rfl ?_ | refine XK.rgnA hT rfl rfl rfl ?_ | refine XK.rgnB hT hm rfl rfl rfl ?_))
    (first | refine XK.outR [0, 1, 2, 3, 4] hN rfl rfl rfl ?_ rfl rfl ?_ | refine XK.outRN [0, 1, 2, 3, 4] hN rfl rfl rfl ?_ rfl rfl ?_)
    · (repeat' (first | exact rfl | exact AvIs.refl _ | exact trivial | exact fun _ _ => rfl | exact fun _ _ => ⟨rfl, AvIs.refl _⟩ | refine ⟨?_, ?_⟩))
    · (repeat' (first | exact rfl | exact AvIs.refl _ | exact trivial | exact fun _ _ => rfl | exact fun _ _ => ⟨rfl, AvIs.refl _⟩ | refine ⟨?_, ?_⟩))
end Go.Proofs.Ytiiegpjpckkohaa
end
