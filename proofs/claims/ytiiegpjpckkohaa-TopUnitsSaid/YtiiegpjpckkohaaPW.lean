import Derived.Test.YtiiegpjpckkohaaPV
import Derived.Test.YtiiegpjpckkohaaPG
section
/- Contracts: package netting: Positions. -/
namespace Go.Proofs.Ytiiegpjpckkohaa
open Go.Eng
set_option maxRecDepth 10000
set_option linter.unusedSimpArgs false
set_option linter.unusedVariables false
def posR (l : Nat → Db) (n : Nat) (p : Nat) : Q × Int := totT (sgnP p) l n
theorem dbB_ok {parties : Int} {d : Db} (h : dbB parties d = true) : (0 ≤ d.from_ ∧ d.from_ < parties) ∧ (0 ≤ d.to ∧ d.to < parties) ∧ d.from_ ≠ d.to ∧ qOk d.amt = true ∧ 0 < d.amt.1 := by
  simp [dbB] at h
  refine ⟨?_, ?_, h.1.2, h.2.1, ?_⟩ <;> omega
/-- The error of the first positions. -/
def posE (l : Nat → Db) (n : Nat) : Nat → Int
  | 0 => 0
  | p + 1 => if posE l n p ≠ 0 then posE l n p else (posR l n p).2
theorem posE_stop {l : Nat → Db} {n p : Nat} (h : posE l n p ≠ 0) : ∀ m, p ≤ m → posE l n m = posE l n p := by
  intro m hm
  induction m with
  | zero => have : p = 0 := by omega
            rw [this]
  | succ m ih =>
    by_cases h1 : p = m + 1
    · rw [h1]
    · have h2 := ih (by omega)
      simp only [posE]
      rw [if_pos (by rw [h2]; exact h), h2]
noncomputable def positionsR (parties : Nat) (l : Nat → Db) (n : Nat) : (Nat → Q) × Int :=
  if netB parties n l = false then (fun _ => (0, 0), 1) else (fun p => (posR l n p).1, posE l n parties)
theorem positions_ok (parties : Nat) (n : Nat) (l : Nat → Db) (hl : ∀ i, i < n → dbW (l i)) : Does Try.prog 21 [.c (.int .i64 parties), dbsV n l] (sumsV parties (positionsR parties l n)) := by
  refine Does.mk (fun d => Nat.beq d 15) TT_ok Try.func21 rfl (by kernel_rfl) Try.ntmps21 rfl rfl fun E hT hE hN hR => ?_
  have hm : E.P.follows .mixedOrders = true := by rw [hE]; kernel_rfl
  (repeat (first | refine XK.norm rfl rfl ?_ | refine XK.rgnA hT rfl rfl rfl ?_ | refine XK.rgnB hT hm rfl rfl rfl ?_)); refine XK.region ?_; refine XL.goA hT rfl rfl rfl rfl ?_
  refine XL.callLA hE rfl rfl rfl rfl trivial rfl (netValid_ok parties n l hl) rfl ?_
  refine XL.goA hT rfl rfl rfl rfl ?_; refine XL.fin ?_; (repeat (first | refine XK.norm rfl rfl ?_ | refine XK.rgnA hT rfl rfl rfl ?_ | refine XK.rgnB hT hm rfl rfl rfl ?_))
  (repeat (first | refine XK.norm rfl rfl ?_ | refine XK.rgnA hT rfl rfl rfl ?_ | refine XK.rgnB hT hm rfl rfl rfl ?_)); refine XK.cond rfl (fun h1 => ?_) (fun h1 => ?_) <;> (try simp at h1)
  · (repeat (first | refine XK.norm rfl rfl ?_ | refine XK.rgnA hT rfl rfl rfl ?_ | refine XK.rgnB hT hm rfl rfl rfl ?_))
    (first | refine XK.outL rfl rfl rfl ?_ | refine XK.outLN rfl rfl rfl ?_)
    rw [positionsR, if_pos h1]
    exact sumsV_err rfl (by decide)
  · rw [positionsR, if_neg (by rw [h1]; simp)]
    obtain ⟨⟨hp, hn⟩, hdb⟩ := netB_true.1 h1
    (repeat (first | refine XK.norm rfl rfl ?_ | refine XK.rgnA hT rfl rfl rfl ?_ | refine XK.rgnB hT hm rfl rfl rfl ?_))
    refine XK.loop (ι := Nat) (fun p => ST.of [(1, dbsV n l), (6, .vec 85 0), (16, .c (.int .i64 parties)), (17, .c (.int .i64 p))] [(85, .vec 29 2 0 p (fun j => qc (posR l n j).1))] 1000 35 (fun _ => false))
      (fun p => p ≤ parties ∧ posE l n p = 0) (fun p => parties - p) 0 ⟨Nat.zero_le _, rfl⟩ (Weak.of hN rfl rfl rfl (by (repeat' (first | exact rfl | exact AvIs.refl _ | exact trivial | exact fun _ _ => rfl | exact fun _ _ => ⟨rfl, AvIs.refl _⟩ | refine ⟨?_, ?_⟩))) ⟨⟨rfl, rfl, rfl⟩, rfl, fun j hj => absurd hj (Nat.not_lt_zero _)⟩) fun p hp2 => ?_
    obtain ⟨hp1, hp3⟩ := hp2
    (repeat (first | refine XK.norm rfl rfl ?_ | refine XK.rgnA hT rfl rfl rfl ?_ | refine XK.rgnB hT hm rfl rfl rfl ?_)); refine XK.cond rfl (fun hlt => ?_) (fun hlt => ?_) <;> (try simp at hlt)
    · have ht := total1_ok n l (sgnP p) 49 [.c (.int .i64 p)] (fun d => by unfold sgnP; split; (· omega); (· split <;> omega)) (fun i hi => (dbB_ok (hdb i hi)).2.2.2.1) (fun d => signP_ok p d)
      have hE1 : posE l n (p + 1) = (posR l n p).2 := by simp only [posE, hp3, ne_eq, not_true_eq_false, if_false]
      have hlast := fun h => posE_stop (l := l) (n := n) (p := p + 1) h parties hlt
      have hpr : posR l n p = totT (sgnP p) l n := rfl
      rw [← hpr] at ht
      generalize hP : posR l n p = P at *
      (repeat (first | refine XK.norm rfl rfl ?_ | refine XK.rgnA hT rfl rfl rfl ?_ | refine XK.rgnB hT hm rfl rfl rfl ?_)); refine XK.region ?_; refine XL.goA hT rfl rfl rfl rfl ?_
      refine XL.callLA hE rfl rfl rfl rfl trivial rfl (ht) rfl ?_
      refine XL.goA hT rfl rfl rfl rfl ?_; refine XL.fin ?_; (repeat (first | refine XK.norm rfl rfl ?_ | refine XK.rgnA hT rfl rfl rfl ?_ | refine XK.rgnB hT hm rfl rfl rfl ?_))
      (repeat (first | refine XK.norm rfl rfl ?_ | refine XK.rgnA hT rfl rfl rfl ?_ | refine XK.rgnB hT hm rfl rfl rfl ?_)); refine XK.cond rfl (fun h2 => ?_) (fun h2 => ?_) <;> (try simp at h2)
      · (repeat (first | refine XK.norm rfl rfl ?_ | refine XK.rgnA hT rfl rfl rfl ?_ | refine XK.rgnB hT hm rfl rfl rfl ?_))
        (first | refine XK.outL rfl rfl rfl ?_ | refine XK.outLN rfl rfl rfl ?_)
        exact sumsV_err (by show posE l n parties = _; rw [hlast (by rw [hE1]; exact h2), hE1]) h2
      · (repeat (first | refine XK.norm rfl rfl ?_ | refine XK.rgnA hT rfl rfl rfl ?_ | refine XK.rgnB hT hm rfl rfl rfl ?_))
        refine XK.inv ⟨p + 1, ⟨hlt, by rw [hE1]; exact h2⟩, Weak.trans (Weak.stamp (k := 85) (t := 0) hN rfl rfl) (Weak.of hN rfl rfl rfl (by (repeat' (first | exact rfl | exact AvIs.refl _ | exact trivial | exact fun _ _ => rfl | exact fun _ _ => ⟨rfl, AvIs.refl _⟩ | refine ⟨?_, ?_⟩))) ⟨⟨rfl, rfl, rfl⟩, rfl, fun j hj => (catF_one (g := fun j => qc (posR l n j).1) (by rw [hP]; rfl) (fun j hj => rfl) j hj).symm⟩), by omega⟩
    · have hpp : p = parties := by omega
      subst hpp
      refine XK.weak (Weak.trans (Weak.frozen (k := 85) hN rfl rfl) (Weak.of (L := [(6, ratV p (fun j => (posR l n j).1))]) (O := []) (nx := 1000) (nt := 35) (md := fun _ => false) hN rfl rfl rfl (by (repeat' (first | exact rfl | exact AvIs.refl _ | exact trivial | exact fun _ _ => rfl | exact fun _ _ => ⟨rfl, AvIs.refl _⟩ | refine ⟨?_, ?_⟩))) trivial)) ?_
      (repeat (first | refine XK.norm rfl rfl ?_ | refine XK.rgnA hT rfl rfl rfl ?_ | refine XK.rgnB hT hm rfl rfl rfl ?_))
      (first | refine XK.outL rfl rfl rfl ?_ | refine XK.outLN rfl rfl rfl ?_)
      exact sumsV_ok hp3 (fun i => rfl)
end Go.Proofs.Ytiiegpjpckkohaa
end
section
/- Contracts: the law's own w09Between. -/
namespace Go.Proofs.Ytiiegpjpckkohaa
open Go.Eng
set_option maxRecDepth 10000
set_option linter.unusedSimpArgs false
set_option linter.unusedVariables false
/-- The sum of the debts from one party to another, less those back. -/
def betT (p q : Int) (l : Nat → Db) : Nat → Q × Int
  | 0 => ((0, 1), 0)
  | i + 1 => if (betT p q l i).2 ≠ 0 then betT p q l i else if (l i).from_ = p ∧ (l i).to = q then addR (betT p q l i).1 (l i).amt
      else if (l i).from_ = q ∧ (l i).to = p then subR (betT p q l i).1 (l i).amt else betT p q l i
theorem betT_W (p q : Int) (l : Nat → Db) : ∀ i, qW (betT p q l i).1
  | 0 => ⟨by simp [betT, inK], by simp [betT, inK]⟩
  | i + 1 => by
    simp only [betT]
    split
    · exact betT_W p q l i
    · split
      · exact addR_W _ _
      · split
        · exact subR_W _ _
        · exact betT_W p q l i
theorem betT_stop {p q : Int} {l : Nat → Db} {i : Nat} (h : (betT p q l i).2 ≠ 0) : ∀ m, i ≤ m → betT p q l m = betT p q l i := by
  intro m hm
  induction m with
  | zero => have : i = 0 := by omega
            rw [this]
  | succ m ih =>
    by_cases h1 : i = m + 1
    · rw [h1]
    · have h2 := ih (by omega)
      simp only [betT]
      rw [if_pos (by rw [h2]; exact h), h2]
theorem between_ok (n : Nat) (l : Nat → Db) (p q : Int) (hl : ∀ i, i < n → dbW (l i)) : Does Try.prog 23 [dbsV n l, .c (.int .i64 p), .c (.int .i64 q)] (.tup [qv (betT p q l n).1, .c (.bool (decide ((betT p q l n).2 = 0)))]) := by
  refine Does.mk (fun _ => false) TT_ok Try.func23 rfl (by kernel_rfl) Try.ntmps23 rfl rfl fun E hT hE hN hR => ?_
  have hm : E.P.follows .mixedOrders = true := by rw [hE]; kernel_rfl
  refine XK.fact (Sat.rs_len (j := 0) rfl) fun hlen => ?_
  have hm' := hlen.1
  (repeat (first | refine XK.norm rfl rfl ?_ | refine XK.rgnA hT rfl rfl rfl ?_ | refine XK.rgnB hT hm rfl rfl rfl ?_))
  refine XK.loop (ι := Nat) (fun i => ST.of [(0, dbsV n l), (1, .c (.int .i64 p)), (2, .c (.int .i64 q)), (6, .ptr 6 0), (8, .ptr 85 0), (9, .c (.int .i64 (betT p q l i).2)), (10, .c (.int .i64 i))] [(6, .cells 29 [.c (.int .i64 0), .c (.int .i64 0)]), (85, .cells 29 (qc (betT p q l i).1))] 1000 77 (fun _ => false))
    (fun i => i ≤ n) (fun i => n - i) 0 (Nat.zero_le _) (Weak.of hN rfl rfl rfl (by (repeat' (first | exact rfl | exact AvIs.refl _ | exact trivial | exact fun _ _ => rfl | exact fun _ _ => ⟨rfl, AvIs.refl _⟩ | refine ⟨?_, ?_⟩))) (by (repeat' (first | exact rfl | exact AvIs.refl _ | exact trivial | exact fun _ _ => rfl | exact fun _ _ => ⟨rfl, AvIs.refl _⟩ | refine ⟨?_, ?_⟩)))) fun i hi => ?_
  have hlast := fun h => betT_stop (p := p) (q := q) (l := l) (i := i) h n hi
  have hB : (betT p q l i).2 = 0 → betT p q l (i + 1) = if (l i).from_ = p ∧ (l i).to = q then addR (betT p q l i).1 (l i).amt else if (l i).from_ = q ∧ (l i).to = p then subR (betT p q l i).1 (l i).amt else betT p q l i := fun h => by
    simp only [betT, h, ne_eq, not_true_eq_false, if_false]
  have wB := betT_W p q l i
  generalize hbt : betT p q l i = bt at *
  (repeat (first | refine XK.norm rfl rfl ?_ | refine XK.rgnA hT rfl rfl rfl ?_ | refine XK.rgnB hT hm rfl rfl rfl ?_)); refine XK.cond rfl (fun hlt => ?_) (fun hlt => ?_)
  · obtain ⟨hlt, he⟩ : i < n ∧ bt.2 = 0 := by simpa using hlt
    have hB := hB he
    have fi : l (i : Int).toNat = l i := rfl
    have hw := (hl i hlt).2.2
    have ad := add_ok bt.1 (l i).amt wB hw
    have sb := sub_ok bt.1 (l i).amt wB hw
    generalize addR bt.1 (l i).amt = x at *
    generalize subR bt.1 (l i).amt = y at *
    (repeat (first | refine XK.norm rfl rfl ?_ | refine XK.rgnA hT rfl rfl rfl ?_ | refine XK.rgnB hT hm rfl rfl rfl ?_)); refine XK.cond rfl (fun h1 => ?_) (fun h1 => ?_)
    · rw [fi] at h1
      rw [if_pos (by simpa using h1)] at hB
      (repeat (first | refine XK.norm rfl rfl ?_ | refine XK.rgnA hT rfl rfl rfl ?_ | refine XK.rgnB hT hm rfl rfl rfl ?_)); refine XK.drawn hm ?_; refine XD.goA hT rfl rfl rfl rfl ?_
      refine XD.callLA hE rfl rfl rfl rfl trivial rfl (ad) rfl ?_
      refine XD.goA hT rfl rfl rfl rfl ?_; refine XD.fin (by kernel_rfl) ?_; (repeat (first | refine XK.norm rfl rfl ?_ | refine XK.rgnA hT rfl rfl rfl ?_ | refine XK.rgnB hT hm rfl rfl rfl ?_))
      (repeat (first | refine XK.norm rfl rfl ?_ | refine XK.rgnA hT rfl rfl rfl ?_ | refine XK.rgnB hT hm rfl rfl rfl ?_))
      refine XK.inv ⟨i + 1, hlt, ?_, by omega⟩
      rw [hB]
      exact (Weak.of hN rfl rfl rfl (by (repeat' (first | exact rfl | exact AvIs.refl _ | exact trivial | exact fun _ _ => rfl | exact fun _ _ => ⟨rfl, AvIs.refl _⟩ | refine ⟨?_, ?_⟩))) (by (repeat' (first | exact rfl | exact AvIs.refl _ | exact trivial | exact fun _ _ => rfl | exact fun _ _ => ⟨rfl, AvIs.refl _⟩ | refine ⟨?_, ?_⟩))))
    · rw [fi] at h1
      rw [if_neg (by simpa using h1)] at hB
      (repeat (first | refine XK.norm rfl rfl ?_ | refine XK.rgnA hT rfl rfl rfl ?_ | refine XK.rgnB hT hm rfl rfl rfl ?_)); refine XK.cond rfl (fun h2 => ?_) (fun h2 => ?_)
      · rw [fi] at h2
        rw [if_pos (by simpa using h2)] at hB
        (repeat (first | refine XK.norm rfl rfl ?_ | refine XK.rgnA hT rfl rfl rfl ?_ | refine XK.rgnB hT hm rfl rfl rfl ?_)); refine XK.drawn hm ?_; refine XD.goA hT rfl rfl rfl rfl ?_
        refine XD.callLA hE rfl rfl rfl rfl trivial rfl (sb) rfl ?_
        refine XD.goA hT rfl rfl rfl rfl ?_; refine XD.fin (by kernel_rfl) ?_; (repeat (first | refine XK.norm rfl rfl ?_ | refine XK.rgnA hT rfl rfl rfl ?_ | refine XK.rgnB hT hm rfl rfl rfl ?_))
        (repeat (first | refine XK.norm rfl rfl ?_ | refine XK.rgnA hT rfl rfl rfl ?_ | refine XK.rgnB hT hm rfl rfl rfl ?_))
        refine XK.inv ⟨i + 1, hlt, ?_, by omega⟩
        rw [hB]
        exact (Weak.of hN rfl rfl rfl (by (repeat' (first | exact rfl | exact AvIs.refl _ | exact trivial | exact fun _ _ => rfl | exact fun _ _ => ⟨rfl, AvIs.refl _⟩ | refine ⟨?_, ?_⟩))) (by (repeat' (first | exact rfl | exact AvIs.refl _ | exact trivial | exact fun _ _ => rfl | exact fun _ _ => ⟨rfl, AvIs.refl _⟩ | refine ⟨?_, ?_⟩))))
      · rw [fi] at h2
        rw [if_neg (by simpa using h2)] at hB
        (repeat (first | refine XK.norm rfl rfl ?_ | refine XK.rgnA hT rfl rfl rfl ?_ | refine XK.rgnB hT hm rfl rfl rfl ?_))
        refine XK.inv ⟨i + 1, hlt, ?_, by omega⟩
        rw [hB]
        exact (Weak.of hN rfl rfl rfl (by (repeat' (first | exact rfl | exact AvIs.refl _ | exact trivial | exact fun _ _ => rfl | exact fun _ _ => ⟨rfl, AvIs.refl _⟩ | refine ⟨?_, ?_⟩))) (by (repeat' (first | exact rfl | exact AvIs.refl _ | exact trivial | exact fun _ _ => rfl | exact fun _ _ => ⟨rfl, AvIs.refl _⟩ | refine ⟨?_, ?_⟩))))
  · have hend : betT p q l n = bt := by
      by_cases he : bt.2 = 0
      · have hin : i = n := by simp [he] at hlt; omega
        rw [← hin]; exact hbt
      · exact hlast he
    (repeat (first | refine XK.norm rfl rfl ?_ | refine XK.rgnA hT rfl rfl rfl ?_ | refine XK.rgnB hT hm rfl rfl rfl ?_))
    (first | refine XK.out rfl rfl rfl ?_ | refine XK.outN rfl rfl rfl ?_)
    rw [hend]
    simp [qv]
    rw [Bool.eq_iff_iff]
    simp
end Go.Proofs.Ytiiegpjpckkohaa
end
section
/- Contracts: the law's own w09Debts. -/
namespace Go.Proofs.Ytiiegpjpckkohaa
open Go.Eng
set_option maxRecDepth 10000
set_option linter.unusedSimpArgs false
set_option linter.unusedVariables false
/-- The debts from party p, appended to those before; false: an error. -/
noncomputable def rowT (k : K) (l : List Int) (t : Tm) (u : Int) (p : Nat) (s : List Db × Bool) : Nat → List Db × Bool
  | 0 => s
  | q + 1 => if (rowT k l t u p s q).2 = false then rowT k l t u p s q else if p = q then rowT k l t u p s q else if (damagesR k l t p q u).2 ≠ 0 then ([], false)
      else if (damagesR k l t p q u).1.val.1 ≠ 0 then ((rowT k l t u p s q).1 ++ [⟨p, q, (damagesR k l t p q u).1.val⟩], true) else rowT k l t u p s q
noncomputable def debT (k : K) (l : List Int) (t : Tm) (u : Int) (P : Nat) : Nat → List Db × Bool
  | 0 => ([], true)
  | p + 1 => if (debT k l t u P p).2 = false then debT k l t u P p else rowT k l t u p (debT k l t u P p) P
theorem rowT_stop {k : K} {l : List Int} {t : Tm} {u : Int} {p : Nat} {s : List Db × Bool} {q : Nat} (h : (rowT k l t u p s q).2 = false) : ∀ m, q ≤ m → rowT k l t u p s m = rowT k l t u p s q := by
  intro m hm
  induction m with
  | zero => have : q = 0 := by omega
            rw [this]
  | succ m ih =>
    by_cases h1 : q = m + 1
    · rw [h1]
    · have h2 := ih (by omega)
      simp only [rowT]
      rw [if_pos (by rw [h2]; exact h), h2]
theorem debT_stop {k : K} {l : List Int} {t : Tm} {u : Int} {P p : Nat} (h : (debT k l t u P p).2 = false) : ∀ m, p ≤ m → debT k l t u P m = debT k l t u P p := by
  intro m hm
  induction m with
  | zero => have : p = 0 := by omega
            rw [this]
  | succ m ih =>
    by_cases h1 : p = m + 1
    · rw [h1]
    · have h2 := ih (by omega)
      simp only [debT]
      rw [if_pos (by rw [h2]; exact h), h2]
theorem rowT_len (k : K) (l : List Int) (t : Tm) (u : Int) (p : Nat) (s : List Db × Bool) : ∀ q, (rowT k l t u p s q).1.length ≤ s.1.length + q
  | 0 => Nat.le_refl _
  | q + 1 => by
    have ih := rowT_len k l t u p s q
    simp only [rowT]
    split
    · omega
    · split
      · omega
      · split
        · simp
        · split
          · simp; omega
          · omega
theorem debT_len (k : K) (l : List Int) (t : Tm) (u : Int) (P : Nat) : ∀ p, (debT k l t u P p).1.length ≤ p * P
  | 0 => by simp [debT]
  | p + 1 => by
    have ih := debT_len k l t u P p
    have e : (p + 1) * P = p * P + P := by rw [Nat.add_mul, Nat.one_mul]
    simp only [debT]
    split
    · omega
    · have := rowT_len k l t u p (debT k l t u P p) P
      omega
def dbRow (L : List Db) : Ob := .vec 83 4 0 L.length (fun i => dbC (L.getD i default))
theorem debts_ok (k : K) (hk : kW k) (l : List Int) (t : Tm) (ht : tmW t) (u : Int) (hp : k.parties ≤ 12) : Does Try.prog 17 [kV k, intsV l, tmV t, .c (.int .i64 u)] (.tup [dbsV (debT k l t u k.parties.toNat k.parties.toNat).1.length (fun i => (debT k l t u k.parties.toNat k.parties.toNat).1.getD i default), .c (.bool (debT k l t u k.parties.toNat k.parties.toNat).2)]) := by
  refine Does.mk (fun _ => false) TT_ok Try.func17 rfl (by kernel_rfl) Try.ntmps17 rfl rfl fun E hT hE hN hR => ?_
  have hm : E.P.follows .mixedOrders = true := by rw [hE]; kernel_rfl
  (repeat (first | refine XK.norm rfl rfl ?_ | refine XK.rgnA hT rfl rfl rfl ?_ | refine XK.rgnB hT hm rfl rfl rfl ?_))
  generalize hP : k.parties.toNat = P at *
  have hP12 : P ≤ 12 := by omega
  refine XK.loop (ι := Nat) (fun p => ST.of [(1, intsV l), (3, .c (.int .i64 u)), (4, .ptr 4 0), (6, .ptr 6 0), (10, .vec 700 0), (11, .c (.int .i64 p))] [(4, .cells 27 (kC k)), (6, .cells 31 (tmC t)), (700, dbRow (debT k l t u P p).1)] 1000 55 (fun _ => false))
    (fun p => p ≤ P ∧ (debT k l t u P p).2 = true) (fun p => P - p) 0 ⟨Nat.zero_le _, rfl⟩
    (Weak.trans (Weak.ghost (j := 10) (k := 700) (e := 83) (sz := 4) (f := fun _ => []) rfl rfl) (Weak.of hN rfl rfl rfl (by (repeat' (first | exact rfl | exact AvIs.refl _ | exact trivial | exact fun _ _ => rfl | exact fun _ _ => ⟨rfl, AvIs.refl _⟩ | refine ⟨?_, ?_⟩))) ⟨by (repeat' (first | exact rfl | exact AvIs.refl _ | exact trivial | exact fun _ _ => rfl | exact fun _ _ => ⟨rfl, AvIs.refl _⟩ | refine ⟨?_, ?_⟩)), by (repeat' (first | exact rfl | exact AvIs.refl _ | exact trivial | exact fun _ _ => rfl | exact fun _ _ => ⟨rfl, AvIs.refl _⟩ | refine ⟨?_, ?_⟩)), ⟨rfl, rfl, rfl⟩, rfl, fun j hj => absurd hj (Nat.not_lt_zero _)⟩)) fun p hp2 => ?_
  obtain ⟨hp1, hp3⟩ := hp2
  (repeat (first | refine XK.norm rfl rfl ?_ | refine XK.rgnA hT rfl rfl rfl ?_ | refine XK.rgnB hT hm rfl rfl rfl ?_)); refine XK.cond rfl (fun hlt => ?_) (fun hlt => ?_) <;> (try simp at hlt)
  · have hD : debT k l t u P (p + 1) = rowT k l t u p (debT k l t u P p) P := by simp only [debT, hp3]; rfl
    have hDl := fun h => debT_stop (k := k) (l := l) (t := t) (u := u) (P := P) (p := p + 1) h P (by omega)
    have hlen0 := debT_len k l t u P p
    have hPP : p * P ≤ 12 * 12 := Nat.mul_le_mul (by omega) hP12
    generalize debT k l t u P p = s0 at *
    (repeat (first | refine XK.norm rfl rfl ?_ | refine XK.rgnA hT rfl rfl rfl ?_ | refine XK.rgnB hT hm rfl rfl rfl ?_))
    refine XK.loop (ι := Nat) (fun q => ST.of [(1, intsV l), (3, .c (.int .i64 u)), (4, .ptr 4 0), (6, .ptr 6 0), (10, .vec 700 0), (11, .c (.int .i64 p)), (12, .c (.int .i64 q))] [(4, .cells 27 (kC k)), (6, .cells 31 (tmC t)), (700, dbRow (rowT k l t u p s0 q).1)] 2000 55 (fun _ => false))
      (fun q => q ≤ P ∧ (rowT k l t u p s0 q).2 = true) (fun q => P - q) 0 ⟨Nat.zero_le _, hp3⟩ (Weak.of hN rfl rfl rfl (by (repeat' (first | exact rfl | exact AvIs.refl _ | exact trivial | exact fun _ _ => rfl | exact fun _ _ => ⟨rfl, AvIs.refl _⟩ | refine ⟨?_, ?_⟩))) (by (repeat' (first | exact rfl | exact AvIs.refl _ | exact trivial | exact fun _ _ => rfl | exact fun _ _ => ⟨rfl, AvIs.refl _⟩ | refine ⟨?_, ?_⟩)))) fun q hq2 => ?_
    obtain ⟨hq1, hq3⟩ := hq2
    have hrl := rowT_len k l t u p s0 q
    (repeat (first | refine XK.norm rfl rfl ?_ | refine XK.rgnA hT rfl rfl rfl ?_ | refine XK.rgnB hT hm rfl rfl rfl ?_)); refine XK.cond rfl (fun hlq => ?_) (fun hlq => ?_) <;> (try simp at hlq)
    · have hR1 : rowT k l t u p s0 (q + 1) = if p = q then rowT k l t u p s0 q else if (damagesR k l t p q u).2 ≠ 0 then ([], false) else if (damagesR k l t p q u).1.val.1 ≠ 0 then ((rowT k l t u p s0 q).1 ++ [⟨p, q, (damagesR k l t p q u).1.val⟩], true) else rowT k l t u p s0 q := by simp only [rowT, hq3]; rfl
      have hRl := fun h => rowT_stop (k := k) (l := l) (t := t) (u := u) (p := p) (s := s0) (q := q + 1) h P (by omega)
      have dm := damages_ok k hk l t ht p q u
      have dw := damagesR_W (k := k) (l := l) ht p q u
      generalize damagesR k l t p q u = x at *
      generalize rowT k l t u p s0 q = s1 at *
      (repeat (first | refine XK.norm rfl rfl ?_ | refine XK.rgnA hT rfl rfl rfl ?_ | refine XK.rgnB hT hm rfl rfl rfl ?_)); refine XK.cond rfl (fun h1 => ?_) (fun h1 => ?_) <;> (try simp at h1)
      · rw [if_pos (by omega)] at hR1
        (repeat (first | refine XK.norm rfl rfl ?_ | refine XK.rgnA hT rfl rfl rfl ?_ | refine XK.rgnB hT hm rfl rfl rfl ?_))
        refine XK.inv ⟨q + 1, ⟨by omega, by rw [hR1]; exact hq3⟩, ?_, by omega⟩
        rw [hR1]
        exact (Weak.of hN rfl rfl rfl (by (repeat' (first | exact rfl | exact AvIs.refl _ | exact trivial | exact fun _ _ => rfl | exact fun _ _ => ⟨rfl, AvIs.refl _⟩ | refine ⟨?_, ?_⟩))) (by (repeat' (first | exact rfl | exact AvIs.refl _ | exact trivial | exact fun _ _ => rfl | exact fun _ _ => ⟨rfl, AvIs.refl _⟩ | refine ⟨?_, ?_⟩))))
      · rw [if_neg (by omega)] at hR1
        (repeat (first | refine XK.norm rfl rfl ?_ | refine XK.rgnA hT rfl rfl rfl ?_ | refine XK.rgnB hT hm rfl rfl rfl ?_)); refine XK.region ?_; refine XL.goA hT rfl rfl rfl rfl ?_
        refine XL.callLA hE rfl rfl rfl rfl trivial rfl (dm) rfl ?_
        refine XL.goA hT rfl rfl rfl rfl ?_; refine XL.fin ?_; (repeat (first | refine XK.norm rfl rfl ?_ | refine XK.rgnA hT rfl rfl rfl ?_ | refine XK.rgnB hT hm rfl rfl rfl ?_))
        (repeat (first | refine XK.norm rfl rfl ?_ | refine XK.rgnA hT rfl rfl rfl ?_ | refine XK.rgnB hT hm rfl rfl rfl ?_)); refine XK.cond rfl (fun h2 => ?_) (fun h2 => ?_) <;> (try simp at h2)
        · rw [if_pos h2] at hR1
          (repeat (first | refine XK.norm rfl rfl ?_ | refine XK.rgnA hT rfl rfl rfl ?_ | refine XK.rgnB hT hm rfl rfl rfl ?_))
          (first | refine XK.outL rfl rfl rfl ?_ | refine XK.outLN rfl rfl rfl ?_)
          rw [hRl (by rw [hR1]), hR1] at hD
          rw [hDl (by rw [hD]), hD]
          exact ⟨⟨rfl, rfl⟩, rfl⟩
        · rw [if_neg (by simpa using h2)] at hR1
          (repeat (first | refine XK.norm rfl rfl ?_ | refine XK.rgnA hT rfl rfl rfl ?_ | refine XK.rgnB hT hm rfl rfl rfl ?_)); refine XK.cond rfl (fun h3 => ?_) (fun h3 => ?_) <;> (try simp at h3)
          · rw [if_pos h3] at hR1
            (repeat (first | refine XK.norm rfl rfl ?_ | refine XK.rgnA hT rfl rfl rfl ?_ | refine XK.rgnB hT hm rfl rfl rfl ?_))
            refine XK.inv ⟨q + 1, ⟨by omega, by rw [hR1]⟩, ?_, by omega⟩
            rw [hR1]
            refine Weak.trans (Weak.stamp (k := 700) (t := 0) hN rfl rfl) (Weak.of hN rfl rfl rfl (by (repeat' (first | exact rfl | exact AvIs.refl _ | exact trivial | exact fun _ _ => rfl | exact fun _ _ => ⟨rfl, AvIs.refl _⟩ | refine ⟨?_, ?_⟩))) ⟨by (repeat' (first | exact rfl | exact AvIs.refl _ | exact trivial | exact fun _ _ => rfl | exact fun _ _ => ⟨rfl, AvIs.refl _⟩ | refine ⟨?_, ?_⟩)), by (repeat' (first | exact rfl | exact AvIs.refl _ | exact trivial | exact fun _ _ => rfl | exact fun _ _ => ⟨rfl, AvIs.refl _⟩ | refine ⟨?_, ?_⟩)), ⟨rfl, rfl, rfl⟩, by simp, fun j hj => (catF_one (g := fun j => dbC ((s1.1 ++ [Db.mk p q x.1.val]).getD j default)) ?_ ?_ j (by simpa using hj)).symm⟩)
            · simp [dbC]; rfl
            · intro j hj
              simp [List.getElem?_append_left hj]
          · rw [if_neg (by simpa using h3)] at hR1
            (repeat (first | refine XK.norm rfl rfl ?_ | refine XK.rgnA hT rfl rfl rfl ?_ | refine XK.rgnB hT hm rfl rfl rfl ?_))
            refine XK.inv ⟨q + 1, ⟨by omega, by rw [hR1]; exact hq3⟩, ?_, by omega⟩
            rw [hR1]
            exact (Weak.of hN rfl rfl rfl (by (repeat' (first | exact rfl | exact AvIs.refl _ | exact trivial | exact fun _ _ => rfl | exact fun _ _ => ⟨rfl, AvIs.refl _⟩ | refine ⟨?_, ?_⟩))) (by (repeat' (first | exact rfl | exact AvIs.refl _ | exact trivial | exact fun _ _ => rfl | exact fun _ _ => ⟨rfl, AvIs.refl _⟩ | refine ⟨?_, ?_⟩))))
    · have hqP : q = P := by omega
      subst hqP
      (repeat (first | refine XK.norm rfl rfl ?_ | refine XK.rgnA hT rfl rfl rfl ?_ | refine XK.rgnB hT hm rfl rfl rfl ?_))
      refine XK.inv ⟨p + 1, ⟨by omega, by rw [hD]; exact hq3⟩, ?_, by omega⟩
      rw [hD]
      exact (Weak.of hN rfl rfl rfl (by (repeat' (first | exact rfl | exact AvIs.refl _ | exact trivial | exact fun _ _ => rfl | exact fun _ _ => ⟨rfl, AvIs.refl _⟩ | refine ⟨?_, ?_⟩))) (by (repeat' (first | exact rfl | exact AvIs.refl _ | exact trivial | exact fun _ _ => rfl | exact fun _ _ => ⟨rfl, AvIs.refl _⟩ | refine ⟨?_, ?_⟩))))
  · have hpP : p = P := by omega
    subst hpP
    refine XK.weak (Weak.trans (Weak.frozen (k := 700) hN rfl rfl) (Weak.of (L := [(10, dbsV (debT k l t u p p).1.length (fun i => (debT k l t u p p).1.getD i default))]) (O := []) (nx := 1000) (nt := 55) (md := fun _ => false) hN rfl rfl rfl (by (repeat' (first | exact rfl | exact AvIs.refl _ | exact trivial | exact fun _ _ => rfl | exact fun _ _ => ⟨rfl, AvIs.refl _⟩ | refine ⟨?_, ?_⟩))) trivial)) ?_
    (repeat (first | refine XK.norm rfl rfl ?_ | refine XK.rgnA hT rfl rfl rfl ?_ | refine XK.rgnB hT hm rfl rfl rfl ?_))
    (first | refine XK.outL rfl rfl rfl ?_ | refine XK.outLN rfl rfl rfl ?_)
    exact ⟨⟨rfl, rfl, fun i _ => rfl⟩, by rw [hp3]; exact rfl⟩
end Go.Proofs.Ytiiegpjpckkohaa
end
