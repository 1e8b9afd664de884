import Derived.Test.YtbheoblmfjjaaaaT2
import Derived.Test.YtbheoblmfjjaaaaT1
import Derived.Test.YtbheoblmfjjaaaaTys
import Derived.Test.YtbheoblmfjjaaaaP5
section
/- A ratio with the other sign. -/
namespace Go.Proofs.Ytbheoblmfjjaaaa
open Go.Eng
set_option maxRecDepth 10000
set_option linter.unusedSimpArgs false
set_option linter.unusedVariables false
/-- A value with the other sign, if so. -/
def sgQ (neg : Bool) (q : Q) : Q := if neg then (-q.1, q.2) else q
theorem sgQ_W {n : Bool} {q : Q} (h : qOk q = true) : qW (sgQ n q) := by
  obtain ⟨h1, h2, h3, h4, _⟩ := qOk_iff.1 h
  cases n <;> simp only [sgQ, qW, inK] <;> simp <;> omega
theorem sgQ_ok {n : Bool} {q : Q} (h : qOk q = true) : qOk (sgQ n q) = true := by
  obtain ⟨h1, h2, h3, h4, h5⟩ := qOk_iff.1 h
  cases n
  · exact h
  · exact qOk_iff.2 ⟨h1, h2, by simp only [sgQ, if_true]; omega, by simp only [sgQ, if_true]; omega, by simp only [sgQ, if_true, Int.natAbs_neg]; exact h5⟩
theorem rt_sg {n : Bool} {q : Q} : rt (sgQ n q) = if n then -(rt q) else rt q := by
  cases n
  · rfl
  · show rt (-q.1, q.2) = -(rt q)
    unfold rt
    simp only [Rat.intCast_neg]
    grind
end Go.Proofs.Ytbheoblmfjjaaaa
end
section
/- Contracts: package netting: Valid, opposite, total, the signs, extremes. -/
namespace Go.Proofs.Ytbheoblmfjjaaaa
open Go.Eng
set_option maxRecDepth 10000
set_option linter.unusedSimpArgs false
set_option linter.unusedVariables false
structure Db where
  from_ : Int
  to : Int
  amt : Q
instance : Inhabited Db := ⟨⟨0, 0, (0, 0)⟩⟩
def dbC (d : Db) : List AV := [.c (.int .i64 d.from_), .c (.int .i64 d.to), .c (.int .i64 d.amt.1), .c (.int .i64 d.amt.2)]
def dbV (d : Db) : AV := .agg [.c (.int .i64 d.from_), .c (.int .i64 d.to), .c (.int .i64 d.amt.1), .c (.int .i64 d.amt.2)]
def dbsV (n : Nat) (l : Nat → Db) : AV := .rs 4 n (fun i => dbC (l i))
def dbB (parties : Int) (d : Db) : Bool := !(decide (d.from_ < 0) || decide (parties ≤ d.from_) || decide (d.to < 0) || decide (parties ≤ d.to) || d.from_ == d.to) && (qOk d.amt && decide (0 < d.amt.1))
def dbW (d : Db) : Prop := inK .i64 d.from_ ∧ inK .i64 d.to ∧ qW d.amt
def netB (parties : Int) (n : Nat) (l : Nat → Db) : Bool := !(decide (parties < 1) || decide (12 < parties) || decide ((400 : Int) < n)) && (List.range n).all (fun i => dbB parties (l i))
theorem netB_true {parties : Int} {n : Nat} {l : Nat → Db} : netB parties n l = true ↔ ((1 ≤ parties ∧ parties ≤ 12) ∧ n ≤ 400) ∧ ∀ i, i < n → dbB parties (l i) = true := by
  simp [netB]
  omega
theorem netB_no {parties : Int} {n : Nat} {l : Nat → Db} {i : Nat} (hi : i < n) (h : dbB parties (l i) = false) : netB parties n l = false := by
  rw [Bool.eq_false_iff]
  intro hh
  rw [(netB_true.1 hh).2 i hi] at h
  cases h
theorem netValid_ok (parties : Int) (n : Nat) (l : Nat → Db) (hl : ∀ i, i < n → dbW (l i)) : Does Try.prog 73 [.c (.int .i64 parties), dbsV n l] (.c (.bool (netB parties n l))) := by
  refine Does.mk (fun _ => false) TT_ok Try.func73 rfl (by kernel_rfl) Try.ntmps73 rfl rfl fun E hT hE hN hR => ?_
  have hm : E.P.follows .mixedOrders = true := by rw [hE]; kernel_rfl
  refine XK.fact (Sat.rs_len (j := 1) rfl) fun hlen => ?_
  have hm' := hlen.1
  (repeat (first | refine XK.norm rfl rfl ?_ | refine XK.rgnA hT rfl rfl rfl ?_ | refine XK.rgnB hT hm rfl rfl rfl ?_)); refine XK.cond rfl (fun h1 => ?_) (fun h1 => ?_)
  · (repeat (first | refine XK.norm rfl rfl ?_ | refine XK.rgnA hT rfl rfl rfl ?_ | refine XK.rgnB hT hm rfl rfl rfl ?_))
    (first | refine XK.out rfl rfl rfl ?_ | refine XK.outN rfl rfl rfl ?_)
    rw [netB, h1]
    rfl
  · have h1' : (1 ≤ parties ∧ parties ≤ 12) ∧ n ≤ 400 := by
      simp only [Bool.or_eq_false_iff, decide_eq_false_iff_not] at h1
      omega
    (repeat (first | refine XK.norm rfl rfl ?_ | refine XK.rgnA hT rfl rfl rfl ?_ | refine XK.rgnB hT hm rfl rfl rfl ?_))
    refine XK.loop (ι := Nat) (fun i => ST.of [(0, .c (.int .i64 parties)), (18, dbsV n l), (19, .c (.int .i64 n)), (20, .c (.int .i64 i))] [] 1000 62 (fun _ => false))
      (fun i => i ≤ n ∧ ∀ j, j < i → dbB parties (l j) = true) (fun i => n - i) 0 ⟨Nat.zero_le _, fun j hj => absurd hj (Nat.not_lt_zero _)⟩ (Weak.of hN rfl rfl rfl (by (repeat' (first | exact rfl | exact AvIs.refl _ | exact trivial | exact fun _ _ => rfl | exact fun _ _ => ⟨rfl, AvIs.refl _⟩ | refine ⟨?_, ?_⟩))) (by (repeat' (first | exact rfl | exact AvIs.refl _ | exact trivial | exact fun _ _ => rfl | exact fun _ _ => ⟨rfl, AvIs.refl _⟩ | refine ⟨?_, ?_⟩)))) fun i hi => ?_
    obtain ⟨hi1, hi2⟩ := hi
    (repeat (first | refine XK.norm rfl rfl ?_ | refine XK.rgnA hT rfl rfl rfl ?_ | refine XK.rgnB hT hm rfl rfl rfl ?_)); refine XK.cond rfl (fun hlt => ?_) (fun hlt => ?_) <;> (try simp at hlt)
    · have hno := fun h => netB_no (parties := parties) (l := l) hlt h
      have fi : l (i : Int).toNat = l i := rfl
      have hw := hl i hlt
      have hst : dbB parties (l i) = true → ∀ j, j < i + 1 → dbB parties (l j) = true := fun h j hj => by
        by_cases hji : j = i
        · subst hji; exact h
        · exact hi2 j (by omega)
      generalize hd : l i = d at *
      have hdb : dbB parties d = (!(decide (d.from_ < 0) || decide (parties ≤ d.from_) || decide (d.to < 0) || decide (parties ≤ d.to) || d.from_ == d.to) && (qOk d.amt && decide (0 < d.amt.1))) := rfl
      (repeat (first | refine XK.norm rfl rfl ?_ | refine XK.rgnA hT rfl rfl rfl ?_ | refine XK.rgnB hT hm rfl rfl rfl ?_))
      rw [fi]
      (repeat (first | refine XK.norm rfl rfl ?_ | refine XK.rgnA hT rfl rfl rfl ?_ | refine XK.rgnB hT hm rfl rfl rfl ?_)); refine XK.cond rfl (fun h2 => ?_) (fun h2 => ?_)
      · (repeat (first | refine XK.norm rfl rfl ?_ | refine XK.rgnA hT rfl rfl rfl ?_ | refine XK.rgnB hT hm rfl rfl rfl ?_))
        (first | refine XK.out rfl rfl rfl ?_ | refine XK.outN rfl rfl rfl ?_)
        rw [hno (by rw [hdb, h2]; rfl)]
      · rw [h2] at hdb
        (repeat (first | refine XK.norm rfl rfl ?_ | refine XK.rgnA hT rfl rfl rfl ?_ | refine XK.rgnB hT hm rfl rfl rfl ?_)); refine XK.region ?_; refine XL.goA hT rfl rfl rfl rfl ?_
        refine XL.callLA hE rfl rfl rfl rfl trivial rfl (valid_ok d.amt hw.2.2) rfl ?_
        refine XL.goA hT rfl rfl rfl rfl ?_; refine XL.fin ?_; (repeat (first | refine XK.norm rfl rfl ?_ | refine XK.rgnA hT rfl rfl rfl ?_ | refine XK.rgnB hT hm rfl rfl rfl ?_))
        (repeat (first | refine XK.norm rfl rfl ?_ | refine XK.rgnA hT rfl rfl rfl ?_ | refine XK.rgnB hT hm rfl rfl rfl ?_)); refine XK.cond rfl (fun h3 => ?_) (fun h3 => ?_)
        · (repeat (first | refine XK.norm rfl rfl ?_ | refine XK.rgnA hT rfl rfl rfl ?_ | refine XK.rgnB hT hm rfl rfl rfl ?_))
          (first | refine XK.out rfl rfl rfl ?_ | refine XK.outN rfl rfl rfl ?_)
          rw [hno (by rw [hdb]; cases hq : qOk d.amt with
            | false => rfl
            | true => rw [hq] at h3; simp at h3; simp; omega)]
        · (repeat (first | refine XK.norm rfl rfl ?_ | refine XK.rgnA hT rfl rfl rfl ?_ | refine XK.rgnB hT hm rfl rfl rfl ?_))
          refine XK.inv ⟨i + 1, ⟨hlt, hst (by rw [hdb]; cases hq : qOk d.amt with
            | false => rw [hq] at h3; simp at h3
            | true => rw [hq] at h3; simp at h3; simp; omega)⟩, (Weak.of hN rfl rfl rfl (by (repeat' (first | exact rfl | exact AvIs.refl _ | exact trivial | exact fun _ _ => rfl | exact fun _ _ => ⟨rfl, AvIs.refl _⟩ | refine ⟨?_, ?_⟩))) (by (repeat' (first | exact rfl | exact AvIs.refl _ | exact trivial | exact fun _ _ => rfl | exact fun _ _ => ⟨rfl, AvIs.refl _⟩ | refine ⟨?_, ?_⟩)))), by omega⟩
    · have hin : i = n := by omega
      subst hin
      (repeat (first | refine XK.norm rfl rfl ?_ | refine XK.rgnA hT rfl rfl rfl ?_ | refine XK.rgnB hT hm rfl rfl rfl ?_))
      (first | refine XK.out rfl rfl rfl ?_ | refine XK.outN rfl rfl rfl ?_)
      rw [netB_true.2 ⟨h1', hi2⟩]
theorem dbB_ok {parties : Int} {d : Db} (h : dbB parties d = true) : (0 ≤ d.from_ ∧ d.from_ < parties) ∧ (0 ≤ d.to ∧ d.to < parties) ∧ d.from_ ≠ d.to ∧ qOk d.amt = true ∧ 0 < d.amt.1 := by
  simp [dbB] at h
  refine ⟨?_, ?_, h.1.2, h.2.1, ?_⟩ <;> omega
def dbRow (L : List Db) : Ob := .vec 42 4 0 L.length (fun i => dbC (L.getD i default))
end Go.Proofs.Ytbheoblmfjjaaaa
end
section
/- Contracts: package netting: opposite, the signs, extremes. -/
namespace Go.Proofs.Ytbheoblmfjjaaaa
open Go.Eng
set_option maxRecDepth 10000
set_option linter.unusedSimpArgs false
set_option linter.unusedVariables false
theorem opposite_ok (a : Q) (h : qOk a = true) : Does Try.prog 76 [qv a] (qv (sgQ true a)) := by
  have hb := qOk_iff.1 h
  refine Does.mk (fun _ => false) TT_ok Try.func76 rfl (by kernel_rfl) Try.ntmps76 rfl rfl fun E hT hE hN hR => ?_
  have hm : E.P.follows .mixedOrders = true := by rw [hE]; kernel_rfl
  (repeat (first | refine XK.norm rfl rfl ?_ | refine XK.rgnA hT rfl rfl rfl ?_ | refine XK.rgnB hT hm rfl rfl rfl ?_))
  (first | refine XK.out rfl rfl rfl ?_ | refine XK.outN rfl rfl rfl ?_)
  rw [show (0 : Int) - a.1 = -a.1 by omega]
  rfl
def sgnP (party : Int) (d : Db) : Int := if d.to = party then 1 else if d.from_ = party then -1 else 0
def sgnA (a b : Int) (d : Db) : Int := if d.from_ = a ∧ d.to = b then 1 else if d.from_ = b ∧ d.to = a then -1 else 0
theorem signA_ok (a b : Int) (d : Db) : Does Try.prog 75 [dbV d, .rptr [.c (.int .i64 a)], .rptr [.c (.int .i64 b)]] (.c (.int .i64 (sgnA a b d))) := by
  refine Does.mk (fun _ => false) TT_ok Try.func75 rfl (by kernel_rfl) Try.ntmps75 rfl rfl fun E hT hE hN hR => ?_
  have hm : E.P.follows .mixedOrders = true := by rw [hE]; kernel_rfl
  unfold sgnA
  (repeat (first | refine XK.norm rfl rfl ?_ | refine XK.rgnA hT rfl rfl rfl ?_ | refine XK.rgnB hT hm rfl rfl rfl ?_)); refine XK.cond rfl (fun h1 => ?_) (fun h1 => ?_)
  · (repeat (first | refine XK.norm rfl rfl ?_ | refine XK.rgnA hT rfl rfl rfl ?_ | refine XK.rgnB hT hm rfl rfl rfl ?_))
    (first | refine XK.out rfl rfl rfl ?_ | refine XK.outN rfl rfl rfl ?_)
    rw [if_pos (by simpa using h1)]
  · rw [if_neg (by simpa using h1)]
    (repeat (first | refine XK.norm rfl rfl ?_ | refine XK.rgnA hT rfl rfl rfl ?_ | refine XK.rgnB hT hm rfl rfl rfl ?_)); refine XK.cond rfl (fun h2 => ?_) (fun h2 => ?_)
    · (repeat (first | refine XK.norm rfl rfl ?_ | refine XK.rgnA hT rfl rfl rfl ?_ | refine XK.rgnB hT hm rfl rfl rfl ?_))
      (first | refine XK.out rfl rfl rfl ?_ | refine XK.outN rfl rfl rfl ?_)
      rw [if_pos (by simpa using h2)]
    · (repeat (first | refine XK.norm rfl rfl ?_ | refine XK.rgnA hT rfl rfl rfl ?_ | refine XK.rgnB hT hm rfl rfl rfl ?_))
      (first | refine XK.out rfl rfl rfl ?_ | refine XK.outN rfl rfl rfl ?_)
      rw [if_neg (by simpa using h2)]
def exL (q : Nat → Q) : Nat → Nat × Nat
  | 0 => (0, 0)
  | i + 1 => (if cmpR (q i) (q (exL q i).1) < 0 then i else (exL q i).1, if 0 < cmpR (q i) (q (exL q i).2) then i else (exL q i).2)
theorem exL_lt (q : Nat → Q) {n : Nat} (hn : 0 < n) : ∀ i, i ≤ n → (exL q i).1 < n ∧ (exL q i).2 < n
  | 0, _ => ⟨hn, hn⟩
  | i + 1, h => by
    obtain ⟨h1, h2⟩ := exL_lt q hn i (by omega)
    simp only [exL]
    constructor
    · split <;> omega
    · split <;> omega
end Go.Proofs.Ytbheoblmfjjaaaa
end
section
/- Contracts: package netting: total. -/
namespace Go.Proofs.Ytbheoblmfjjaaaa
open Go.Eng
set_option maxRecDepth 10000
set_option linter.unusedSimpArgs false
set_option linter.unusedVariables false
/-- The sum of the amounts, each with its sign. -/
def totT (s : Db → Int) (l : Nat → Db) : Nat → Q × Int
  | 0 => ((0, 1), 0)
  | i + 1 => if (totT s l i).2 ≠ 0 then totT s l i else if s (l i) = 0 then totT s l i else
      if (addR (totT s l i).1 (s (l i) * (l i).amt.1, (l i).amt.2)).2 ≠ 0 then ((0, 0), (addR (totT s l i).1 (s (l i) * (l i).amt.1, (l i).amt.2)).2)
      else ((addR (totT s l i).1 (s (l i) * (l i).amt.1, (l i).amt.2)).1, 0)
theorem totT_stop {s : Db → Int} {l : Nat → Db} {i : Nat} (h : (totT s l i).2 ≠ 0) : ∀ m, i ≤ m → totT s l m = totT s l i := by
  intro m hm
  induction m with
  | zero => have : i = 0 := by omega
            rw [this]
  | succ m ih =>
    by_cases h1 : i = m + 1
    · rw [h1]
    · have h2 := ih (by omega)
      simp only [totT]
      rw [if_pos (by rw [h2]; exact h), h2]
theorem totT_W (s : Db → Int) (l : Nat → Db) : ∀ i, qW (totT s l i).1
  | 0 => ⟨by simp [totT, inK], by simp [totT, inK]⟩
  | i + 1 => by
    simp only [totT]
    split
    · exact totT_W s l i
    · split
      · exact totT_W s l i
      · split
        · exact ⟨by simp [inK], by simp [inK]⟩
        · exact addR_W _ _
theorem total1_ok (n : Nat) (l : Nat → Db) (s : Db → Int) (fid : Nat) (p : List AV) (hs : ∀ d, s d = -1 ∨ s d = 0 ∨ s d = 1) (hl : ∀ i, i < n → qOk (l i).amt = true) (hfn : ∀ d, Does Try.prog fid [dbV d, .rptr p] (.c (.int .i64 (s d)))) :
    Does Try.prog 74 [dbsV n l, .fn (.func fid) [] [.rptr p]] (qr (totT s l n)) := by
  refine Does.mk (fun _ => false) TT_ok Try.func74 rfl (by kernel_rfl) Try.ntmps74 rfl rfl fun E hT hE hN hR => ?_
  have hm : E.P.follows .mixedOrders = true := by rw [hE]; kernel_rfl
  refine XK.fact (Sat.rs_len (j := 0) rfl) fun hlen => ?_
  have hm' := hlen.1
  (repeat (first | refine XK.norm rfl rfl ?_ | refine XK.rgnA hT rfl rfl rfl ?_ | refine XK.rgnB hT hm rfl rfl rfl ?_))
  refine XK.loop (ι := Nat) (fun i => ST.of [(1, .fn (.func fid) [] [.rptr p]), (4, .ptr 4 0), (6, .ptr 51 0), (13, dbsV n l), (14, .c (.int .i64 n)), (15, .c (.int .i64 i))] [(4, .cells 37 [.c (.int .i64 0), .c (.int .i64 0)]), (51, .cells 37 (qc (totT s l i).1))] 1000 45 (fun _ => false))
    (fun i => i ≤ n ∧ (totT s l i).2 = 0) (fun i => n - i) 0 ⟨Nat.zero_le _, rfl⟩ (Weak.of hN rfl rfl rfl (by (repeat' (first | exact rfl | exact AvIs.refl _ | exact trivial | exact fun _ _ => rfl | exact fun _ _ => ⟨rfl, AvIs.refl _⟩ | refine ⟨?_, ?_⟩))) (by (repeat' (first | exact rfl | exact AvIs.refl _ | exact trivial | exact fun _ _ => rfl | exact fun _ _ => ⟨rfl, AvIs.refl _⟩ | refine ⟨?_, ?_⟩)))) fun i hi => ?_
  obtain ⟨hi1, hi2⟩ := hi
  (repeat (first | refine XK.norm rfl rfl ?_ | refine XK.rgnA hT rfl rfl rfl ?_ | refine XK.rgnB hT hm rfl rfl rfl ?_)); refine XK.cond rfl (fun hlt => ?_) (fun hlt => ?_) <;> (try simp at hlt)
  · have hq := hl i hlt
    have hb := qOk_iff.1 hq
    have hsi := hs (l i)
    have hf := hfn (l i)
    have hTt : totT s l (i + 1) = if s (l i) = 0 then totT s l i else if (addR (totT s l i).1 (s (l i) * (l i).amt.1, (l i).amt.2)).2 ≠ 0 then ((0, 0), (addR (totT s l i).1 (s (l i) * (l i).amt.1, (l i).amt.2)).2)
      else ((addR (totT s l i).1 (s (l i) * (l i).amt.1, (l i).amt.2)).1, 0) := by
      simp only [totT, hi2, ne_eq, not_true_eq_false, if_false]
    have hlast := fun h => totT_stop (s := s) (l := l) (i := i + 1) h n hlt
    have wT := totT_W s l i
    have fi : l (i : Int).toNat = l i := rfl
    have hk2 : inK .i64 (s (l i) * (l i).amt.1) := by
      simp only [inK]
      rcases hsi with h | h | h <;> rw [h] <;> omega
    have ad := add_ok (totT s l i).1 (s (l i) * (l i).amt.1, (l i).amt.2) wT ⟨hk2, (qOk_W hq).2⟩
    generalize hab : addR (totT s l i).1 (s (l i) * (l i).amt.1, (l i).amt.2) = ab at *
    (repeat (first | refine XK.norm rfl rfl ?_ | refine XK.rgnA hT rfl rfl rfl ?_ | refine XK.rgnB hT hm rfl rfl rfl ?_)); refine XK.region ?_; refine XL.goA hT rfl rfl rfl rfl ?_
    refine XL.callLA hE rfl rfl rfl rfl trivial rfl (hf) rfl ?_
    refine XL.goA hT rfl rfl rfl rfl ?_; refine XL.fin ?_; (repeat (first | refine XK.norm rfl rfl ?_ | refine XK.rgnA hT rfl rfl rfl ?_ | refine XK.rgnB hT hm rfl rfl rfl ?_))
    (repeat (first | refine XK.norm rfl rfl ?_ | refine XK.rgnA hT rfl rfl rfl ?_ | refine XK.rgnB hT hm rfl rfl rfl ?_)); refine XK.cond rfl (fun h1 => ?_) (fun h1 => ?_) <;> (try simp at h1)
    · rw [if_pos h1] at hTt
      (repeat (first | refine XK.norm rfl rfl ?_ | refine XK.rgnA hT rfl rfl rfl ?_ | refine XK.rgnB hT hm rfl rfl rfl ?_))
      refine XK.inv ⟨i + 1, ⟨hlt, by rw [hTt]; exact hi2⟩, ?_, by omega⟩
      rw [hTt]
      exact (Weak.of hN rfl rfl rfl (by (repeat' (first | exact rfl | exact AvIs.refl _ | exact trivial | exact fun _ _ => rfl | exact fun _ _ => ⟨rfl, AvIs.refl _⟩ | refine ⟨?_, ?_⟩))) (by (repeat' (first | exact rfl | exact AvIs.refl _ | exact trivial | exact fun _ _ => rfl | exact fun _ _ => ⟨rfl, AvIs.refl _⟩ | refine ⟨?_, ?_⟩))))
    · rw [if_neg h1] at hTt
      have hk3 : inK .i64 (s (l i) * (l (i : Int).toNat).amt.1) := hk2
      simp only [inK] at hk3
      (repeat (first | refine XK.norm rfl rfl ?_ | refine XK.rgnA hT rfl rfl rfl ?_ | refine XK.rgnB hT hm rfl rfl rfl ?_)); refine XK.region ?_; refine XL.goA hT rfl rfl rfl rfl ?_
      refine XL.callLA hE rfl rfl rfl rfl trivial rfl (ad) rfl ?_
      refine XL.goA hT rfl rfl rfl rfl ?_; refine XL.fin ?_; (repeat (first | refine XK.norm rfl rfl ?_ | refine XK.rgnA hT rfl rfl rfl ?_ | refine XK.rgnB hT hm rfl rfl rfl ?_))
      (repeat (first | refine XK.norm rfl rfl ?_ | refine XK.rgnA hT rfl rfl rfl ?_ | refine XK.rgnB hT hm rfl rfl rfl ?_)); refine XK.cond rfl (fun h2 => ?_) (fun h2 => ?_) <;> (try simp at h2)
      · rw [if_pos h2] at hTt
        (repeat (first | refine XK.norm rfl rfl ?_ | refine XK.rgnA hT rfl rfl rfl ?_ | refine XK.rgnB hT hm rfl rfl rfl ?_))
        (first | refine XK.out rfl rfl rfl ?_ | refine XK.outN rfl rfl rfl ?_)
        rw [hlast (by rw [hTt]; exact h2), hTt]
        rfl
      · rw [if_neg (by simpa using h2)] at hTt
        (repeat (first | refine XK.norm rfl rfl ?_ | refine XK.rgnA hT rfl rfl rfl ?_ | refine XK.rgnB hT hm rfl rfl rfl ?_))
        refine XK.inv ⟨i + 1, ⟨hlt, by rw [hTt]⟩, ?_, by omega⟩
        rw [hTt]
        exact (Weak.of hN rfl rfl rfl (by (repeat' (first | exact rfl | exact AvIs.refl _ | exact trivial | exact fun _ _ => rfl | exact fun _ _ => ⟨rfl, AvIs.refl _⟩ | refine ⟨?_, ?_⟩))) (by (repeat' (first | exact rfl | exact AvIs.refl _ | exact trivial | exact fun _ _ => rfl | exact fun _ _ => ⟨rfl, AvIs.refl _⟩ | refine ⟨?_, ?_⟩))))
  · have hin : i = n := by omega
    subst hin
    (repeat (first | refine XK.norm rfl rfl ?_ | refine XK.rgnA hT rfl rfl rfl ?_ | refine XK.rgnB hT hm rfl rfl rfl ?_))
    (first | refine XK.out rfl rfl rfl ?_ | refine XK.outN rfl rfl rfl ?_)
    unfold qr
    rw [hi2]
    rfl
theorem total2_ok (n : Nat) (l : Nat → Db) (s : Db → Int) (fid : Nat) (p r : List AV) (hs : ∀ d, s d = -1 ∨ s d = 0 ∨ s d = 1) (hl : ∀ i, i < n → qOk (l i).amt = true) (hfn : ∀ d, Does Try.prog fid [dbV d, .rptr p, .rptr r] (.c (.int .i64 (s d)))) :
    Does Try.prog 74 [dbsV n l, .fn (.func fid) [] [.rptr p, .rptr r]] (qr (totT s l n)) := by
  refine Does.mk (fun _ => false) TT_ok Try.func74 rfl (by kernel_rfl) Try.ntmps74 rfl rfl fun E hT hE hN hR => ?_
  have hm : E.P.follows .mixedOrders = true := by rw [hE]; kernel_rfl
  refine XK.fact (Sat.rs_len (j := 0) rfl) fun hlen => ?_
  have hm' := hlen.1
  (repeat (first | refine XK.norm rfl rfl ?_ | refine XK.rgnA hT rfl rfl rfl ?_ | refine XK.rgnB hT hm rfl rfl rfl ?_))
  refine XK.loop (ι := Nat) (fun i => ST.of [(1, .fn (.func fid) [] [.rptr p, .rptr r]), (4, .ptr 4 0), (6, .ptr 51 0), (13, dbsV n l), (14, .c (.int .i64 n)), (15, .c (.int .i64 i))] [(4, .cells 37 [.c (.int .i64 0), .c (.int .i64 0)]), (51, .cells 37 (qc (totT s l i).1))] 1000 45 (fun _ => false))
    (fun i => i ≤ n ∧ (totT s l i).2 = 0) (fun i => n - i) 0 ⟨Nat.zero_le _, rfl⟩ (Weak.of hN rfl rfl rfl (by (repeat' (first | exact rfl | exact AvIs.refl _ | exact trivial | exact fun _ _ => rfl | exact fun _ _ => ⟨rfl, AvIs.refl _⟩ | refine ⟨?_, ?_⟩))) (by (repeat' (first | exact rfl | exact AvIs.refl _ | exact trivial | exact fun _ _ => rfl | exact fun _ _ => ⟨rfl, AvIs.refl _⟩ | refine ⟨?_, ?_⟩)))) fun i hi => ?_
  obtain ⟨hi1, hi2⟩ := hi
  (repeat (first | refine XK.norm rfl rfl ?_ | refine XK.rgnA hT rfl rfl rfl ?_ | refine XK.rgnB hT hm rfl rfl rfl ?_)); refine XK.cond rfl (fun hlt => ?_) (fun hlt => ?_) <;> (try simp at hlt)
  · have hq := hl i hlt
    have hb := qOk_iff.1 hq
    have hsi := hs (l i)
    have hf := hfn (l i)
    have hTt : totT s l (i + 1) = if s (l i) = 0 then totT s l i else if (addR (totT s l i).1 (s (l i) * (l i).amt.1, (l i).amt.2)).2 ≠ 0 then ((0, 0), (addR (totT s l i).1 (s (l i) * (l i).amt.1, (l i).amt.2)).2)
      else ((addR (totT s l i).1 (s (l i) * (l i).amt.1, (l i).amt.2)).1, 0) := by
      simp only [totT, hi2, ne_eq, not_true_eq_false, if_false]
    have hlast := fun h => totT_stop (s := s) (l := l) (i := i + 1) h n hlt
    have wT := totT_W s l i
    have fi : l (i : Int).toNat = l i := rfl
    have hk2 : inK .i64 (s (l i) * (l i).amt.1) := by
      simp only [inK]
      rcases hsi with h | h | h <;> rw [h] <;> omega
    have ad := add_ok (totT s l i).1 (s (l i) * (l i).amt.1, (l i).amt.2) wT ⟨hk2, (qOk_W hq).2⟩
    generalize hab : addR (totT s l i).1 (s (l i) * (l i).amt.1, (l i).amt.2) = ab at *
    (repeat (first | refine XK.norm rfl rfl ?_ | refine XK.rgnA hT rfl rfl rfl ?_ | refine XK.rgnB hT hm rfl rfl rfl ?_)); refine XK.region ?_; refine XL.goA hT rfl rfl rfl rfl ?_
    refine XL.callLA hE rfl rfl rfl rfl trivial rfl (hf) rfl ?_
    refine XL.goA hT rfl rfl rfl rfl ?_; refine XL.fin ?_; (repeat (first | refine XK.norm rfl rfl ?_ | refine XK.rgnA hT rfl rfl rfl ?_ | refine XK.rgnB hT hm rfl rfl rfl ?_))
    (repeat (first | refine XK.norm rfl rfl ?_ | refine XK.rgnA hT rfl rfl rfl ?_ | refine XK.rgnB hT hm rfl rfl rfl ?_)); refine XK.cond rfl (fun h1 => ?_) (fun h1 => ?_) <;> (try simp at h1)
    · rw [if_pos h1] at hTt
      (repeat (first | refine XK.norm rfl rfl ?_ | refine XK.rgnA hT rfl rfl rfl ?_ | refine XK.rgnB hT hm rfl rfl rfl ?_))
      refine XK.inv ⟨i + 1, ⟨hlt, by rw [hTt]; exact hi2⟩, ?_, by omega⟩
      rw [hTt]
      exact (Weak.of hN rfl rfl rfl (by (repeat' (first | exact rfl | exact AvIs.refl _ | exact trivial | exact fun _ _ => rfl | exact fun _ _ => ⟨rfl, AvIs.refl _⟩ | refine ⟨?_, ?_⟩))) (by (repeat' (first | exact rfl | exact AvIs.refl _ | exact trivial | exact fun _ _ => rfl | exact fun _ _ => ⟨rfl, AvIs.refl _⟩ | refine ⟨?_, ?_⟩))))
    · rw [if_neg h1] at hTt
      have hk3 : inK .i64 (s (l i) * (l (i : Int).toNat).amt.1) := hk2
      simp only [inK] at hk3
      (repeat (first | refine XK.norm rfl rfl ?_ | refine XK.rgnA hT rfl rfl rfl ?_ | refine XK.rgnB hT hm rfl rfl rfl ?_)); refine XK.region ?_; refine XL.goA hT rfl rfl rfl rfl ?_
      refine XL.callLA hE rfl rfl rfl rfl trivial rfl (ad) rfl ?_
      refine XL.goA hT rfl rfl rfl rfl ?_; refine XL.fin ?_; (repeat (first | refine XK.norm rfl rfl ?_ | refine XK.rgnA hT rfl rfl rfl ?_ | refine XK.rgnB hT hm rfl rfl rfl ?_))
      (repeat (first | refine XK.norm rfl rfl ?_ | refine XK.rgnA hT rfl rfl rfl ?_ | refine XK.rgnB hT hm rfl rfl rfl ?_)); refine XK.cond rfl (fun h2 => ?_) (fun h2 => ?_) <;> (try simp at h2)
      · rw [if_pos h2] at hTt
        (repeat (first | refine XK.norm rfl rfl ?_ | refine XK.rgnA hT rfl rfl rfl ?_ | refine XK.rgnB hT hm rfl rfl rfl ?_))
        (first | refine XK.out rfl rfl rfl ?_ | refine XK.outN rfl rfl rfl ?_)
        rw [hlast (by rw [hTt]; exact h2), hTt]
        rfl
      · rw [if_neg (by simpa using h2)] at hTt
        (repeat (first | refine XK.norm rfl rfl ?_ | refine XK.rgnA hT rfl rfl rfl ?_ | refine XK.rgnB hT hm rfl rfl rfl ?_))
        refine XK.inv ⟨i + 1, ⟨hlt, by rw [hTt]⟩, ?_, by omega⟩
        rw [hTt]
        exact (Weak.of hN rfl rfl rfl (by (repeat' (first | exact rfl | exact AvIs.refl _ | exact trivial | exact fun _ _ => rfl | exact fun _ _ => ⟨rfl, AvIs.refl _⟩ | refine ⟨?_, ?_⟩))) (by (repeat' (first | exact rfl | exact AvIs.refl _ | exact trivial | exact fun _ _ => rfl | exact fun _ _ => ⟨rfl, AvIs.refl _⟩ | refine ⟨?_, ?_⟩))))
  · have hin : i = n := by omega
    subst hin
    (repeat (first | refine XK.norm rfl rfl ?_ | refine XK.rgnA hT rfl rfl rfl ?_ | refine XK.rgnB hT hm rfl rfl rfl ?_))
    (first | refine XK.out rfl rfl rfl ?_ | refine XK.outN rfl rfl rfl ?_)
    unfold qr
    rw [hi2]
    rfl
theorem totT_qOk {s : Db → Int} {l : Nat → Db} : ∀ {n : Nat}, (totT s l n).2 = 0 → qOk (totT s l n).1 = true
  | 0, _ => show qOk (0, 1) = true by decide
  | n + 1, h => by
    by_cases h0 : (totT s l n).2 = 0
    · have ih := totT_qOk h0
      simp only [totT, h0, ne_eq, not_true_eq_false, if_false] at h ⊢
      split
      · exact ih
      · rename_i h1
        rw [if_neg h1] at h
        split
        · rename_i h2
          rw [if_pos h2] at h
          exact absurd h h2
        · rename_i h2
          exact (addR_ok (by simpa using h2)).2.1
    · rw [totT_stop h0 (n + 1) (by omega)] at h
      exact absurd h h0
end Go.Proofs.Ytbheoblmfjjaaaa
end
section
/- How this seat's Go types read as values of Lean types. -/
namespace Go.Proofs.Ytbheoblmfjjaaaa
open Go.Eng
set_option maxRecDepth 10000
set_option linter.unusedSimpArgs false
set_option linter.unusedVariables false
instance : Inhabited U := ⟨⟨emptyName, 0, 0, (0, 0)⟩⟩
instance : Inhabited A := ⟨⟨0, (0, 0)⟩⟩
noncomputable def cInt : Codec Try.prog 3 Int := Codec.int .i64 (show Try.prog.underlying 3 = some (.int .i64) from by kernel_rfl) (by kernel_rfl)
noncomputable def cU8 : Codec Try.prog 5 Int := Codec.int .u8 (show Try.prog.underlying 5 = some (.int .u8) from by kernel_rfl) (by kernel_rfl)
noncomputable def cStr : Codec Try.prog 9 ByteArray := Codec.str (show Try.prog.underlying 9 = some .string from by kernel_rfl) (by kernel_rfl)
noncomputable def cQ : Codec Try.prog 37 Q := (Codec.struct ty37_k rfl (.cons cInt (.cons cInt (.nil _ _))) (by kernel_rfl)).map (fun x => (x.1, x.2.1)) qc qW (fun _ => rfl) (fun _ => rfl) (fun _ h => ⟨h.1, h.2.1⟩)
noncomputable def cU : Codec Try.prog 156 U := (Codec.struct ty156_k rfl (.cons cStr (.cons cInt (.cons cInt (.cons cQ (.nil _ _))))) (by kernel_rfl)).map (fun x => ⟨x.1, x.2.1, x.2.2.1, x.2.2.2.1⟩) uc uW (fun _ => rfl) (fun _ => rfl) (fun _ h => ⟨h.2.1, h.2.2.1, h.2.2.2.1⟩)
noncomputable def cQs : Codec Try.prog 22 (List Q) := Codec.slice cQ ty22_k (by decide) (by kernel_rfl)
noncomputable def cUs : Codec Try.prog 50 (List U) := Codec.slice cU ty50_k (by decide) (by kernel_rfl)
theorem all_getD {α : Type} [Inhabited α] {p : α → Prop} {l : List α} (h : ∀ a ∈ l, p a) : ∀ j, j < l.length → p (l.getD j default) := by
  intro j hj
  simp only [List.getD_eq_getElem?_getD, List.getElem?_eq_getElem hj, Option.getD_some]
  exact h _ (List.getElem_mem hj)
end Go.Proofs.Ytbheoblmfjjaaaa
end
