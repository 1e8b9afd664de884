import Derived.Test.YtiiegpjpckkohaaPP
import Derived.Test.YtiiegpjpckkohaaPG
import Derived.Test.YtiiegpjpckkohaaPT
import Derived.Test.YtiiegpjpckkohaaPQ
section
/- Contracts: the law's own add and zeros (chapter 17). -/
namespace Go.Proofs.Ytiiegpjpckkohaa
open Go.Eng
set_option maxRecDepth 10000
set_option linter.unusedSimpArgs false
set_option linter.unusedVariables false
def addB (n m : Nat) (a b : Nat → Q) : Bool := decide (n ≤ m) && (List.range n).all (fun i => (addR (a i) (b i)).2 == 0)
def addQ (a b : Nat → Q) : Nat → Q := fun i => (addR (a i) (b i)).1
theorem addB_true {n m : Nat} {a b : Nat → Q} : addB n m a b = true ↔ n ≤ m ∧ ∀ i, i < n → (addR (a i) (b i)).2 = 0 := by
  simp [addB]
theorem addB_false {n m : Nat} {a b : Nat → Q} {i : Nat} (hi : i < n) (h : m ≤ i ∨ (addR (a i) (b i)).2 ≠ 0) : addB n m a b = false := by
  rw [Bool.eq_false_iff]
  intro hh
  obtain ⟨h1, h2⟩ := addB_true.1 hh
  have := h2 i hi
  omega
def addV (n m : Nat) (a b : Nat → Q) : AV := .tup [ratV (if addB n m a b = true then n else 0) (addQ a b), .c (.bool (addB n m a b))]
theorem add17_ok (n m : Nat) (a b : Nat → Q) (hn : n ≤ 400) (ha : ∀ i, i < n → qW (a i)) (hb : ∀ i, i < m → qW (b i)) : Does Try.prog 33 [ratV n a, ratV m b] (addV n m a b) := by
  refine Does.mk (fun _ => false) TT_ok Try.func33 rfl (by kernel_rfl) Try.ntmps33 rfl rfl fun E hT hE hN hR => ?_
  have hm : E.P.follows .mixedOrders = true := by rw [hE]; kernel_rfl
  refine XK.fact (Sat.rs_len (j := 1) rfl) fun hlen => ?_
  have hm' := hlen.1
  (repeat (first | refine XK.norm rfl rfl ?_ | refine XK.rgnA hT rfl rfl rfl ?_ | refine XK.rgnB hT hm rfl rfl rfl ?_))
  refine XK.loop (ι := Nat) (fun i => ST.of [(0, ratV n a), (1, ratV m b), (6, .vec 700 0), (7, .c (.int .i64 i))] [(700, .vec 29 2 0 i (fun j => qc (addQ a b j)))] 1000 39 (fun _ => false))
    (fun i => i ≤ n ∧ ∀ j, j < i → j < m ∧ (addR (a j) (b j)).2 = 0) (fun i => n - i) 0 ⟨Nat.zero_le _, fun j hj => absurd hj (Nat.not_lt_zero _)⟩
    (Weak.trans (Weak.ghost (j := 6) (k := 700) (e := 29) (sz := 2) (f := fun _ => []) rfl rfl) (Weak.of hN rfl rfl rfl (by (repeat' (first | exact rfl | exact AvIs.refl _ | exact trivial | exact fun _ _ => rfl | exact fun _ _ => ⟨rfl, AvIs.refl _⟩ | refine ⟨?_, ?_⟩))) ⟨⟨rfl, rfl, rfl⟩, rfl, fun i hi => absurd hi (Nat.not_lt_zero _)⟩)) fun i hi => ?_
  obtain ⟨hi1, hi2⟩ := hi
  (repeat (first | refine XK.norm rfl rfl ?_ | refine XK.rgnA hT rfl rfl rfl ?_ | refine XK.rgnB hT hm rfl rfl rfl ?_)); refine XK.cond rfl (fun hlt => ?_) (fun hlt => ?_) <;> (try simp at hlt)
  · (repeat (first | refine XK.norm rfl rfl ?_ | refine XK.rgnA hT rfl rfl rfl ?_ | refine XK.rgnB hT hm rfl rfl rfl ?_)); refine XK.cond rfl (fun h1 => ?_) (fun h1 => ?_) <;> (try simp at h1)
    · (repeat (first | refine XK.norm rfl rfl ?_ | refine XK.rgnA hT rfl rfl rfl ?_ | refine XK.rgnB hT hm rfl rfl rfl ?_))
      (first | refine XK.outL rfl rfl rfl ?_ | refine XK.outLN rfl rfl rfl ?_)
      unfold addV
      rw [addB_false hlt (.inl h1)]
      exact ⟨⟨rfl, rfl⟩, rfl⟩
    · have ad := add_ok (a i) (b i) (ha i hlt) (hb i h1)
      have hf := fun h => addB_false (n := n) (m := m) (a := a) (b := b) hlt (.inr h)
      have hq : addQ a b i = (addR (a i) (b i)).1 := rfl
      have hstep : (addR (a i) (b i)).2 = 0 → ∀ j, j < i + 1 → j < m ∧ (addR (a j) (b j)).2 = 0 := fun h j hj => by
        by_cases hji : j = i
        · subst hji; exact ⟨h1, h⟩
        · exact hi2 j (by omega)
      generalize addR (a i) (b i) = ab at *
      (repeat (first | refine XK.norm rfl rfl ?_ | refine XK.rgnA hT rfl rfl rfl ?_ | refine XK.rgnB hT hm rfl rfl rfl ?_)); refine XK.drawn hm ?_; refine XD.goA hT rfl rfl rfl rfl ?_
      refine XD.callLA hE rfl rfl rfl rfl trivial rfl (ad) rfl ?_
      refine XD.goA hT rfl rfl rfl rfl ?_; refine XD.fin (by kernel_rfl) ?_; (repeat (first | refine XK.norm rfl rfl ?_ | refine XK.rgnA hT rfl rfl rfl ?_ | refine XK.rgnB hT hm rfl rfl rfl ?_))
      (repeat (first | refine XK.norm rfl rfl ?_ | refine XK.rgnA hT rfl rfl rfl ?_ | refine XK.rgnB hT hm rfl rfl rfl ?_)); refine XK.cond rfl (fun h2 => ?_) (fun h2 => ?_) <;> (try simp at h2)
      · (repeat (first | refine XK.norm rfl rfl ?_ | refine XK.rgnA hT rfl rfl rfl ?_ | refine XK.rgnB hT hm rfl rfl rfl ?_))
        (first | refine XK.outL rfl rfl rfl ?_ | refine XK.outLN rfl rfl rfl ?_)
        unfold addV
        rw [hf h2]
        exact ⟨⟨rfl, rfl⟩, rfl⟩
      · (repeat (first | refine XK.norm rfl rfl ?_ | refine XK.rgnA hT rfl rfl rfl ?_ | refine XK.rgnB hT hm rfl rfl rfl ?_))
        refine XK.inv ⟨i + 1, ⟨hlt, hstep h2⟩, Weak.trans (Weak.stamp (k := 700) (t := 0) hN rfl rfl) (Weak.of hN rfl rfl rfl (by (repeat' (first | exact rfl | exact AvIs.refl _ | exact trivial | exact fun _ _ => rfl | exact fun _ _ => ⟨rfl, AvIs.refl _⟩ | refine ⟨?_, ?_⟩))) ⟨⟨rfl, rfl, rfl⟩, rfl, fun j hj => (catF_one (g := fun j => qc (addQ a b j)) (by rw [hq]; rfl) (fun j hj => rfl) j hj).symm⟩), by omega⟩
  · have hin : i = n := by omega
    subst hin
    have hok : addB i m a b = true := addB_true.2 ⟨by
      by_cases h0 : i = 0
      · omega
      · have := (hi2 (i - 1) (by omega)).1; omega, fun j hj => (hi2 j hj).2⟩
    refine XK.weak (Weak.trans (Weak.frozen (k := 700) hN rfl rfl) (Weak.of (L := [(6, ratV i (addQ a b))]) (O := []) (nx := 1000) (nt := 39) (md := fun _ => false) hN rfl rfl rfl (by (repeat' (first | exact rfl | exact AvIs.refl _ | exact trivial | exact fun _ _ => rfl | exact fun _ _ => ⟨rfl, AvIs.refl _⟩ | refine ⟨?_, ?_⟩))) trivial)) ?_
    (repeat (first | refine XK.norm rfl rfl ?_ | refine XK.rgnA hT rfl rfl rfl ?_ | refine XK.rgnB hT hm rfl rfl rfl ?_))
    (first | refine XK.outL rfl rfl rfl ?_ | refine XK.outLN rfl rfl rfl ?_)
    unfold addV
    rw [hok]
    exact ⟨⟨rfl, (if_pos rfl).symm, fun i _ => rfl⟩, rfl⟩
theorem addM_ok (n m : Nat) (a b : Nat → Q) (hn : n ≤ 400) (ha : ∀ i, i < n → qW (a i)) (hb : ∀ i, i < m → qW (b i)) (hok : addB n m a b = true) : DoesM Try.prog 33 [ratV n a, ratV m b] [] (.tup [.vec 0 0, .c (.bool true)]) [.vec 29 2 0 n (fun j => qc (addQ a b j))] := by
  refine DoesM.mk (fun _ => false) 100 TT_ok Try.func33 rfl (by kernel_rfl) Try.ntmps33 rfl rfl rfl fun E hT hE hN hR => ?_
  have hm : E.P.follows .mixedOrders = true := by rw [hE]; kernel_rfl
  refine XK.fact (Sat.rs_len (j := 1) rfl) fun hlen => ?_
  have hm' := hlen.1
  (repeat (first | refine XK.norm rfl rfl ?_ | refine XK.rgnA hT rfl rfl rfl ?_ | refine XK.rgnB hT hm rfl rfl rfl ?_))
  refine XK.loop (ι := Nat) (fun i => ST.of [(0, ratV n a), (1, ratV m b), (6, .vec 700 0), (7, .c (.int .i64 i))] [(700, .vec 29 2 0 i (fun j => qc (addQ a b j)))] 1000 39 (fun _ => false))
    (fun i => i ≤ n ∧ ∀ j, j < i → j < m ∧ (addR (a j) (b j)).2 = 0) (fun i => n - i) 0 ⟨Nat.zero_le _, fun j hj => absurd hj (Nat.not_lt_zero _)⟩
    (Weak.trans (Weak.ghost (j := 6) (k := 700) (e := 29) (sz := 2) (f := fun _ => []) rfl rfl) (Weak.of hN rfl rfl rfl (by (repeat' (first | exact rfl | exact AvIs.refl _ | exact trivial | exact fun _ _ => rfl | exact fun _ _ => ⟨rfl, AvIs.refl _⟩ | refine ⟨?_, ?_⟩))) ⟨⟨rfl, rfl, rfl⟩, rfl, fun i hi => absurd hi (Nat.not_lt_zero _)⟩)) fun i hi => ?_
  obtain ⟨hi1, hi2⟩ := hi
  (repeat (first | refine XK.norm rfl rfl ?_ | refine XK.rgnA hT rfl rfl rfl ?_ | refine XK.rgnB hT hm rfl rfl rfl ?_)); refine XK.cond rfl (fun hlt => ?_) (fun hlt => ?_) <;> (try simp at hlt)
  · (repeat (first | refine XK.norm rfl rfl ?_ | refine XK.rgnA hT rfl rfl rfl ?_ | refine XK.rgnB hT hm rfl rfl rfl ?_)); refine XK.cond rfl (fun h1 => ?_) (fun h1 => ?_) <;> (try simp at h1)
    · exfalso; rw [addB_false hlt (.inl h1)] at hok; cases hok
    · have ad := add_ok (a i) (b i) (ha i hlt) (hb i h1)
      have hf := fun h => addB_false (n := n) (m := m) (a := a) (b := b) hlt (.inr h)
      have hq : addQ a b i = (addR (a i) (b i)).1 := rfl
      have hstep : (addR (a i) (b i)).2 = 0 → ∀ j, j < i + 1 → j < m ∧ (addR (a j) (b j)).2 = 0 := fun h j hj => by
        by_cases hji : j = i
        · subst hji; exact ⟨h1, h⟩
        · exact hi2 j (by omega)
      generalize addR (a i) (b i) = ab at *
      (repeat (first | refine XK.norm rfl rfl ?_ | refine XK.rgnA hT rfl rfl rfl ?_ | refine XK.rgnB hT hm rfl rfl rfl ?_)); refine XK.drawn hm ?_; refine XD.goA hT rfl rfl rfl rfl ?_
      refine XD.callLA hE rfl rfl rfl rfl trivial rfl (ad) rfl ?_
      refine XD.goA hT rfl rfl rfl rfl ?_; refine XD.fin (by kernel_rfl) ?_; (repeat (first | refine XK.norm rfl rfl ?_ | refine XK.rgnA hT rfl rfl rfl ?_ | refine XK.rgnB hT hm rfl rfl rfl ?_))
      (repeat (first | refine XK.norm rfl rfl ?_ | refine XK.rgnA hT rfl rfl rfl ?_ | refine XK.rgnB hT hm rfl rfl rfl ?_)); refine XK.cond rfl (fun h2 => ?_) (fun h2 => ?_) <;> (try simp at h2)
      · exfalso; rw [hf h2] at hok; cases hok
      · (repeat (first | refine XK.norm rfl rfl ?_ | refine XK.rgnA hT rfl rfl rfl ?_ | refine XK.rgnB hT hm rfl rfl rfl ?_))
        refine XK.inv ⟨i + 1, ⟨hlt, hstep h2⟩, Weak.trans (Weak.stamp (k := 700) (t := 0) hN rfl rfl) (Weak.of hN rfl rfl rfl (by (repeat' (first | exact rfl | exact AvIs.refl _ | exact trivial | exact fun _ _ => rfl | exact fun _ _ => ⟨rfl, AvIs.refl _⟩ | refine ⟨?_, ?_⟩))) ⟨⟨rfl, rfl, rfl⟩, rfl, fun j hj => (catF_one (g := fun j => qc (addQ a b j)) (by rw [hq]; rfl) (fun j hj => rfl) j hj).symm⟩), by omega⟩
  · have hin : i = n := by omega
    subst hin
    (repeat (first | refine XK.norm rfl rfl ?_ | refine XK.rgnA hT rfl rfl rfl ?_ | refine XK.rgnB hT hm rfl rfl rfl ?_))
    (first | refine XK.outR [700] hN rfl rfl rfl ?_ rfl rfl ?_ | refine XK.outRN [700] hN rfl rfl rfl ?_ rfl rfl ?_)
    · (repeat' (first | exact rfl | exact AvIs.refl _ | exact trivial | exact fun _ _ => rfl | exact fun _ _ => ⟨rfl, AvIs.refl _⟩ | refine ⟨?_, ?_⟩))
    · (repeat' (first | exact rfl | exact AvIs.refl _ | exact trivial | exact fun _ _ => rfl | exact fun _ _ => ⟨rfl, AvIs.refl _⟩ | refine ⟨?_, ?_⟩))
theorem zeros_ok (n : Nat) (hn : n ≤ 400) : Does Try.prog 30 [.c (.int .i64 n)] (ratV n (fun _ => (0, 1))) := by
  refine Does.mk (fun _ => false) TT_ok Try.func30 rfl (by kernel_rfl) Try.ntmps30 rfl rfl fun E hT hE hN hR => ?_
  have hm : E.P.follows .mixedOrders = true := by rw [hE]; kernel_rfl
  (repeat (first | refine XK.norm rfl rfl ?_ | refine XK.rgnA hT rfl rfl rfl ?_ | refine XK.rgnB hT hm rfl rfl rfl ?_))
  refine XK.loop (ι := Nat) (fun i => ST.of [(0, .c (.int .i64 n)), (3, .vec 700 0), (4, .c (.int .i64 i))] [(700, .vec 29 2 0 i (fun j => qc (0, 1)))] 1000 15 (fun _ => false))
    (fun i => i ≤ n) (fun i => n - i) 0 (Nat.zero_le _)
    (Weak.trans (Weak.ghost (j := 3) (k := 700) (e := 29) (sz := 2) (f := fun _ => []) rfl rfl) (Weak.of hN rfl rfl rfl (by (repeat' (first | exact rfl | exact AvIs.refl _ | exact trivial | exact fun _ _ => rfl | exact fun _ _ => ⟨rfl, AvIs.refl _⟩ | refine ⟨?_, ?_⟩))) ⟨⟨rfl, rfl, rfl⟩, rfl, fun i hi => absurd hi (Nat.not_lt_zero _)⟩)) fun i hi1 => ?_
  (repeat (first | refine XK.norm rfl rfl ?_ | refine XK.rgnA hT rfl rfl rfl ?_ | refine XK.rgnB hT hm rfl rfl rfl ?_)); refine XK.cond rfl (fun hlt => ?_) (fun hlt => ?_) <;> (try simp at hlt)
  · (repeat (first | refine XK.norm rfl rfl ?_ | refine XK.rgnA hT rfl rfl rfl ?_ | refine XK.rgnB hT hm rfl rfl rfl ?_)); refine XK.region ?_; refine XL.goA hT rfl rfl rfl rfl ?_
    refine XL.callLA hE rfl rfl rfl rfl trivial rfl (whole17_ok 0) rfl ?_
    refine XL.goA hT rfl rfl rfl rfl ?_; refine XL.fin ?_; (repeat (first | refine XK.norm rfl rfl ?_ | refine XK.rgnA hT rfl rfl rfl ?_ | refine XK.rgnB hT hm rfl rfl rfl ?_))
    (repeat (first | refine XK.norm rfl rfl ?_ | refine XK.rgnA hT rfl rfl rfl ?_ | refine XK.rgnB hT hm rfl rfl rfl ?_))
    refine XK.inv ⟨i + 1, hlt, Weak.trans (Weak.stamp (k := 700) (t := 0) hN rfl rfl) (Weak.of hN rfl rfl rfl (by (repeat' (first | exact rfl | exact AvIs.refl _ | exact trivial | exact fun _ _ => rfl | exact fun _ _ => ⟨rfl, AvIs.refl _⟩ | refine ⟨?_, ?_⟩))) ⟨⟨rfl, rfl, rfl⟩, rfl, fun j hj => (catF_one (g := fun j => qc (0, 1)) rfl (fun j hj => rfl) j hj).symm⟩), by omega⟩
  · have hin : i = n := by omega
    subst hin
    refine XK.weak (Weak.trans (Weak.frozen (k := 700) hN rfl rfl) (Weak.of (L := [(3, ratV i (fun _ => (0, 1)))]) (O := []) (nx := 1000) (nt := 15) (md := fun _ => false) hN rfl rfl rfl (by (repeat' (first | exact rfl | exact AvIs.refl _ | exact trivial | exact fun _ _ => rfl | exact fun _ _ => ⟨rfl, AvIs.refl _⟩ | refine ⟨?_, ?_⟩))) trivial)) ?_
    (repeat (first | refine XK.norm rfl rfl ?_ | refine XK.rgnA hT rfl rfl rfl ?_ | refine XK.rgnB hT hm rfl rfl rfl ?_))
    (first | refine XK.outL rfl rfl rfl ?_ | refine XK.outLN rfl rfl rfl ?_)
    exact AvIs.refl _
theorem zerosM_ok (n : Nat) (hn : n ≤ 400) : DoesM Try.prog 30 [.c (.int .i64 n)] [] (.vec 0 0) [.vec 29 2 0 n (fun _ => qc (0, 1))] := by
  refine DoesM.mk (fun _ => false) 100 TT_ok Try.func30 rfl (by kernel_rfl) Try.ntmps30 rfl rfl rfl fun E hT hE hN hR => ?_
  have hm : E.P.follows .mixedOrders = true := by rw [hE]; kernel_rfl
  (repeat (first | refine XK.norm rfl rfl ?_ | refine XK.rgnA hT rfl rfl rfl ?_ | refine XK.rgnB hT hm rfl rfl rfl ?_))
  refine XK.loop (ι := Nat) (fun i => ST.of [(0, .c (.int .i64 n)), (3, .vec 700 0), (4, .c (.int .i64 i))] [(700, .vec 29 2 0 i (fun j => qc (0, 1)))] 1000 15 (fun _ => false))
    (fun i => i ≤ n) (fun i => n - i) 0 (Nat.zero_le _)
    (Weak.trans (Weak.ghost (j := 3) (k := 700) (e := 29) (sz := 2) (f := fun _ => []) rfl rfl) (Weak.of hN rfl rfl rfl (by (repeat' (first | exact rfl | exact AvIs.refl _ | exact trivial | exact fun _ _ => rfl | exact fun _ _ => ⟨rfl, AvIs.refl _⟩ | refine ⟨?_, ?_⟩))) ⟨⟨rfl, rfl, rfl⟩, rfl, fun i hi => absurd hi (Nat.not_lt_zero _)⟩)) fun i hi1 => ?_
  (repeat (first | refine XK.norm rfl rfl ?_ | refine XK.rgnA hT rfl rfl rfl ?_ | refine XK.rgnB hT hm rfl rfl rfl ?_)); refine XK.cond rfl (fun hlt => ?_) (fun hlt => ?_) <;> (try simp at hlt)
  · (repeat (first | refine XK.norm rfl rfl ?_ | refine XK.rgnA hT rfl rfl rfl ?_ | refine XK.rgnB hT hm rfl rfl rfl ?_)); refine XK.region ?_; refine XL.goA hT rfl rfl rfl rfl ?_
    refine XL.callLA hE rfl rfl rfl rfl trivial rfl (whole17_ok 0) rfl ?_
    refine XL.goA hT rfl rfl rfl rfl ?_; refine XL.fin ?_; (repeat (first | refine XK.norm rfl rfl ?_ | refine XK.rgnA hT rfl rfl rfl ?_ | refine XK.rgnB hT hm rfl rfl rfl ?_))
    (repeat (first | refine XK.norm rfl rfl ?_ | refine XK.rgnA hT rfl rfl rfl ?_ | refine XK.rgnB hT hm rfl rfl rfl ?_))
    refine XK.inv ⟨i + 1, hlt, Weak.trans (Weak.stamp (k := 700) (t := 0) hN rfl rfl) (Weak.of hN rfl rfl rfl (by (repeat' (first | exact rfl | exact AvIs.refl _ | exact trivial | exact fun _ _ => rfl | exact fun _ _ => ⟨rfl, AvIs.refl _⟩ | refine ⟨?_, ?_⟩))) ⟨⟨rfl, rfl, rfl⟩, rfl, fun j hj => (catF_one (g := fun j => qc (0, 1)) rfl (fun j hj => rfl) j hj).symm⟩), by omega⟩
  · have hin : i = n := by omega
    subst hin
    (repeat (first | refine XK.norm rfl rfl ?_ | refine XK.rgnA hT rfl rfl rfl ?_ | refine XK.rgnB hT hm rfl rfl rfl ?_))
    (first | refine XK.outR [700] hN rfl rfl rfl ?_ rfl rfl ?_ | refine XK.outRN [700] hN rfl rfl rfl ?_ rfl rfl ?_)
    · (repeat' (first | exact rfl | exact AvIs.refl _ | exact trivial | exact fun _ _ => rfl | exact fun _ _ => ⟨rfl, AvIs.refl _⟩ | refine ⟨?_, ?_⟩))
    · (repeat' (first | exact rfl | exact AvIs.refl _ | exact trivial | exact fun _ _ => rfl | exact fun _ _ => ⟨rfl, AvIs.refl _⟩ | refine ⟨?_, ?_⟩))
end Go.Proofs.Ytiiegpjpckkohaa
end
section
/- What all have given is what all have received. -/
namespace Go.Proofs.Ytiiegpjpckkohaa
open Go.Eng
set_option maxRecDepth 10000
set_option linter.unusedSimpArgs false
set_option linter.unusedVariables false
theorem holdTo_range {k : K} (hF : KFacts k) {l : List Int} (hl : stepsOk k l) {r : Nat} (hr : r < k.holders.length) : ∀ n, n ≤ l.length → 0 ≤ (holdTo k l r n).1 ∧ (holdTo k l r n).1 < k.parties
  | 0, _ => by
    have h := hF.held
    unfold heldB at h
    rw [List.all_eq_true] at h
    have := h (k.holders.getD r default) (by rw [List.getD_eq_getElem?_getD, List.getElem?_eq_getElem hr]; exact List.getElem_mem hr)
    simpa [holdTo] using this
  | n + 1, hn => by
    have ih := holdTo_range hF hl hr n (by omega)
    have hs := hl n (by omega)
    simp only [holdTo]
    split
    · exact ih
    · rename_i h1
      split
      · rename_i h2
        exact (act_give (hF.act (l.getD n default).toNat (by omega)) h2.1).2.1
      · exact ih
theorem mv_range {k : K} (hF : KFacts k) {l : List Int} (hl : stepsOk k l) (h9 : l.length < 900000) {i : Nat} (hi : i < l.length) {m : Mv} (h : mvAt k l i = some m) :
    (0 ≤ m.giver ∧ m.giver < k.parties) ∧ (m.recv = -1 ∨ 0 ≤ m.recv ∧ m.recv < k.parties) ∧ (0 ≤ m.unit ∧ m.unit < k.units.length) ∧ qOk m.val = true := by
  obtain ⟨ac, a1, a2, a3, a4, a5, a6, a7, a8, a9, a10⟩ := mv_facts hF hl hi h
  have hlink := (hold_link hF hl i (by omega) h9).1
  have hr := fun r h => holdTo_range hF hl (r := r) h i (by omega)
  refine ⟨?_, ?_, a3, ?_⟩
  · rw [a9, hlink ac.role.toNat (by omega)]
    exact hr _ (by omega)
  · rcases a8 with a8 | a8
    · left
      rw [a10, if_neg (by rw [a8]; simp)]
    · right
      rw [a10, if_pos (by omega), hlink ac.to.toNat (by omega)]
      exact hr _ (by omega)
  · simp only [posB, Bool.and_eq_true] at a4
    exact a4.2
/-- A step's part in a sum: of those whom P takes, in the unit u. -/
noncomputable def mvS (P : Mv → Prop) [DecidablePred P] (u : Nat) (mv : Nat → Option Mv) (i : Nat) : Rat := match mv i with
  | none => 0
  | some m => if P m ∧ m.unit.toNat = u then rt m.val else 0
theorem mvS_none {P : Mv → Prop} [DecidablePred P] {u : Nat} {mv : Nat → Option Mv} {i : Nat} (h : mv i = none) : mvS P u mv i = 0 := by simp only [mvS, h]
theorem mvS_some {P : Mv → Prop} [DecidablePred P] {u : Nat} {mv : Nat → Option Mv} {i : Nat} {m : Mv} (h : mv i = some m) : mvS P u mv i = if P m ∧ m.unit.toNat = u then rt m.val else 0 := by simp only [mvS, h]
theorem tlT_val {ch : Mv → Int} {p : Int} {mv : Nat → Option Mv} : ∀ {n : Nat}, (tlT ch p mv n).2.1 = 0 → ∀ u, qOk ((tlT ch p mv n).1 u) = true ∧ rt ((tlT ch p mv n).1 u) = S (mvS (fun m => ch m = p) u mv) n
  | 0, _, u => ⟨show qOk (0, 1) = true by decide, rt_zero⟩
  | n + 1, h, u => by
    by_cases h0 : (tlT ch p mv n).2.1 = 0
    · obtain ⟨i1, i2⟩ := tlT_val h0 u
      rw [S_succ]
      cases hm : mv n with
      | none =>
        rw [tlT_none hm h0, mvS_none hm]
        exact ⟨i1, by rw [i2]; grind⟩
      | some m =>
        rw [mvS_some hm]
        rw [tlT_some hm h0] at h ⊢
        simp only at h ⊢
        unfold stepS at h ⊢
        by_cases h1 : ch m ≠ p
        · rw [if_pos h1, if_neg (fun hh => h1 hh.1)]
          exact ⟨i1, by rw [i2]; grind⟩
        · rw [if_neg h1] at h ⊢
          have h1 : ch m = p := Decidable.not_not.1 h1
          by_cases h2 : (addR ((tlT ch p mv n).1 m.unit.toNat) m.val).2 ≠ 0
          · rw [if_pos h2] at h; cases h
          · rw [if_neg h2]
            obtain ⟨_, a1, a2⟩ := addR_ok (by simpa using h2)
            simp only [setQ]
            by_cases h3 : u = m.unit.toNat
            · subst h3
              rw [if_pos rfl, if_pos ⟨h1, rfl⟩, a2, (tlT_val h0 _).2]
              exact ⟨a1, rfl⟩
            · rw [if_neg h3, if_neg (fun hh => h3 hh.2.symm)]
              exact ⟨i1, by rw [i2]; grind⟩
    · rw [tlT_stop h0 (n + 1) (by omega)] at h
      exact absurd h h0
theorem sumsR_val {k : K} {l : List Int} {p : Int} {ch : Mv → Int} (h : (sumsR k l p ch).2 = 0) : ∀ u, qOk ((sumsR k l p ch).1 u) = true ∧ rt ((sumsR k l p ch).1 u) = S (mvS (fun m => ch m = p) u (mvAt k l)) l.length := by
  unfold sumsR at h ⊢
  split at h
  · exact absurd h ‹_›
  · rename_i h1
    rw [if_neg h1]
    split at h
    · cases h
    · rename_i h2
      rw [if_neg h2]
      exact tlT_val h
theorem S_add {f g : Nat → Rat} : ∀ {n : Nat}, S f n + S g n = S (fun i => f i + g i) n
  | 0 => by simp [S]; grind
  | n + 1 => by
    rw [S_succ, S_succ, S_succ, ← S_add (f := f) (g := g) (n := n)]
    grind
/-- The sums of the first parties. -/
def accT (f : Nat → Nat → Q) : Nat → Nat → Q
  | 0 => fun _ => (0, 1)
  | p + 1 => addQ (accT f p) (f p)
theorem accT_W {f : Nat → Nat → Q} : ∀ p u, qW (accT f p u)
  | 0, _ => ⟨by simp [accT, inK], by simp [accT, inK]⟩
  | p + 1, u => addR_W _ _
theorem accT_val {f : Nat → Nat → Q} {ch : Mv → Int} {mv : Nat → Option Mv} {n N : Nat} : ∀ {P : Nat}, (∀ p, p < P → addB N N (accT f p) (f p) = true) → (∀ p, p < P → ∀ u, rt (f p u) = S (mvS (fun m => ch m = p) u mv) n) →
    ∀ u, u < N → qOk (accT f P u) = true ∧ rt (accT f P u) = S (mvS (fun m => 0 ≤ ch m ∧ ch m < P) u mv) n
  | 0, _, _, u, _ => ⟨show qOk (0, 1) = true by decide, by
      show rt (0, 1) = _
      rw [rt_zero, S_zero]
      intro i _
      cases hm : mv i with
      | none => exact mvS_none hm
      | some m => rw [mvS_some hm, if_neg (by omega)]⟩
  | P + 1, h, hv, u, hu => by
    obtain ⟨i1, i2⟩ := accT_val (P := P) (fun p hp => h p (by omega)) (fun p hp => hv p (by omega)) u hu
    obtain ⟨_, a1, a2⟩ := addR_ok ((addB_true.1 (h P (by omega))).2 u hu)
    refine ⟨a1, ?_⟩
    show rt (addR _ _).1 = _
    rw [a2, i2, hv P (by omega) u, S_add]
    refine S_congr fun i _ => ?_
    cases hm : mv i with
    | none => rw [mvS_none hm, mvS_none hm, mvS_none hm]; grind
    | some m =>
      rw [mvS_some hm, mvS_some hm, mvS_some hm]
      by_cases h3 : m.unit.toNat = u
      · by_cases h4 : ch m = P
        · rw [if_neg (by omega), if_pos ⟨h4, h3⟩, if_pos (by omega)]; grind
        · rw [if_neg (show ¬ (ch m = (P : Int) ∧ m.unit.toNat = u) from fun hh => h4 hh.1)]
          by_cases h5 : 0 ≤ ch m ∧ ch m < P
          · rw [if_pos ⟨h5, h3⟩, if_pos (by omega)]; grind
          · rw [if_neg (fun hh => h5 hh.1), if_neg (by omega)]; grind
      · rw [if_neg (fun hh => h3 hh.2), if_neg (fun hh => h3 hh.2), if_neg (fun hh => h3 hh.2)]; grind
/-- What acts without a receiver move, added to sums. -/
def outT (mv : Nat → Option Mv) (q : Nat → Q) : Nat → Nat → Q
  | 0 => q
  | i + 1 => match mv i with
    | none => outT mv q i
    | some m => if m.recv = -1 then setQ (outT mv q i) m.unit.toNat (addR (outT mv q i m.unit.toNat) m.val).1 else outT mv q i
def outOk (mv : Nat → Option Mv) (q : Nat → Q) (i : Nat) : Prop := ∀ m, mv i = some m → m.recv = -1 → (addR (outT mv q i m.unit.toNat) m.val).2 = 0
theorem outT_W {mv : Nat → Option Mv} {q : Nat → Q} (h : ∀ u, qW (q u)) : ∀ i u, qW (outT mv q i u)
  | 0, u => h u
  | i + 1, u => by
    have ih := outT_W (mv := mv) h i
    cases hm : mv i with
    | none => simp only [outT, hm]; exact ih u
    | some m =>
      simp only [outT, hm]
      split
      · simp only [setQ]
        split
        · exact addR_W _ _
        · exact ih u
      · exact ih u
theorem outT_val {mv : Nat → Option Mv} {q : Nat → Q} {N : Nat} (hq : ∀ u, u < N → qOk (q u) = true) : ∀ {n : Nat}, (∀ i, i < n → outOk mv q i) → ∀ u, u < N → qOk (outT mv q n u) = true ∧ rt (outT mv q n u) = rt (q u) + S (mvS (fun m => m.recv = -1) u mv) n
  | 0, _, u, hu => ⟨hq u hu, by show rt (q u) = rt (q u) + 0; grind⟩
  | n + 1, h, u, hu => by
    obtain ⟨i1, i2⟩ := outT_val hq (n := n) (fun i hi => h i (by omega)) u hu
    rw [S_succ]
    have hn := h n (by omega)
    unfold outOk at hn
    cases hm : mv n with
    | none =>
      simp only [outT, hm, mvS_none hm]
      exact ⟨i1, by rw [i2]; grind⟩
    | some m =>
      simp only [outT, hm, mvS_some hm]
      by_cases h1 : m.recv = -1
      · rw [if_pos h1]
        obtain ⟨_, a1, a2⟩ := addR_ok (hn m hm h1)
        simp only [setQ]
        by_cases h2 : u = m.unit.toNat
        · subst h2
          rw [if_pos rfl, if_pos ⟨h1, rfl⟩, a2, i2]
          exact ⟨a1, by grind⟩
        · rw [if_neg h2, if_neg (fun hh => h2 hh.2.symm), i2]
          exact ⟨i1, by grind⟩
      · rw [if_neg h1, if_neg (fun hh => h1 hh.1), i2]
        exact ⟨i1, by grind⟩
/-- All together. -/
theorem conserve {k : K} (hF : KFacts k) {l : List Int} (hl : stepsOk k l) (h9 : l.length < 900000) {P : Nat} (hP : k.parties = P)
    (g1 : ∀ p : Nat, p < P → (sumsR k l p Mv.giver).2 = 0 ∧ (sumsR k l p Mv.recv).2 = 0) (g2 : ∀ p, p < P → addB k.units.length k.units.length (accT (fun p => (sumsR k l p Mv.giver).1) p) ((sumsR k l p Mv.giver).1) = true)
    (g3 : ∀ p, p < P → addB k.units.length k.units.length (accT (fun p => (sumsR k l p Mv.recv).1) p) ((sumsR k l p Mv.recv).1) = true)
    (g4 : ∀ i, i < l.length → outOk (mvAt k l) (accT (fun p => (sumsR k l p Mv.recv).1) P) i) :
    ∀ u, u < k.units.length → accT (fun p => (sumsR k l p Mv.giver).1) P u = outT (mvAt k l) (accT (fun p => (sumsR k l p Mv.recv).1) P) l.length u := by
  intro u hu
  obtain ⟨a1, a2⟩ := accT_val (f := fun p => (sumsR k l p Mv.giver).1) (ch := Mv.giver) (mv := mvAt k l) (n := l.length) g2 (fun p hp u => (sumsR_val (g1 p hp).1 u).2) u hu
  have b := fun u hu => accT_val (f := fun p => (sumsR k l p Mv.recv).1) (ch := Mv.recv) (mv := mvAt k l) (n := l.length) g3 (fun p hp u => (sumsR_val (g1 p hp).2 u).2) u hu
  obtain ⟨c1, c2⟩ := outT_val (N := k.units.length) (fun u hu => (b u hu).1) g4 u hu
  refine rt_inj a1 c1 ?_
  rw [a2, c2, (b u hu).2, S_add]
  refine S_congr fun i hi => ?_
  cases hm : mvAt k l i with
  | none => rw [mvS_none hm, mvS_none hm, mvS_none hm]; grind
  | some m =>
    obtain ⟨r1, r2, _⟩ := mv_range hF hl h9 hi hm
    rw [mvS_some hm, mvS_some hm, mvS_some hm]
    by_cases h3 : m.unit.toNat = u
    · rw [if_pos (by omega)]
      rcases r2 with r2 | r2
      · rw [if_neg (by omega), if_pos ⟨r2, h3⟩]; grind
      · rw [if_pos (by omega), if_neg (by omega)]; grind
    · rw [if_neg (fun hh => h3 hh.2), if_neg (fun hh => h3 hh.2), if_neg (fun hh => h3 hh.2)]; grind
theorem tlT_code {ch : Mv → Int} {p : Int} {mv : Nat → Option Mv} : ∀ n, (tlT ch p mv n).2.1 = 0 ∨ (tlT ch p mv n).2.1 = 2
  | 0 => .inl rfl
  | n + 1 => by
    by_cases h0 : (tlT ch p mv n).2.1 = 0
    · cases hm : mv n with
      | none => rw [tlT_none hm h0]; exact .inl rfl
      | some m =>
        rw [tlT_some hm h0]
        simp only
        unfold stepS
        split
        · exact .inl rfl
        · split
          · exact .inr rfl
          · exact .inl rfl
    · rw [tlT_stop h0 (n + 1) (by omega)]
      exact tlT_code n
theorem sumsR_code {k : K} {l : List Int} {p : Int} {ch : Mv → Int} (h : checkR k l = 0) (h1 : 0 ≤ p) (h2 : p < k.parties) : (sumsR k l p ch).2 = 0 ∨ (sumsR k l p ch).2 = 2 := by
  unfold sumsR
  rw [if_neg (by simpa using h), if_neg (by omega)]
  exact tlT_code _
end Go.Proofs.Ytiiegpjpckkohaa
end
