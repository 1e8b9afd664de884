import Derived.Test.YtofdehlikigonaaGreatH6
import Derived.Test.YtofdehlikigonaaGreatQ4
section
/- Contracts: the references' small functions of layers 24 and 27. -/
namespace Go.Proofs.YtofdehlikigonaaGreat
open Go.Eng
set_option maxRecDepth 10000
set_option linter.unusedSimpArgs false
set_option linter.unusedVariables false
def small24B (p : Pt) : Bool := decide ((p.clauses.length : Int) ≤ 500) && decide ((p.new.start.length : Int) ≤ 20)
theorem small24_ok (p : Pt) : Does Tryz.prog 10 [ptV p] (.c (.bool (small24B p))) := by
  refine Does.mk (fun _ => false) TT_ok Tryz.func10 rfl (by kernel_rfl) Tryz.ntmps10 rfl rfl fun E hT hE hN hR => ?_
  have hm : E.P.follows .mixedOrders = true := by rw [hE]; kernel_rfl
  (repeat (first | refine XK.norm rfl rfl ?_ | refine XK.rgnA hT rfl rfl rfl ?_ | refine XK.rgnB hT hm rfl rfl rfl ?_))
  (first | refine XK.out rfl rfl rfl ?_ | refine XK.outN rfl rfl rfl ?_)
  rfl
/-- How many of the first marks have failed. -/
def failsN (s : St) (i : Nat) : Nat := (List.range i).countP (fun j => (s.marks.getD j default).status == 4)
theorem failsN_succ (s : St) (i : Nat) : failsN s (i + 1) = if (s.marks.getD i default).status = 4 then failsN s i + 1 else failsN s i := by
  unfold failsN
  rw [List.range_succ, List.countP_append]
  generalize hm : List.countP (fun j => (s.marks.getD j default).status == 4) (List.range i) = n
  rw [List.countP_singleton]
  show n + (if ((s.marks.getD i default).status == 4) = true then 1 else 0) = _
  generalize s.marks.getD i default = m
  by_cases h : m.status = 4
  · rw [if_pos h, if_pos (by simpa using h)]
  · rw [if_neg h, if_neg (by simpa using h), Nat.add_zero]
theorem failsN_le (s : St) (i : Nat) : failsN s i ≤ i := by
  unfold failsN
  have := List.countP_le_length (p := fun j => (s.marks.getD j default).status == 4) (l := List.range i)
  simpa using this
theorem failures_ok (s : St) (hl : s.marks.length ≤ 1000000) : Does Tryz.prog 15 [stV s] (.c (.int .i64 (failsN s s.marks.length))) := by
  refine Does.mk (fun _ => false) TT_ok Tryz.func15 rfl (by kernel_rfl) Tryz.ntmps15 rfl rfl fun E hT hE hN hR => ?_
  have hm : E.P.follows .mixedOrders = true := by rw [hE]; kernel_rfl
  (repeat (first | refine XK.norm rfl rfl ?_ | refine XK.rgnA hT rfl rfl rfl ?_ | refine XK.rgnB hT hm rfl rfl rfl ?_))
  refine XK.loop (ι := Nat) (fun i => ST.of [(1, .ptr 1 0), (3, .c (.int .i64 (failsN s i))), (4, .c (.int .i64 i))] [(1, .cells 38 (stC s))] 1000 22 (fun _ => false))
    (fun i => i ≤ s.marks.length) (fun i => s.marks.length - i) 0 (Nat.zero_le _) (Weak.of hN rfl rfl rfl (by (repeat' (first | exact rfl | exact AvIs.refl _ | exact trivial | exact fun _ _ => rfl | exact fun _ _ => ⟨rfl, AvIs.refl _⟩ | refine ⟨?_, ?_⟩))) (by (repeat' (first | exact rfl | exact AvIs.refl _ | exact trivial | exact fun _ _ => rfl | exact fun _ _ => ⟨rfl, AvIs.refl _⟩ | refine ⟨?_, ?_⟩)))) fun i hi => ?_
  (repeat (first | refine XK.norm rfl rfl ?_ | refine XK.rgnA hT rfl rfl rfl ?_ | refine XK.rgnB hT hm rfl rfl rfl ?_)); refine XK.cond rfl (fun hlt => ?_) (fun hlt => ?_) <;> (try simp at hlt)
  · have fx : s.marks.getD (i : Int).toNat default = s.marks.getD i default := rfl
    have hn := failsN_succ s i
    have hle := failsN_le s i
    (repeat (first | refine XK.norm rfl rfl ?_ | refine XK.rgnA hT rfl rfl rfl ?_ | refine XK.rgnB hT hm rfl rfl rfl ?_))
    rw [fx]
    generalize s.marks.getD i default = m at *
    (repeat (first | refine XK.norm rfl rfl ?_ | refine XK.rgnA hT rfl rfl rfl ?_ | refine XK.rgnB hT hm rfl rfl rfl ?_)); refine XK.cond rfl (fun h1 => ?_) (fun h1 => ?_) <;> (try simp at h1)
    · rw [if_pos h1] at hn
      (repeat (first | refine XK.norm rfl rfl ?_ | refine XK.rgnA hT rfl rfl rfl ?_ | refine XK.rgnB hT hm rfl rfl rfl ?_))
      refine XK.inv ⟨i + 1, hlt, ?_, by omega⟩
      rw [hn]
      exact (Weak.of hN rfl rfl rfl (by (repeat' (first | exact rfl | exact AvIs.refl _ | exact trivial | exact fun _ _ => rfl | exact fun _ _ => ⟨rfl, AvIs.refl _⟩ | refine ⟨?_, ?_⟩))) (by (repeat' (first | exact rfl | exact AvIs.refl _ | exact trivial | exact fun _ _ => rfl | exact fun _ _ => ⟨rfl, AvIs.refl _⟩ | refine ⟨?_, ?_⟩))))
    · rw [if_neg h1] at hn
      (repeat (first | refine XK.norm rfl rfl ?_ | refine XK.rgnA hT rfl rfl rfl ?_ | refine XK.rgnB hT hm rfl rfl rfl ?_))
      refine XK.inv ⟨i + 1, hlt, ?_, by omega⟩
      rw [hn]
      exact (Weak.of hN rfl rfl rfl (by (repeat' (first | exact rfl | exact AvIs.refl _ | exact trivial | exact fun _ _ => rfl | exact fun _ _ => ⟨rfl, AvIs.refl _⟩ | refine ⟨?_, ?_⟩))) (by (repeat' (first | exact rfl | exact AvIs.refl _ | exact trivial | exact fun _ _ => rfl | exact fun _ _ => ⟨rfl, AvIs.refl _⟩ | refine ⟨?_, ?_⟩))))
  · have hie : i = s.marks.length := by omega
    subst hie
    (repeat (first | refine XK.norm rfl rfl ?_ | refine XK.rgnA hT rfl rfl rfl ?_ | refine XK.rgnB hT hm rfl rfl rfl ?_))
    (first | refine XK.out rfl rfl rfl ?_ | refine XK.outN rfl rfl rfl ?_)
    rfl
end Go.Proofs.YtofdehlikigonaaGreat
end
section
/- Contracts: the references' comparisons (layer 24). -/
namespace Go.Proofs.YtofdehlikigonaaGreat
open Go.Eng
set_option maxRecDepth 10000
set_option linter.unusedSimpArgs false
set_option linter.unusedVariables false
def intB (a b : Int) : Bool := a == b
theorem intB_iff (a b : Int) : intB a b = true ↔ a = b := by simp [intB]
theorem ints24_ok (l m : List Int) (hl : l.length ≤ 1000000) : Does Tryz.prog 42 [intsV l, intsV m] (.c (.bool (listB intB l m))) := by
  refine Does.mk (fun _ => false) TT_ok Tryz.func42 rfl (by kernel_rfl) Tryz.ntmps42 rfl rfl fun E hT hE hN hR => ?_
  have hm : E.P.follows .mixedOrders = true := by rw [hE]; kernel_rfl
  (repeat (first | refine XK.norm rfl rfl ?_ | refine XK.rgnA hT rfl rfl rfl ?_ | refine XK.rgnB hT hm rfl rfl rfl ?_)); refine XK.cond rfl (fun h1 => ?_) (fun h1 => ?_) <;> (try simp at h1)
  · (repeat (first | refine XK.norm rfl rfl ?_ | refine XK.rgnA hT rfl rfl rfl ?_ | refine XK.rgnB hT hm rfl rfl rfl ?_))
    (first | refine XK.out rfl rfl rfl ?_ | refine XK.outN rfl rfl rfl ?_)
    exact cB (listB_no (.inl (by omega))).symm
  (repeat (first | refine XK.norm rfl rfl ?_ | refine XK.rgnA hT rfl rfl rfl ?_ | refine XK.rgnB hT hm rfl rfl rfl ?_))
  refine XK.loop (ι := Nat) (fun i => ST.of [(0, intsV l), (1, intsV m), (5, .c (.int .i64 i))] [] 1000 26 (fun _ => false))
    (fun i => i ≤ l.length ∧ ∀ j, j < i → intB (l.getD j default) (m.getD j default) = true) (fun i => l.length - i) 0 ⟨Nat.zero_le _, fun j hj => absurd hj (Nat.not_lt_zero _)⟩ (Weak.of hN rfl rfl rfl (by (repeat' (first | exact rfl | exact AvIs.refl _ | exact trivial | exact fun _ _ => rfl | exact fun _ _ => ⟨rfl, AvIs.refl _⟩ | refine ⟨?_, ?_⟩))) (by (repeat' (first | exact rfl | exact AvIs.refl _ | exact trivial | exact fun _ _ => rfl | exact fun _ _ => ⟨rfl, AvIs.refl _⟩ | refine ⟨?_, ?_⟩)))) fun i hi => ?_
  obtain ⟨hi, hj⟩ := hi
  (repeat (first | refine XK.norm rfl rfl ?_ | refine XK.rgnA hT rfl rfl rfl ?_ | refine XK.rgnB hT hm rfl rfl rfl ?_)); refine XK.cond rfl (fun hlt => ?_) (fun hlt => ?_) <;> (try simp at hlt)
  · have fx : l.getD (i : Int).toNat default = l.getD i default := rfl
    have fy : m.getD (i : Int).toNat default = m.getD i default := rfl
    (repeat (first | refine XK.norm rfl rfl ?_ | refine XK.rgnA hT rfl rfl rfl ?_ | refine XK.rgnB hT hm rfl rfl rfl ?_))
    rw [fx, fy]
    (repeat (first | refine XK.norm rfl rfl ?_ | refine XK.rgnA hT rfl rfl rfl ?_ | refine XK.rgnB hT hm rfl rfl rfl ?_)); refine XK.cond rfl (fun h2 => ?_) (fun h2 => ?_)
    · have h2 : l.getD i default ≠ m.getD i default := by simpa using h2
      (repeat (first | refine XK.norm rfl rfl ?_ | refine XK.rgnA hT rfl rfl rfl ?_ | refine XK.rgnB hT hm rfl rfl rfl ?_))
      (first | refine XK.out rfl rfl rfl ?_ | refine XK.outN rfl rfl rfl ?_)
      exact cB (listB_no (.inr ⟨i, hlt, by simpa [intB] using h2⟩)).symm
    · have h2 : l.getD i default = m.getD i default := by simpa using h2
      (repeat (first | refine XK.norm rfl rfl ?_ | refine XK.rgnA hT rfl rfl rfl ?_ | refine XK.rgnB hT hm rfl rfl rfl ?_))
      refine XK.inv ⟨i + 1, ⟨hlt, fun j hj' => ?_⟩, (Weak.of hN rfl rfl rfl (by (repeat' (first | exact rfl | exact AvIs.refl _ | exact trivial | exact fun _ _ => rfl | exact fun _ _ => ⟨rfl, AvIs.refl _⟩ | refine ⟨?_, ?_⟩))) (by (repeat' (first | exact rfl | exact AvIs.refl _ | exact trivial | exact fun _ _ => rfl | exact fun _ _ => ⟨rfl, AvIs.refl _⟩ | refine ⟨?_, ?_⟩)))), by omega⟩
      by_cases e : j = i
      · subst e; simpa [intB] using h2
      · exact hj j (by omega)
  · (repeat (first | refine XK.norm rfl rfl ?_ | refine XK.rgnA hT rfl rfl rfl ?_ | refine XK.rgnB hT hm rfl rfl rfl ?_))
    (first | refine XK.out rfl rfl rfl ?_ | refine XK.outN rfl rfl rfl ?_)
    exact cB (listB_at.2 ⟨by omega, fun j hj' => hj j (by omega)⟩).symm
theorem cl_ext {a b : Cl} (h1 : a.kind = b.kind) (h2 : a.role = b.role) (h3 : a.act = b.act) (h4 : a.need = b.need) (h5 : a.start = b.start) (h6 : a.after = b.after) (h7 : a.grace = b.grace) (h8 : a.business = b.business) (h9 : a.final = b.final)
    (h10 : a.pause = b.pause) (h11 : a.resume = b.resume) (h12 : a.value = b.value) (h13 : a.unit = b.unit) (h14 : a.to = b.to) (h15 : a.waived = b.waived) : a = b := by
  cases a; cases b
  simp only at *
  subst h1 h2 h3 h4 h5 h6 h7 h8 h9 h10 h11 h12 h13 h14 h15
  rfl
theorem clause24_ok (a b : Cl) (hs : a.start.length ≤ 1000000) : Does Tryz.prog 63 [clV a, clV b] (.c (.bool (clB a b))) := by
  refine Does.mk (fun _ => false) TT_ok Tryz.func63 rfl (by kernel_rfl) Tryz.ntmps63 rfl rfl fun E hT hE hN hR => ?_
  have hm : E.P.follows .mixedOrders = true := by rw [hE]; kernel_rfl
  (repeat (first | refine XK.norm rfl rfl ?_ | refine XK.rgnA hT rfl rfl rfl ?_ | refine XK.rgnB hT hm rfl rfl rfl ?_)); refine XK.cond rfl (fun h1 => ?_) (fun h1 => ?_)
  · (repeat (first | refine XK.norm rfl rfl ?_ | refine XK.rgnA hT rfl rfl rfl ?_ | refine XK.rgnB hT hm rfl rfl rfl ?_))
    (first | refine XK.out rfl rfl rfl ?_ | refine XK.outN rfl rfl rfl ?_)
    refine cB (Eq.symm ?_)
    rw [Bool.eq_false_iff]
    intro h
    rw [clB_iff] at h
    subst h
    simp at h1
  simp only [Bool.or_eq_false_iff, bne_eq_false_iff_eq] at h1
  obtain ⟨⟨⟨⟨⟨⟨⟨f1, f2⟩, f3⟩, f4⟩, f5⟩, f6⟩, f7⟩, f8⟩ := h1
  (repeat (first | refine XK.norm rfl rfl ?_ | refine XK.rgnA hT rfl rfl rfl ?_ | refine XK.rgnB hT hm rfl rfl rfl ?_)); refine XK.cond rfl (fun h1 => ?_) (fun h1 => ?_)
  · (repeat (first | refine XK.norm rfl rfl ?_ | refine XK.rgnA hT rfl rfl rfl ?_ | refine XK.rgnB hT hm rfl rfl rfl ?_))
    (first | refine XK.out rfl rfl rfl ?_ | refine XK.outN rfl rfl rfl ?_)
    refine cB (Eq.symm ?_)
    rw [Bool.eq_false_iff]
    intro h
    rw [clB_iff] at h
    subst h
    simp at h1
  have g := h1
  simp only [Bool.or_eq_false_iff, bne_eq_false_iff_eq, Bool.not_eq_false', Bool.and_eq_true, beq_iff_eq] at g
  obtain ⟨⟨⟨⟨⟨⟨g1, g2⟩, g3⟩, g4⟩, g5⟩, g6⟩, g7⟩ := g
  have e1 : a.start.length = b.start.length := by omega
  clear h1
  (repeat (first | refine XK.norm rfl rfl ?_ | refine XK.rgnA hT rfl rfl rfl ?_ | refine XK.rgnB hT hm rfl rfl rfl ?_))
  refine XK.loop (ι := Nat) (fun i => ST.of [(2, .rptr (clC a)), (3, .rptr (clC b)), (5, .c (.int .i64 i))] [] 1000 127 (fun _ => false))
    (fun i => i ≤ a.start.length ∧ ∀ j, j < i → cndB (a.start.getD j default) (b.start.getD j default) = true) (fun i => a.start.length - i) 0 ⟨Nat.zero_le _, fun j hj => absurd hj (Nat.not_lt_zero _)⟩ (Weak.trans (Weak.frozenC (k := 2) hN rfl rfl rfl) (Weak.trans (Weak.frozenC (k := 3) hN rfl rfl rfl) (Weak.of hN rfl rfl rfl (by (repeat' (first | exact rfl | exact AvIs.refl _ | exact trivial | exact fun _ _ => rfl | exact fun _ _ => ⟨rfl, AvIs.refl _⟩ | refine ⟨?_, ?_⟩))) (by (repeat' (first | exact rfl | exact AvIs.refl _ | exact trivial | exact fun _ _ => rfl | exact fun _ _ => ⟨rfl, AvIs.refl _⟩ | refine ⟨?_, ?_⟩)))))) fun i hi => ?_
  obtain ⟨hi, hj⟩ := hi
  (repeat (first | refine XK.norm rfl rfl ?_ | refine XK.rgnA hT rfl rfl rfl ?_ | refine XK.rgnB hT hm rfl rfl rfl ?_)); refine XK.cond rfl (fun hlt => ?_) (fun hlt => ?_) <;> (try simp at hlt)
  · have fx : a.start.getD (i : Int).toNat default = a.start.getD i default := rfl
    have fy : b.start.getD (i : Int).toNat default = b.start.getD i default := rfl
    have hb : cndB (a.start.getD i default) (b.start.getD i default) = ((a.start.getD i default).clause == (b.start.getD i default).clause && (a.start.getD i default).is == (b.start.getD i default).is) := rfl
    (repeat (first | refine XK.norm rfl rfl ?_ | refine XK.rgnA hT rfl rfl rfl ?_ | refine XK.rgnB hT hm rfl rfl rfl ?_))
    rw [fx, fy]
    (repeat (first | refine XK.norm rfl rfl ?_ | refine XK.rgnA hT rfl rfl rfl ?_ | refine XK.rgnB hT hm rfl rfl rfl ?_)); refine XK.cond rfl (fun h2 => ?_) (fun h2 => ?_)
    · (repeat (first | refine XK.norm rfl rfl ?_ | refine XK.rgnA hT rfl rfl rfl ?_ | refine XK.rgnB hT hm rfl rfl rfl ?_))
      (first | refine XK.out rfl rfl rfl ?_ | refine XK.outN rfl rfl rfl ?_)
      refine cB (Eq.symm ?_)
      rw [Bool.eq_false_iff]
      intro h
      rw [clB_iff] at h
      subst h
      rw [← hb, (cndB_iff _ _).2 rfl] at h2
      cases h2
    · (repeat (first | refine XK.norm rfl rfl ?_ | refine XK.rgnA hT rfl rfl rfl ?_ | refine XK.rgnB hT hm rfl rfl rfl ?_))
      refine XK.inv ⟨i + 1, ⟨hlt, fun j hj' => ?_⟩, (Weak.of hN rfl rfl rfl (by (repeat' (first | exact rfl | exact AvIs.refl _ | exact trivial | exact fun _ _ => rfl | exact fun _ _ => ⟨rfl, AvIs.refl _⟩ | refine ⟨?_, ?_⟩))) (by (repeat' (first | exact rfl | exact AvIs.refl _ | exact trivial | exact fun _ _ => rfl | exact fun _ _ => ⟨rfl, AvIs.refl _⟩ | refine ⟨?_, ?_⟩)))), by omega⟩
      by_cases e : j = i
      · subst e; rw [hb]; simpa using h2
      · exact hj j (by omega)
  · have hs : listB cndB a.start b.start = true := listB_at.2 ⟨e1, fun j hj' => hj j (by omega)⟩
    (repeat (first | refine XK.norm rfl rfl ?_ | refine XK.rgnA hT rfl rfl rfl ?_ | refine XK.rgnB hT hm rfl rfl rfl ?_))
    (first | refine XK.out rfl rfl rfl ?_ | refine XK.outN rfl rfl rfl ?_)
    refine cB (Eq.symm ((clB_iff _ _).2 ?_))
    have e15 := (listB_iff cndB_iff).1 hs
    exact cl_ext f1 f2 f3 f4 e15 f5 f6 (by simpa using f7) (by simpa using f8) g1 g2 (Prod.ext g3.1 g3.2) g4 g5 (by simpa using g6)
end Go.Proofs.YtofdehlikigonaaGreat
end
section
/- Contracts: the references' comparison of clauses (layer 24). -/
namespace Go.Proofs.YtofdehlikigonaaGreat
open Go.Eng
set_option maxRecDepth 10000
set_option linter.unusedSimpArgs false
set_option linter.unusedVariables false
theorem clauses24_ok (l m : List Cl) (hl : l.length ≤ 1000000) (hs : ∀ i, i < l.length → (l.getD i default).start.length ≤ 1000000) : Does Tryz.prog 43 [clsV l, clsV m] (.c (.bool (listB clB l m))) := by
  refine Does.mk (fun _ => false) TT_ok Tryz.func43 rfl (by kernel_rfl) Tryz.ntmps43 rfl rfl fun E hT hE hN hR => ?_
  have hm : E.P.follows .mixedOrders = true := by rw [hE]; kernel_rfl
  (repeat (first | refine XK.norm rfl rfl ?_ | refine XK.rgnA hT rfl rfl rfl ?_ | refine XK.rgnB hT hm rfl rfl rfl ?_)); refine XK.cond rfl (fun h1 => ?_) (fun h1 => ?_) <;> (try simp at h1)
  · (repeat (first | refine XK.norm rfl rfl ?_ | refine XK.rgnA hT rfl rfl rfl ?_ | refine XK.rgnB hT hm rfl rfl rfl ?_))
    (first | refine XK.out rfl rfl rfl ?_ | refine XK.outN rfl rfl rfl ?_)
    exact cB (listB_no (.inl (by omega))).symm
  have e1 : l.length = m.length := by omega
  (repeat (first | refine XK.norm rfl rfl ?_ | refine XK.rgnA hT rfl rfl rfl ?_ | refine XK.rgnB hT hm rfl rfl rfl ?_))
  refine XK.loop (ι := Nat) (fun i => ST.of [(0, clsV l), (1, clsV m), (5, .c (.int .i64 i))] [] 1000 27 (fun _ => false))
    (fun i => i ≤ l.length ∧ ∀ j, j < i → clB (l.getD j default) (m.getD j default) = true) (fun i => l.length - i) 0 ⟨Nat.zero_le _, fun j hj => absurd hj (Nat.not_lt_zero _)⟩ (Weak.of hN rfl rfl rfl (by (repeat' (first | exact rfl | exact AvIs.refl _ | exact trivial | exact fun _ _ => rfl | exact fun _ _ => ⟨rfl, AvIs.refl _⟩ | refine ⟨?_, ?_⟩))) (by (repeat' (first | exact rfl | exact AvIs.refl _ | exact trivial | exact fun _ _ => rfl | exact fun _ _ => ⟨rfl, AvIs.refl _⟩ | refine ⟨?_, ?_⟩)))) fun i hi => ?_
  obtain ⟨hi, hj⟩ := hi
  (repeat (first | refine XK.norm rfl rfl ?_ | refine XK.rgnA hT rfl rfl rfl ?_ | refine XK.rgnB hT hm rfl rfl rfl ?_)); refine XK.cond rfl (fun hlt => ?_) (fun hlt => ?_) <;> (try simp at hlt)
  · have fx : l.getD (i : Int).toNat default = l.getD i default := rfl
    have fy : m.getD (i : Int).toNat default = m.getD i default := rfl
    have cl := clause24_ok (l.getD i default) (m.getD i default) (hs i hlt)
    (repeat (first | refine XK.norm rfl rfl ?_ | refine XK.rgnA hT rfl rfl rfl ?_ | refine XK.rgnB hT hm rfl rfl rfl ?_))
    (repeat (first | refine XK.norm rfl rfl ?_ | refine XK.rgnA hT rfl rfl rfl ?_ | refine XK.rgnB hT hm rfl rfl rfl ?_)); refine XK.drawn hm ?_; refine XD.goA hT rfl rfl rfl rfl ?_
    rw [fx, fy]
    refine XD.callLA hE rfl rfl rfl rfl trivial rfl (cl) rfl ?_
    refine XD.goA hT rfl rfl rfl rfl ?_; refine XD.fin (by kernel_rfl) ?_; (repeat (first | refine XK.norm rfl rfl ?_ | refine XK.rgnA hT rfl rfl rfl ?_ | refine XK.rgnB hT hm rfl rfl rfl ?_))
    (repeat (first | refine XK.norm rfl rfl ?_ | refine XK.rgnA hT rfl rfl rfl ?_ | refine XK.rgnB hT hm rfl rfl rfl ?_)); refine XK.cond rfl (fun h2 => ?_) (fun h2 => ?_)
    · (repeat (first | refine XK.norm rfl rfl ?_ | refine XK.rgnA hT rfl rfl rfl ?_ | refine XK.rgnB hT hm rfl rfl rfl ?_))
      (first | refine XK.out rfl rfl rfl ?_ | refine XK.outN rfl rfl rfl ?_)
      have h2 : clB (l.getD i default) (m.getD i default) = false := by simpa using h2
      exact cB (listB_no (.inr ⟨i, hlt, h2⟩)).symm
    · have h2 : clB (l.getD i default) (m.getD i default) = true := by simpa using h2
      (repeat (first | refine XK.norm rfl rfl ?_ | refine XK.rgnA hT rfl rfl rfl ?_ | refine XK.rgnB hT hm rfl rfl rfl ?_))
      refine XK.inv ⟨i + 1, ⟨hlt, fun j hj' => ?_⟩, (Weak.of hN rfl rfl rfl (by (repeat' (first | exact rfl | exact AvIs.refl _ | exact trivial | exact fun _ _ => rfl | exact fun _ _ => ⟨rfl, AvIs.refl _⟩ | refine ⟨?_, ?_⟩))) (by (repeat' (first | exact rfl | exact AvIs.refl _ | exact trivial | exact fun _ _ => rfl | exact fun _ _ => ⟨rfl, AvIs.refl _⟩ | refine ⟨?_, ?_⟩)))), by omega⟩
      by_cases e : j = i
      · subst e; exact h2
      · exact hj j (by omega)
  · (repeat (first | refine XK.norm rfl rfl ?_ | refine XK.rgnA hT rfl rfl rfl ?_ | refine XK.rgnB hT hm rfl rfl rfl ?_))
    (first | refine XK.out rfl rfl rfl ?_ | refine XK.outN rfl rfl rfl ?_)
    exact cB (listB_at.2 ⟨e1, fun j hj' => hj j (by omega)⟩).symm
end Go.Proofs.YtofdehlikigonaaGreat
end
section
/- Contracts: the references' comparison of contracts (layer 24). -/
namespace Go.Proofs.YtofdehlikigonaaGreat
open Go.Eng
set_option maxRecDepth 10000
set_option linter.unusedSimpArgs false
set_option linter.unusedVariables false
def unitB (a b : U) : Bool := a.name == b.name && (a.kind == b.kind && (a.base == b.base && (a.fac.1 == b.fac.1 && a.fac.2 == b.fac.2)))
theorem unitB_iff (a b : U) : unitB a b = true ↔ a = b := by
  obtain ⟨a1, a2, a3, a4, a5⟩ := a
  obtain ⟨b1, b2, b3, b4, b5⟩ := b
  simp only [unitB, Bool.and_eq_true, beq_iff_eq, U.mk.injEq, Prod.mk.injEq, Go.MapKept.bytes_beq]
def actEq (a b : Act) : Bool := a.kind == b.kind && (a.role == b.role && (a.give == b.give && (a.to == b.to && (a.unit == b.unit && (a.lot.1 == b.lot.1 && a.lot.2 == b.lot.2)))))
theorem actEq_iff (a b : Act) : actEq a b = true ↔ a = b := by
  obtain ⟨a1, a2, a3, a4, a5, a6, a7⟩ := a
  obtain ⟨b1, b2, b3, b4, b5, b6, b7⟩ := b
  simp only [actEq, Bool.and_eq_true, beq_iff_eq, Act.mk.injEq, Prod.mk.injEq]
def sameR (a b : K) : Bool := a.parties == b.parties && a.days == b.days && listB intB a.holders b.holders && listB intB a.off b.off && listB unitB a.units b.units && listB actEq a.acts b.acts && listB clB a.clauses b.clauses
theorem sameR_iff (a b : K) : sameR a b = true ↔ a = b := by
  cases a; cases b
  simp only [sameR, Bool.and_eq_true, beq_iff_eq, listB_iff intB_iff, listB_iff unitB_iff, listB_iff actEq_iff, listB_iff clB_iff, K.mk.injEq]
  constructor <;> (intro h; simp only [h, and_self])
structure KB (k : K) : Prop where
  h : k.holders.length ≤ 1000000
  o : k.off.length ≤ 1000000
  u : k.units.length ≤ 1000000
  a : k.acts.length ≤ 1000000
  c : k.clauses.length ≤ 1000000
  s : ∀ i, i < k.clauses.length → (k.clauses.getD i default).start.length ≤ 1000000
theorem same24_ok (a b : K) (hb : KB a) : Does Tryz.prog 21 [kV a, kV b] (.c (.bool (sameR a b))) := by
  obtain ⟨b1, b2, b3, b4, b5, b6⟩ := hb
  refine Does.mk (fun _ => false) TT_ok Tryz.func21 rfl (by kernel_rfl) Tryz.ntmps21 rfl rfl fun E hT hE hN hR => ?_
  have hm : E.P.follows .mixedOrders = true := by rw [hE]; kernel_rfl
  (repeat (first | refine XK.norm rfl rfl ?_ | refine XK.rgnA hT rfl rfl rfl ?_ | refine XK.rgnB hT hm rfl rfl rfl ?_)); refine XK.region ?_; refine XL.goA hT rfl rfl rfl rfl ?_
  refine XL.callGA hE rfl rfl rfl rfl rfl rfl rfl rfl (ints24_ok a.holders b.holders b1) rfl ?_
  refine XL.goA hT rfl rfl rfl rfl ?_
  refine XL.callGA hE rfl rfl rfl rfl rfl rfl rfl rfl (ints24_ok a.off b.off b2) rfl ?_
  refine XL.goA hT rfl rfl rfl rfl ?_; refine XL.fin ?_; (repeat (first | refine XK.norm rfl rfl ?_ | refine XK.rgnA hT rfl rfl rfl ?_ | refine XK.rgnB hT hm rfl rfl rfl ?_))
  (repeat (first | refine XK.norm rfl rfl ?_ | refine XK.rgnA hT rfl rfl rfl ?_ | refine XK.rgnB hT hm rfl rfl rfl ?_)); refine XK.cond rfl (fun h1 => ?_) (fun h1 => ?_)
  · (repeat (first | refine XK.norm rfl rfl ?_ | refine XK.rgnA hT rfl rfl rfl ?_ | refine XK.rgnB hT hm rfl rfl rfl ?_))
    (first | refine XK.out rfl rfl rfl ?_ | refine XK.outN rfl rfl rfl ?_)
    refine cB (Eq.symm ?_)
    rw [Bool.eq_false_iff]
    intro h
    rw [sameR_iff] at h
    subst h
    rw [(listB_iff intB_iff).2 rfl, (listB_iff intB_iff).2 rfl] at h1
    simp at h1
  simp only [Bool.or_eq_false_iff, bne_eq_false_iff_eq, Bool.not_eq_false'] at h1
  obtain ⟨⟨⟨⟨⟨e1, e2⟩, e3⟩, e4⟩, e5⟩, e6⟩ := h1
  (repeat (first | refine XK.norm rfl rfl ?_ | refine XK.rgnA hT rfl rfl rfl ?_ | refine XK.rgnB hT hm rfl rfl rfl ?_))
  refine XK.loop (ι := Nat) (fun i => ST.of [(2, .rptr (kC a)), (3, .rptr (kC b)), (5, .c (.int .i64 i))] [] 1000 94 (fun _ => false))
    (fun i => i ≤ a.units.length ∧ ∀ j, j < i → unitB (a.units.getD j default) (b.units.getD j default) = true) (fun i => a.units.length - i) 0 ⟨Nat.zero_le _, fun j hj => absurd hj (Nat.not_lt_zero _)⟩ (Weak.trans (Weak.frozenC (k := 2) hN rfl rfl rfl) (Weak.trans (Weak.frozenC (k := 3) hN rfl rfl rfl) (Weak.of hN rfl rfl rfl (by (repeat' (first | exact rfl | exact AvIs.refl _ | exact trivial | exact fun _ _ => rfl | exact fun _ _ => ⟨rfl, AvIs.refl _⟩ | refine ⟨?_, ?_⟩))) (by (repeat' (first | exact rfl | exact AvIs.refl _ | exact trivial | exact fun _ _ => rfl | exact fun _ _ => ⟨rfl, AvIs.refl _⟩ | refine ⟨?_, ?_⟩)))))) fun i hi => ?_
  obtain ⟨hi, hj⟩ := hi
  (repeat (first | refine XK.norm rfl rfl ?_ | refine XK.rgnA hT rfl rfl rfl ?_ | refine XK.rgnB hT hm rfl rfl rfl ?_)); refine XK.cond rfl (fun hlt => ?_) (fun hlt => ?_) <;> (try simp at hlt)
  · have fx : a.units.getD (i : Int).toNat default = a.units.getD i default := rfl
    have fy : b.units.getD (i : Int).toNat default = b.units.getD i default := rfl
    (repeat (first | refine XK.norm rfl rfl ?_ | refine XK.rgnA hT rfl rfl rfl ?_ | refine XK.rgnB hT hm rfl rfl rfl ?_))
    rw [fx, fy]
    (repeat (first | refine XK.norm rfl rfl ?_ | refine XK.rgnA hT rfl rfl rfl ?_ | refine XK.rgnB hT hm rfl rfl rfl ?_)); refine XK.cond rfl (fun h2 => ?_) (fun h2 => ?_)
    · (repeat (first | refine XK.norm rfl rfl ?_ | refine XK.rgnA hT rfl rfl rfl ?_ | refine XK.rgnB hT hm rfl rfl rfl ?_))
      (first | refine XK.out rfl rfl rfl ?_ | refine XK.outN rfl rfl rfl ?_)
      refine cB (Eq.symm ?_)
      rw [Bool.eq_false_iff]
      intro h
      rw [sameR_iff] at h
      subst h
      have : unitB (a.units.getD i default) (a.units.getD i default) = true := (unitB_iff _ _).2 rfl
      simp only [unitB] at this
      rw [this] at h2
      cases h2
    · have h2 : unitB (a.units.getD i default) (b.units.getD i default) = true := by simpa [unitB] using h2
      (repeat (first | refine XK.norm rfl rfl ?_ | refine XK.rgnA hT rfl rfl rfl ?_ | refine XK.rgnB hT hm rfl rfl rfl ?_))
      refine XK.inv ⟨i + 1, ⟨hlt, fun j hj' => ?_⟩, (Weak.of hN rfl rfl rfl (by (repeat' (first | exact rfl | exact AvIs.refl _ | exact trivial | exact fun _ _ => rfl | exact fun _ _ => ⟨rfl, AvIs.refl _⟩ | refine ⟨?_, ?_⟩))) (by (repeat' (first | exact rfl | exact AvIs.refl _ | exact trivial | exact fun _ _ => rfl | exact fun _ _ => ⟨rfl, AvIs.refl _⟩ | refine ⟨?_, ?_⟩)))), by omega⟩
      by_cases e : j = i
      · subst e; exact h2
      · exact hj j (by omega)
  have hu : listB unitB a.units b.units = true := listB_at.2 ⟨by omega, fun j hj' => hj j (by omega)⟩
  clear hj hi hlt
  (repeat (first | refine XK.norm rfl rfl ?_ | refine XK.rgnA hT rfl rfl rfl ?_ | refine XK.rgnB hT hm rfl rfl rfl ?_))
  refine XK.loop (ι := Nat) (fun i => ST.of [(2, .rptr (kC a)), (3, .rptr (kC b)), (6, .c (.int .i64 i))] [] 2000 94 (fun _ => false))
    (fun i => i ≤ a.acts.length ∧ ∀ j, j < i → actEq (a.acts.getD j default) (b.acts.getD j default) = true) (fun i => a.acts.length - i) 0 ⟨Nat.zero_le _, fun j hj => absurd hj (Nat.not_lt_zero _)⟩ (Weak.of hN rfl rfl rfl (by (repeat' (first | exact rfl | exact AvIs.refl _ | exact trivial | exact fun _ _ => rfl | exact fun _ _ => ⟨rfl, AvIs.refl _⟩ | refine ⟨?_, ?_⟩))) (by (repeat' (first | exact rfl | exact AvIs.refl _ | exact trivial | exact fun _ _ => rfl | exact fun _ _ => ⟨rfl, AvIs.refl _⟩ | refine ⟨?_, ?_⟩)))) fun i hi => ?_
  obtain ⟨hi, hj⟩ := hi
  (repeat (first | refine XK.norm rfl rfl ?_ | refine XK.rgnA hT rfl rfl rfl ?_ | refine XK.rgnB hT hm rfl rfl rfl ?_)); refine XK.cond rfl (fun hlt => ?_) (fun hlt => ?_) <;> (try simp at hlt)
  · have fx : a.acts.getD (i : Int).toNat default = a.acts.getD i default := rfl
    have fy : b.acts.getD (i : Int).toNat default = b.acts.getD i default := rfl
    (repeat (first | refine XK.norm rfl rfl ?_ | refine XK.rgnA hT rfl rfl rfl ?_ | refine XK.rgnB hT hm rfl rfl rfl ?_))
    rw [fx, fy]
    (repeat (first | refine XK.norm rfl rfl ?_ | refine XK.rgnA hT rfl rfl rfl ?_ | refine XK.rgnB hT hm rfl rfl rfl ?_)); refine XK.cond rfl (fun h2 => ?_) (fun h2 => ?_)
    · (repeat (first | refine XK.norm rfl rfl ?_ | refine XK.rgnA hT rfl rfl rfl ?_ | refine XK.rgnB hT hm rfl rfl rfl ?_))
      (first | refine XK.out rfl rfl rfl ?_ | refine XK.outN rfl rfl rfl ?_)
      refine cB (Eq.symm ?_)
      rw [Bool.eq_false_iff]
      intro h
      rw [sameR_iff] at h
      subst h
      have : actEq (a.acts.getD i default) (a.acts.getD i default) = true := (actEq_iff _ _).2 rfl
      simp only [actEq] at this
      rw [this] at h2
      cases h2
    · have h2 : actEq (a.acts.getD i default) (b.acts.getD i default) = true := by simpa [actEq] using h2
      (repeat (first | refine XK.norm rfl rfl ?_ | refine XK.rgnA hT rfl rfl rfl ?_ | refine XK.rgnB hT hm rfl rfl rfl ?_))
      refine XK.inv ⟨i + 1, ⟨hlt, fun j hj' => ?_⟩, (Weak.of hN rfl rfl rfl (by (repeat' (first | exact rfl | exact AvIs.refl _ | exact trivial | exact fun _ _ => rfl | exact fun _ _ => ⟨rfl, AvIs.refl _⟩ | refine ⟨?_, ?_⟩))) (by (repeat' (first | exact rfl | exact AvIs.refl _ | exact trivial | exact fun _ _ => rfl | exact fun _ _ => ⟨rfl, AvIs.refl _⟩ | refine ⟨?_, ?_⟩)))), by omega⟩
      by_cases e : j = i
      · subst e; exact h2
      · exact hj j (by omega)
  have ha : listB actEq a.acts b.acts = true := listB_at.2 ⟨by omega, fun j hj' => hj j (by omega)⟩
  clear hj hi hlt
  (repeat (first | refine XK.norm rfl rfl ?_ | refine XK.rgnA hT rfl rfl rfl ?_ | refine XK.rgnB hT hm rfl rfl rfl ?_))
  have cc := clauses24_ok a.clauses b.clauses b5 b6
  (repeat (first | refine XK.norm rfl rfl ?_ | refine XK.rgnA hT rfl rfl rfl ?_ | refine XK.rgnB hT hm rfl rfl rfl ?_)); refine XK.region ?_; refine XL.goA hT rfl rfl rfl rfl ?_
  refine XL.callLA hE rfl rfl rfl rfl trivial rfl (cc) rfl ?_
  refine XL.goA hT rfl rfl rfl rfl ?_; refine XL.fin ?_; (repeat (first | refine XK.norm rfl rfl ?_ | refine XK.rgnA hT rfl rfl rfl ?_ | refine XK.rgnB hT hm rfl rfl rfl ?_))
  (first | refine XK.out rfl rfl rfl ?_ | refine XK.outN rfl rfl rfl ?_)
  refine cB (Eq.symm ?_)
  unfold sameR
  rw [hu, ha, e1, e2, e3, e4]
  simp
end Go.Proofs.YtofdehlikigonaaGreat
end
