import Derived.Test.YtlcfoelfcnhenaaGreatDoorZz14
import Derived.Test.YtlcfoelfcnhenaaGreatDoorZz27
import Derived.Test.YtlcfoelfcnhenaaGreatDoorZz18
import Derived.Test.YtlcfoelfcnhenaaGreatDoorZz23
set_option linter.unusedSimpArgs false
set_option linter.unusedVariables false
set_option maxRecDepth 10000
namespace Go.Proofs.YtlcfoelfcnhenaaGreatDoor
section
open Go.Eng
def listB {α : Type} (f : α → α → Bool) : List α → List α → Bool
  | [], [] => true
  | x :: l, y :: m => f x y && listB f l m
  | _, _ => false
theorem listB_at {α : Type} [Inhabited α] {f : α → α → Bool} : ∀ {l m : List α}, listB f l m = true ↔ l.length = m.length ∧ ∀ i, i < l.length → f (l.getD i default) (m.getD i default) = true
  | [], [] => by simp [listB]
  | [], y :: m => by simp [listB]
  | x :: l, [] => by simp [listB]
  | x :: l, y :: m => by
    simp only [listB, Bool.and_eq_true, listB_at, List.length_cons]
    constructor
    · rintro ⟨h1, h2, h3⟩
      refine ⟨by omega, fun i hi => ?_⟩
      cases i with
      | zero => exact h1
      | succ i => exact h3 i (by omega)
    · rintro ⟨h1, h2⟩
      exact ⟨h2 0 (by omega), by omega, fun i hi => h2 (i + 1) (by omega)⟩
theorem listB_no {α : Type} [Inhabited α] {f : α → α → Bool} {l m : List α} (h : l.length ≠ m.length ∨ ∃ i, i < l.length ∧ f (l.getD i default) (m.getD i default) = false) : listB f l m = false := by
  rw [Bool.eq_false_iff]
  intro hb
  obtain ⟨h1, h2⟩ := listB_at.1 hb
  rcases h with h | ⟨i, hi, h⟩
  · exact h h1
  · rw [h2 i hi] at h; cases h
theorem listB_iff {α : Type} {f : α → α → Bool} (hf : ∀ x y, f x y = true ↔ x = y) : ∀ {l m : List α}, listB f l m = true ↔ l = m
  | [], [] => by simp [listB]
  | [], y :: m => by simp [listB]
  | x :: l, [] => by simp [listB]
  | x :: l, y :: m => by simp only [listB, Bool.and_eq_true, listB_iff hf, hf, List.cons.injEq]
def cndB (a b : Cnd) : Bool := a.clause == b.clause && a.is == b.is
theorem cndB_iff (a b : Cnd) : cndB a b = true ↔ a = b := by
  cases a; cases b; simp [cndB]
def clB (a b : Cl) : Bool := listB cndB a.start b.start && a.kind == b.kind && a.role == b.role && a.act == b.act && a.need == b.need && a.after == b.after && a.grace == b.grace && a.business == b.business && a.final == b.final && a.pause == b.pause && a.resume == b.resume && (a.value.1 == b.value.1 && a.value.2 == b.value.2) && a.unit == b.unit && a.to == b.to && a.waived == b.waived
theorem clB_iff (a b : Cl) : clB a b = true ↔ a = b := by
  obtain ⟨a1, a2, a3, a4, a5, a6, a7, a8, a9, a10, a11, ⟨a12, a13⟩, a14, a15, a16⟩ := a
  obtain ⟨b1, b2, b3, b4, b5, b6, b7, b8, b9, b10, b11, ⟨b12, b13⟩, b14, b15, b16⟩ := b
  simp only [clB, Bool.and_eq_true, listB_iff cndB_iff, beq_iff_eq, Cl.mk.injEq, Prod.mk.injEq]
  constructor <;> (intro h; simp only [h, and_self])
noncomputable def checkV (k : K) (l : List Am) : Int := if (kValid k).1 ≠ 0 then 1 else if 60 < l.length then 3 else 0
theorem checkV_ok (k : K) (hk : kW k) (l : List Am) : Does Tryz.prog 27 [kV k, amsV l] (.c (.int .i64 (checkV k l))) := by
  refine Does.mk (fun _ => false) TT_ok Tryz.func27 rfl (by kernel_rfl) Tryz.ntmps27 rfl rfl fun E hT hE hN hR => ?_
  have hm := mixO hE
  (repeat (first | refine XK.n ?_ | refine XK.a ?_ | refine XK.b ?_)); refine XK.region ?_; refine XL.g ?_
  refine XL.callLA hE rfl rfl rfl rfl trivial rfl (kValid_ok k hk) rfl ?_
  refine XL.g ?_; refine XL.fin ?_; (repeat (first | refine XK.n ?_ | refine XK.a ?_ | refine XK.b ?_))
  (repeat (first | refine XK.n ?_ | refine XK.a ?_ | refine XK.b ?_)); refine XK.cond rfl (fun h1 => ?_) (fun h1 => ?_) <;> (try simp at h1)
  · (repeat (first | refine XK.n ?_ | refine XK.a ?_ | refine XK.b ?_))
    (first | refine XK.o ?_ | refine XK.p ?_)
    exact cI (by rw [checkV, if_pos h1])
  (repeat (first | refine XK.n ?_ | refine XK.a ?_ | refine XK.b ?_)); refine XK.cond rfl (fun h2 => ?_) (fun h2 => ?_) <;> (try simp at h2)
  · (repeat (first | refine XK.n ?_ | refine XK.a ?_ | refine XK.b ?_))
    (first | refine XK.o ?_ | refine XK.p ?_)
    exact cI (by rw [checkV, if_neg (by omega), if_pos (by omega)])
  · (repeat (first | refine XK.n ?_ | refine XK.a ?_ | refine XK.b ?_))
    (first | refine XK.o ?_ | refine XK.p ?_)
    exact cI (by rw [checkV, if_neg (by omega), if_neg (by omega)])
theorem counting_ok (l : List Am) (known : Int) : Does Tryz.prog 29 [amsV l, .c (.int .i64 known)] (.fn (.func 59) [] [.rptr [amsV l], .rptr [.c (.int .i64 known)]]) := by
  refine Does.mk (fun _ => false) TT_ok Tryz.func29 rfl (by kernel_rfl) Tryz.ntmps29 rfl rfl fun E hT hE hN hR => ?_
  have hm := mixO hE
  (repeat (first | refine XK.n ?_ | refine XK.a ?_ | refine XK.b ?_))
  refine XK.weak (Weak.trans (Weak.frozenC (k := 2) hN rfl rfl rfl) (Weak.frozenC (k := 3) hN rfl rfl rfl)) ?_
  (first | refine XK.o ?_ | refine XK.p ?_)
  rfl
end
section
open Go.Eng
def intB (a b : Int) : Bool := a == b
theorem intB_iff (a b : Int) : intB a b = true ↔ a = b := by simp [intB]
theorem ints24_ok (l m : List Int) (hl : l.length ≤ 1000000) : Does Tryz.prog 43 [intsV l, intsV m] (.c (.bool (listB intB l m))) := by
  refine Does.mk (fun _ => false) TT_ok Tryz.func43 rfl (by kernel_rfl) Tryz.ntmps43 rfl rfl fun E hT hE hN hR => ?_
  have hm := mixO hE
  (repeat (first | refine XK.n ?_ | refine XK.a ?_ | refine XK.b ?_)); refine XK.cond rfl (fun h1 => ?_) (fun h1 => ?_) <;> (try simp at h1)
  · (repeat (first | refine XK.n ?_ | refine XK.a ?_ | refine XK.b ?_))
    (first | refine XK.o ?_ | refine XK.p ?_)
    exact cB (listB_no (.inl (by omega))).symm
  (repeat (first | refine XK.n ?_ | refine XK.a ?_ | refine XK.b ?_))
  refine XK.loop (ι := Nat) (fun i => ST.of [(0, intsV l), (1, intsV m), (5, .c (.int .i64 i))] [] 1000 26 (fun _ => false))
    (fun i => i ≤ l.length ∧ ∀ j, j < i → intB (l.getD j default) (m.getD j default) = true) (fun i => l.length - i) 0 ⟨Nat.zero_le _, fun j hj => absurd hj (Nat.not_lt_zero _)⟩ (Weak.of hN rfl rfl rfl frI frI) fun i hi => ?_
  obtain ⟨hi, hj⟩ := hi
  (repeat (first | refine XK.n ?_ | refine XK.a ?_ | refine XK.b ?_)); refine XK.cond rfl (fun hlt => ?_) (fun hlt => ?_) <;> (try simp at hlt)
  · have fx : l.getD (i : Int).toNat default = l.getD i default := rfl
    have fy : m.getD (i : Int).toNat default = m.getD i default := rfl
    (repeat (first | refine XK.n ?_ | refine XK.a ?_ | refine XK.b ?_))
    rw [fx, fy]
    (repeat (first | refine XK.n ?_ | refine XK.a ?_ | refine XK.b ?_)); refine XK.cond rfl (fun h2 => ?_) (fun h2 => ?_)
    · have h2 : l.getD i default ≠ m.getD i default := by simpa using h2
      (repeat (first | refine XK.n ?_ | refine XK.a ?_ | refine XK.b ?_))
      (first | refine XK.o ?_ | refine XK.p ?_)
      exact cB (listB_no (.inr ⟨i, hlt, by simpa [intB] using h2⟩)).symm
    · have h2 : l.getD i default = m.getD i default := by simpa using h2
      (repeat (first | refine XK.n ?_ | refine XK.a ?_ | refine XK.b ?_))
      refine XK.inv ⟨i + 1, ⟨hlt, fun j hj' => ?_⟩, (Weak.of hN rfl rfl rfl frI frI), by omega⟩
      by_cases e : j = i
      · subst e; simpa [intB] using h2
      · exact hj j (by omega)
  · (repeat (first | refine XK.n ?_ | refine XK.a ?_ | refine XK.b ?_))
    (first | refine XK.o ?_ | refine XK.p ?_)
    exact cB (listB_at.2 ⟨by omega, fun j hj' => hj j (by omega)⟩).symm
theorem cl_ext {a b : Cl} (h1 : a.kind = b.kind) (h2 : a.role = b.role) (h3 : a.act = b.act) (h4 : a.need = b.need) (h5 : a.start = b.start) (h6 : a.after = b.after) (h7 : a.grace = b.grace) (h8 : a.business = b.business) (h9 : a.final = b.final)
    (h10 : a.pause = b.pause) (h11 : a.resume = b.resume) (h12 : a.value = b.value) (h13 : a.unit = b.unit) (h14 : a.to = b.to) (h15 : a.waived = b.waived) : a = b := by
  cases a; cases b
  simp only at *
  subst h1 h2 h3 h4 h5 h6 h7 h8 h9 h10 h11 h12 h13 h14 h15
  rfl
theorem clause24_ok (a b : Cl) (hs : a.start.length ≤ 1000000) : Does Tryz.prog 80 [clV a, clV b] (.c (.bool (clB a b))) := by
  refine Does.mk (fun _ => false) TT_ok Tryz.func80 rfl (by kernel_rfl) Tryz.ntmps80 rfl rfl fun E hT hE hN hR => ?_
  have hm := mixO hE
  (repeat (first | refine XK.n ?_ | refine XK.a ?_ | refine XK.b ?_)); refine XK.cond rfl (fun h1 => ?_) (fun h1 => ?_)
  · (repeat (first | refine XK.n ?_ | refine XK.a ?_ | refine XK.b ?_))
    (first | refine XK.o ?_ | refine XK.p ?_)
    refine cB (Eq.symm ?_)
    rw [Bool.eq_false_iff]
    intro h
    rw [clB_iff] at h
    subst h
    simp at h1
  simp only [Bool.or_eq_false_iff, bne_eq_false_iff_eq] at h1
  obtain ⟨⟨⟨⟨⟨⟨⟨f1, f2⟩, f3⟩, f4⟩, f5⟩, f6⟩, f7⟩, f8⟩ := h1
  (repeat (first | refine XK.n ?_ | refine XK.a ?_ | refine XK.b ?_)); refine XK.cond rfl (fun h1 => ?_) (fun h1 => ?_)
  · (repeat (first | refine XK.n ?_ | refine XK.a ?_ | refine XK.b ?_))
    (first | refine XK.o ?_ | refine XK.p ?_)
    refine cB (Eq.symm ?_)
    rw [Bool.eq_false_iff]
    intro h
    rw [clB_iff] at h
    subst h
    simp at h1
  have g := h1
  simp only [Bool.or_eq_false_iff, bne_eq_false_iff_eq, Bool.not_eq_false', Bool.and_eq_true, beq_iff_eq] at g
  obtain ⟨⟨⟨⟨⟨⟨g1, g2⟩, g3⟩, g4⟩, g5⟩, g6⟩, g7⟩ := g
  have e1 : a.start.length = b.start.length := by omega
  clear h1
  (repeat (first | refine XK.n ?_ | refine XK.a ?_ | refine XK.b ?_))
  refine XK.loop (ι := Nat) (fun i => ST.of [(2, .rptr (clC a)), (3, .rptr (clC b)), (5, .c (.int .i64 i))] [] 1000 127 (fun _ => false))
    (fun i => i ≤ a.start.length ∧ ∀ j, j < i → cndB (a.start.getD j default) (b.start.getD j default) = true) (fun i => a.start.length - i) 0 ⟨Nat.zero_le _, fun j hj => absurd hj (Nat.not_lt_zero _)⟩ (Weak.trans (Weak.frozenC (k := 2) hN rfl rfl rfl) (Weak.trans (Weak.frozenC (k := 3) hN rfl rfl rfl) (Weak.of hN rfl rfl rfl frI frI))) fun i hi => ?_
  obtain ⟨hi, hj⟩ := hi
  (repeat (first | refine XK.n ?_ | refine XK.a ?_ | refine XK.b ?_)); refine XK.cond rfl (fun hlt => ?_) (fun hlt => ?_) <;> (try simp at hlt)
  · have fx : a.start.getD (i : Int).toNat default = a.start.getD i default := rfl
    have fy : b.start.getD (i : Int).toNat default = b.start.getD i default := rfl
    have hb : cndB (a.start.getD i default) (b.start.getD i default) = ((a.start.getD i default).clause == (b.start.getD i default).clause && (a.start.getD i default).is == (b.start.getD i default).is) := rfl
    (repeat (first | refine XK.n ?_ | refine XK.a ?_ | refine XK.b ?_))
    rw [fx, fy]
    (repeat (first | refine XK.n ?_ | refine XK.a ?_ | refine XK.b ?_)); refine XK.cond rfl (fun h2 => ?_) (fun h2 => ?_)
    · (repeat (first | refine XK.n ?_ | refine XK.a ?_ | refine XK.b ?_))
      (first | refine XK.o ?_ | refine XK.p ?_)
      refine cB (Eq.symm ?_)
      rw [Bool.eq_false_iff]
      intro h
      rw [clB_iff] at h
      subst h
      rw [← hb, (cndB_iff _ _).2 rfl] at h2
      cases h2
    · (repeat (first | refine XK.n ?_ | refine XK.a ?_ | refine XK.b ?_))
      refine XK.inv ⟨i + 1, ⟨hlt, fun j hj' => ?_⟩, (Weak.of hN rfl rfl rfl frI frI), by omega⟩
      by_cases e : j = i
      · subst e; rw [hb]; simpa using h2
      · exact hj j (by omega)
  · have hs : listB cndB a.start b.start = true := listB_at.2 ⟨e1, fun j hj' => hj j (by omega)⟩
    (repeat (first | refine XK.n ?_ | refine XK.a ?_ | refine XK.b ?_))
    (first | refine XK.o ?_ | refine XK.p ?_)
    refine cB (Eq.symm ((clB_iff _ _).2 ?_))
    have e15 := (listB_iff cndB_iff).1 hs
    exact cl_ext f1 f2 f3 f4 e15 f5 f6 (by simpa using f7) (by simpa using f8) g1 g2 (Prod.ext g3.1 g3.2) g4 g5 (by simpa using g6)
end
section
open Go.Eng
theorem clauses24_ok (l m : List Cl) (hl : l.length ≤ 1000000) (hs : ∀ i, i < l.length → (l.getD i default).start.length ≤ 1000000) : Does Tryz.prog 44 [clsV l, clsV m] (.c (.bool (listB clB l m))) := by
  refine Does.mk (fun _ => false) TT_ok Tryz.func44 rfl (by kernel_rfl) Tryz.ntmps44 rfl rfl fun E hT hE hN hR => ?_
  have hm := mixO hE
  (repeat (first | refine XK.n ?_ | refine XK.a ?_ | refine XK.b ?_)); refine XK.cond rfl (fun h1 => ?_) (fun h1 => ?_) <;> (try simp at h1)
  · (repeat (first | refine XK.n ?_ | refine XK.a ?_ | refine XK.b ?_))
    (first | refine XK.o ?_ | refine XK.p ?_)
    exact cB (listB_no (.inl (by omega))).symm
  have e1 : l.length = m.length := by omega
  (repeat (first | refine XK.n ?_ | refine XK.a ?_ | refine XK.b ?_))
  refine XK.loop (ι := Nat) (fun i => ST.of [(0, clsV l), (1, clsV m), (5, .c (.int .i64 i))] [] 1000 27 (fun _ => false))
    (fun i => i ≤ l.length ∧ ∀ j, j < i → clB (l.getD j default) (m.getD j default) = true) (fun i => l.length - i) 0 ⟨Nat.zero_le _, fun j hj => absurd hj (Nat.not_lt_zero _)⟩ (Weak.of hN rfl rfl rfl frI frI) fun i hi => ?_
  obtain ⟨hi, hj⟩ := hi
  (repeat (first | refine XK.n ?_ | refine XK.a ?_ | refine XK.b ?_)); refine XK.cond rfl (fun hlt => ?_) (fun hlt => ?_) <;> (try simp at hlt)
  · have fx : l.getD (i : Int).toNat default = l.getD i default := rfl
    have fy : m.getD (i : Int).toNat default = m.getD i default := rfl
    have cl := clause24_ok (l.getD i default) (m.getD i default) (hs i hlt)
    (repeat (first | refine XK.n ?_ | refine XK.a ?_ | refine XK.b ?_))
    (repeat (first | refine XK.n ?_ | refine XK.a ?_ | refine XK.b ?_)); refine XK.drawn hm ?_; refine XD.goA hT rfl rfl rfl rfl ?_
    rw [fx, fy]
    refine XD.callLA hE rfl rfl rfl rfl trivial rfl (cl) rfl ?_
    refine XD.goA hT rfl rfl rfl rfl ?_; refine XD.fin (by kernel_rfl) ?_; (repeat (first | refine XK.n ?_ | refine XK.a ?_ | refine XK.b ?_))
    (repeat (first | refine XK.n ?_ | refine XK.a ?_ | refine XK.b ?_)); refine XK.cond rfl (fun h2 => ?_) (fun h2 => ?_)
    · (repeat (first | refine XK.n ?_ | refine XK.a ?_ | refine XK.b ?_))
      (first | refine XK.o ?_ | refine XK.p ?_)
      have h2 : clB (l.getD i default) (m.getD i default) = false := by simpa using h2
      exact cB (listB_no (.inr ⟨i, hlt, h2⟩)).symm
    · have h2 : clB (l.getD i default) (m.getD i default) = true := by simpa using h2
      (repeat (first | refine XK.n ?_ | refine XK.a ?_ | refine XK.b ?_))
      refine XK.inv ⟨i + 1, ⟨hlt, fun j hj' => ?_⟩, (Weak.of hN rfl rfl rfl frI frI), by omega⟩
      by_cases e : j = i
      · subst e; exact h2
      · exact hj j (by omega)
  · (repeat (first | refine XK.n ?_ | refine XK.a ?_ | refine XK.b ?_))
    (first | refine XK.o ?_ | refine XK.p ?_)
    exact cB (listB_at.2 ⟨e1, fun j hj' => hj j (by omega)⟩).symm
end
section
open Go.Eng
def unitB (a b : U) : Bool := a.name == b.name && (a.kind == b.kind && (a.base == b.base && (a.fac.1 == b.fac.1 && a.fac.2 == b.fac.2)))
theorem unitB_iff (a b : U) : unitB a b = true ↔ a = b := by
  obtain ⟨a1, a2, a3, a4, a5⟩ := a
  obtain ⟨b1, b2, b3, b4, b5⟩ := b
  simp only [unitB, Bool.and_eq_true, beq_iff_eq, U.mk.injEq, Prod.mk.injEq, Go.MapKept.bytes_beq]
def actEq (a b : Act) : Bool := a.kind == b.kind && (a.role == b.role && (a.give == b.give && (a.to == b.to && (a.unit == b.unit && (a.lot.1 == b.lot.1 && a.lot.2 == b.lot.2)))))
theorem actEq_iff (a b : Act) : actEq a b = true ↔ a = b := by
  obtain ⟨a1, a2, a3, a4, a5, a6, a7⟩ := a
  obtain ⟨b1, b2, b3, b4, b5, b6, b7⟩ := b
  simp only [actEq, Bool.and_eq_true, beq_iff_eq, Act.mk.injEq, Prod.mk.injEq]
def sameR (a b : K) : Bool := a.parties == b.parties && a.days == b.days && listB intB a.holders b.holders && listB intB a.off b.off && listB unitB a.units b.units && listB actEq a.acts b.acts && listB clB a.clauses b.clauses
theorem sameR_iff (a b : K) : sameR a b = true ↔ a = b := by
  cases a; cases b
  simp only [sameR, Bool.and_eq_true, beq_iff_eq, listB_iff intB_iff, listB_iff unitB_iff, listB_iff actEq_iff, listB_iff clB_iff, K.mk.injEq]
  constructor <;> (intro h; simp only [h, and_self])
structure KB (k : K) : Prop where
  h : k.holders.length ≤ 1000000
  o : k.off.length ≤ 1000000
  u : k.units.length ≤ 1000000
  a : k.acts.length ≤ 1000000
  c : k.clauses.length ≤ 1000000
  s : ∀ i, i < k.clauses.length → (k.clauses.getD i default).start.length ≤ 1000000
theorem same24_ok (a b : K) (hb : KB a) : Does Tryz.prog 14 [kV a, kV b] (.c (.bool (sameR a b))) := by
  obtain ⟨b1, b2, b3, b4, b5, b6⟩ := hb
  refine Does.mk (fun _ => false) TT_ok Tryz.func14 rfl (by kernel_rfl) Tryz.ntmps14 rfl rfl fun E hT hE hN hR => ?_
  have hm := mixO hE
  (repeat (first | refine XK.n ?_ | refine XK.a ?_ | refine XK.b ?_)); refine XK.region ?_; refine XL.g ?_
  refine XL.callGA hE rfl rfl rfl rfl rfl rfl rfl rfl (ints24_ok a.holders b.holders b1) rfl ?_
  refine XL.g ?_
  refine XL.callGA hE rfl rfl rfl rfl rfl rfl rfl rfl (ints24_ok a.off b.off b2) rfl ?_
  refine XL.g ?_; refine XL.fin ?_; (repeat (first | refine XK.n ?_ | refine XK.a ?_ | refine XK.b ?_))
  (repeat (first | refine XK.n ?_ | refine XK.a ?_ | refine XK.b ?_)); refine XK.cond rfl (fun h1 => ?_) (fun h1 => ?_)
  · (repeat (first | refine XK.n ?_ | refine XK.a ?_ | refine XK.b ?_))
    (first | refine XK.o ?_ | refine XK.p ?_)
    refine cB (Eq.symm ?_)
    rw [Bool.eq_false_iff]
    intro h
    rw [sameR_iff] at h
    subst h
    rw [(listB_iff intB_iff).2 rfl, (listB_iff intB_iff).2 rfl] at h1
    simp at h1
  simp only [Bool.or_eq_false_iff, bne_eq_false_iff_eq, Bool.not_eq_false'] at h1
  obtain ⟨⟨⟨⟨⟨e1, e2⟩, e3⟩, e4⟩, e5⟩, e6⟩ := h1
  (repeat (first | refine XK.n ?_ | refine XK.a ?_ | refine XK.b ?_))
  refine XK.loop (ι := Nat) (fun i => ST.of [(2, .rptr (kC a)), (3, .rptr (kC b)), (5, .c (.int .i64 i))] [] 1000 94 (fun _ => false))
    (fun i => i ≤ a.units.length ∧ ∀ j, j < i → unitB (a.units.getD j default) (b.units.getD j default) = true) (fun i => a.units.length - i) 0 ⟨Nat.zero_le _, fun j hj => absurd hj (Nat.not_lt_zero _)⟩ (Weak.trans (Weak.frozenC (k := 2) hN rfl rfl rfl) (Weak.trans (Weak.frozenC (k := 3) hN rfl rfl rfl) (Weak.of hN rfl rfl rfl frI frI))) fun i hi => ?_
  obtain ⟨hi, hj⟩ := hi
  (repeat (first | refine XK.n ?_ | refine XK.a ?_ | refine XK.b ?_)); refine XK.cond rfl (fun hlt => ?_) (fun hlt => ?_) <;> (try simp at hlt)
  · have fx : a.units.getD (i : Int).toNat default = a.units.getD i default := rfl
    have fy : b.units.getD (i : Int).toNat default = b.units.getD i default := rfl
    (repeat (first | refine XK.n ?_ | refine XK.a ?_ | refine XK.b ?_))
    rw [fx, fy]
    (repeat (first | refine XK.n ?_ | refine XK.a ?_ | refine XK.b ?_)); refine XK.cond rfl (fun h2 => ?_) (fun h2 => ?_)
    · (repeat (first | refine XK.n ?_ | refine XK.a ?_ | refine XK.b ?_))
      (first | refine XK.o ?_ | refine XK.p ?_)
      refine cB (Eq.symm ?_)
      rw [Bool.eq_false_iff]
      intro h
      rw [sameR_iff] at h
      subst h
      have : unitB (a.units.getD i default) (a.units.getD i default) = true := (unitB_iff _ _).2 rfl
      simp only [unitB] at this
      rw [this] at h2
      cases h2
    · have h2 : unitB (a.units.getD i default) (b.units.getD i default) = true := by simpa [unitB] using h2
      (repeat (first | refine XK.n ?_ | refine XK.a ?_ | refine XK.b ?_))
      refine XK.inv ⟨i + 1, ⟨hlt, fun j hj' => ?_⟩, (Weak.of hN rfl rfl rfl frI frI), by omega⟩
      by_cases e : j = i
      · subst e; exact h2
      · exact hj j (by omega)
  have hu : listB unitB a.units b.units = true := listB_at.2 ⟨by omega, fun j hj' => hj j (by omega)⟩
  clear hj hi hlt
  (repeat (first | refine XK.n ?_ | refine XK.a ?_ | refine XK.b ?_))
  refine XK.loop (ι := Nat) (fun i => ST.of [(2, .rptr (kC a)), (3, .rptr (kC b)), (6, .c (.int .i64 i))] [] 2000 94 (fun _ => false))
    (fun i => i ≤ a.acts.length ∧ ∀ j, j < i → actEq (a.acts.getD j default) (b.acts.getD j default) = true) (fun i => a.acts.length - i) 0 ⟨Nat.zero_le _, fun j hj => absurd hj (Nat.not_lt_zero _)⟩ (Weak.of hN rfl rfl rfl frI frI) fun i hi => ?_
  obtain ⟨hi, hj⟩ := hi
  (repeat (first | refine XK.n ?_ | refine XK.a ?_ | refine XK.b ?_)); refine XK.cond rfl (fun hlt => ?_) (fun hlt => ?_) <;> (try simp at hlt)
  · have fx : a.acts.getD (i : Int).toNat default = a.acts.getD i default := rfl
    have fy : b.acts.getD (i : Int).toNat default = b.acts.getD i default := rfl
    (repeat (first | refine XK.n ?_ | refine XK.a ?_ | refine XK.b ?_))
    rw [fx, fy]
    (repeat (first | refine XK.n ?_ | refine XK.a ?_ | refine XK.b ?_)); refine XK.cond rfl (fun h2 => ?_) (fun h2 => ?_)
    · (repeat (first | refine XK.n ?_ | refine XK.a ?_ | refine XK.b ?_))
      (first | refine XK.o ?_ | refine XK.p ?_)
      refine cB (Eq.symm ?_)
      rw [Bool.eq_false_iff]
      intro h
      rw [sameR_iff] at h
      subst h
      have : actEq (a.acts.getD i default) (a.acts.getD i default) = true := (actEq_iff _ _).2 rfl
      simp only [actEq] at this
      rw [this] at h2
      cases h2
    · have h2 : actEq (a.acts.getD i default) (b.acts.getD i default) = true := by simpa [actEq] using h2
      (repeat (first | refine XK.n ?_ | refine XK.a ?_ | refine XK.b ?_))
      refine XK.inv ⟨i + 1, ⟨hlt, fun j hj' => ?_⟩, (Weak.of hN rfl rfl rfl frI frI), by omega⟩
      by_cases e : j = i
      · subst e; exact h2
      · exact hj j (by omega)
  have ha : listB actEq a.acts b.acts = true := listB_at.2 ⟨by omega, fun j hj' => hj j (by omega)⟩
  clear hj hi hlt
  (repeat (first | refine XK.n ?_ | refine XK.a ?_ | refine XK.b ?_))
  have cc := clauses24_ok a.clauses b.clauses b5 b6
  (repeat (first | refine XK.n ?_ | refine XK.a ?_ | refine XK.b ?_)); refine XK.region ?_; refine XL.g ?_
  refine XL.callLA hE rfl rfl rfl rfl trivial rfl (cc) rfl ?_
  refine XL.g ?_; refine XL.fin ?_; (repeat (first | refine XK.n ?_ | refine XK.a ?_ | refine XK.b ?_))
  (first | refine XK.o ?_ | refine XK.p ?_)
  refine cB (Eq.symm ?_)
  unfold sameR
  rw [hu, ha, e1, e2, e3, e4]
  simp
end
section
open Go.Eng
theorem stagesC_ok (k : K) (l : List Am) (tr : List Int) : Does Tryz.prog 32 [kV k, amsV l, intsV tr] (.fn (.func 65) [] [.rptr (kC k), .rptr [amsV l], .rptr [intsV tr]]) := by
  refine Does.mk (fun _ => false) TT_ok Tryz.func32 rfl (by kernel_rfl) Tryz.ntmps32 rfl rfl fun E hT hE hN hR => ?_
  have hm := mixO hE
  (repeat (first | refine XK.n ?_ | refine XK.a ?_ | refine XK.b ?_))
  refine XK.weak (Weak.trans (Weak.frozenC (k := 3) hN rfl rfl rfl) (Weak.trans (Weak.frozenC (k := 4) hN rfl rfl rfl) (Weak.frozenC (k := 5) hN rfl rfl rfl))) ?_
  (first | refine XK.o ?_ | refine XK.p ?_)
  rfl
def consA (l : List Am) (known : Int) (i : Nat) : List Am := ((seqA l).take i).filter (fun a => decide (a.known ≤ known))
noncomputable def runR (k : K) (l : List Am) (known : Int) (tr : List Int) : (List K × List St) × Int :=
  if (startS k).2 ≠ 0 then (([], []), 1) else if 60 < l.length ∨ 4000 < tr.length then (([], []), 3)
  else if (stgTo k (consA l known l.length) tr tr.length).2 ≠ 0 then (([], []), (stgTo k (consA l known l.length) tr tr.length).2)
  else (((List.range (tr.length + 1)).map (fun i => (stgTo k (consA l known l.length) tr i).1.1), (List.range (tr.length + 1)).map (fun i => (stgTo k (consA l known l.length) tr i).1.2)), 0)
end
section
open Go.Eng
theorem seqA_getD {l : List Am} {i : Nat} (hi : i < l.length) : (seqA l).getD i default = l.getD (ordAt l i) default := by
  have h1 : i < (ordL l).length := by rw [ordL_len]; exact hi
  unfold seqA ordAt
  simp [List.getD, h1]
theorem seqA_length (l : List Am) : (seqA l).length = l.length := by rw [seqA, List.length_map, ordL_len]
theorem ordAt_in {l : List Am} {i : Nat} (hi : i < l.length) : ordAt l i < l.length := by
  have h1 : i < (ordL l).length := by rw [ordL_len]; exact hi
  unfold ordAt
  rw [List.getD_eq_getElem?_getD, List.getElem?_eq_getElem h1]
  exact ordL_lt (List.getElem_mem h1)
theorem consA_succ {l : List Am} {known : Int} {i : Nat} (hi : i < l.length) : consA l known (i + 1) = if (l.getD (ordAt l i) default).known ≤ known then consA l known i ++ [l.getD (ordAt l i) default] else consA l known i := by
  have h1 : i < (seqA l).length := by rw [seqA_length]; exact hi
  have h2 : (seqA l)[i] = l.getD (ordAt l i) default := by
    have := seqA_getD hi
    rwa [List.getD_eq_getElem?_getD, List.getElem?_eq_getElem h1] at this
  unfold consA
  rw [List.take_add_one, List.getElem?_eq_getElem h1, h2, List.filter_append]
  by_cases h : (l.getD (ordAt l i) default).known ≤ known
  · rw [if_pos h, show (some (l.getD (ordAt l i) default)).toList = [l.getD (ordAt l i) default] from rfl, List.filter_cons_of_pos (by simpa using h)]; rfl
  · rw [if_neg h, show (some (l.getD (ordAt l i) default)).toList = [l.getD (ordAt l i) default] from rfl, List.filter_cons_of_neg (by simpa using h)]; exact List.append_nil _
theorem consA_len (l : List Am) (known : Int) (i : Nat) : (consA l known i).length ≤ l.length := by
  have := List.length_filter_le (fun a : Am => decide (a.known ≤ known)) ((seqA l).take i)
  rw [List.length_take, seqA_length] at this
  unfold consA
  omega
theorem consA_gd {l : List Am} (h : amGd l) (known : Int) (i : Nat) : amGd (consA l known i) := fun a ha =>
  h a ((seqA_perm l).mem_iff.1 (List.mem_of_mem_take (List.mem_filter.1 ha).1))
theorem row_snoc {α : Type} [Inhabited α] (f : α → List AV) (L : List α) (x : α) (h : Nat → List AV) (hx : h 0 = f x) : ∀ j, j < L.length + 1 → f ((L ++ [x]).getD j default) = catF L.length (fun i => f (L.getD i default)) h j := by
  intro j hj
  unfold catF
  by_cases h1 : j < L.length
  · have : Nat.blt j L.length = true := by simpa using h1
    rw [this, cond_true]
    simp [List.getD, List.getElem?_append_left h1]
  · have : Nat.blt j L.length = false := by
      cases hb : Nat.blt j L.length with
      | false => rfl
      | true => simp at hb; exact absurd hb h1
    have e : j = L.length := by omega
    rw [this, cond_false, e, Nat.sub_self, hx]
    simp [List.getD]
theorem len_snoc {α : Type} (L : List α) (x : α) : (L ++ [x]).length = L.length + 1 := by simp
noncomputable def rnS (k : K) (l : List Am) (tr : List Int) : Nat → RnS
  | 0 => (0, [], [])
  | i + 1 => if (rnS k l tr i).1 ≠ 0 then rnS k l tr i else if (stgTo k l tr i).2 ≠ 0 then ((stgTo k l tr i).2, (rnS k l tr i).2) else (0, (rnS k l tr i).2.1 ++ [(stgTo k l tr i).1.1], (rnS k l tr i).2.2 ++ [(stgTo k l tr i).1.2])
theorem stg_before {k : K} {l : List Am} {tr : List Int} {i : Nat} (h : (stgTo k l tr i).2 = 0) : ∀ j, j ≤ i → (stgTo k l tr j).2 = 0 := fun j hj => by
  by_cases h0 : (stgTo k l tr j).2 = 0
  · exact h0
  · rw [stg_stop h0 i hj] at h; exact absurd h h0
theorem rnS_good {k : K} {l : List Am} {tr : List Int} : ∀ i, (∀ j, j < i → (stgTo k l tr j).2 = 0) → rnS k l tr i = (0, (List.range i).map (fun j => (stgTo k l tr j).1.1), (List.range i).map (fun j => (stgTo k l tr j).1.2))
  | 0, _ => rfl
  | i + 1, h => by
    rw [rnS, rnS_good i fun j hj => h j (by omega), if_neg (by simp), if_neg (by simpa using h i (by omega)), List.range_succ, List.map_append, List.map_append]
    rfl
theorem rnS_bad {k : K} {l : List Am} {tr : List Int} : ∀ i, (stgTo k l tr i).2 ≠ 0 → (rnS k l tr (i + 1)).1 = (stgTo k l tr i).2
  | 0, h => by rw [rnS, if_neg (by simp [rnS]), if_pos h]
  | i + 1, h => by
    by_cases h0 : (stgTo k l tr i).2 = 0
    · have hb := stg_before h0
      rw [rnS, rnS_good (i + 1) fun j hj => hb j (by omega), if_neg (by simp), if_pos h]
    · have hs := stg_stop h0 (i + 1) (by omega)
      rw [rnS, if_pos (by rw [rnS_bad i h0]; exact h0), rnS_bad i h0, hs]
theorem rnS_stop {k : K} {l : List Am} {tr : List Int} {i : Nat} (h : (rnS k l tr i).1 ≠ 0) : ∀ m, i ≤ m → rnS k l tr m = rnS k l tr i := by
  intro m hm
  induction m with
  | zero => have : i = 0 := by omega
            rw [this]
  | succ m ih =>
    by_cases h1 : i = m + 1
    · rw [h1]
    · have h2 := ih (by omega)
      rw [rnS, if_pos (by rw [h2]; exact h), h2]
def ksV (l : List K) : AV := rowL kC 7 l
def stsV (l : List St) : AV := rowL stC 4 l
theorem runErr_ok (k : K) (hk : kW k) (l : List Am) (known : Int) (tr : List Int) (h : (startS k).2 ≠ 0) : Does Tryz.prog 10 [kV k, amsV l, .c (.int .i64 known), intsV tr] (.tup [.c (.slice none 0 0), .c (.slice none 0 0), .c (.int .i64 1)]) := by
  have hs := startS_ok k hk
  generalize startS k = s at *
  refine Does.mk (fun _ => false) TT_ok Tryz.func10 rfl (by kernel_rfl) Tryz.ntmps10 rfl rfl fun E hT hE hN hR => ?_
  have hm := mixO hE
  (repeat (first | refine XK.n ?_ | refine XK.a ?_ | refine XK.b ?_))
  (repeat (first | refine XK.n ?_ | refine XK.a ?_ | refine XK.b ?_)); refine XK.region ?_; refine XL.g ?_
  refine XL.callKA hE rfl rfl rfl rfl trivial rfl rfl (hs) ?_
  refine XL.g ?_; refine XL.fin ?_; (repeat (first | refine XK.n ?_ | refine XK.a ?_ | refine XK.b ?_))
  (repeat (first | refine XK.n ?_ | refine XK.a ?_ | refine XK.b ?_)); refine XK.cond rfl (fun h1 => ?_) (fun h1 => ?_) <;> (try simp at h1)
  · (repeat (first | refine XK.n ?_ | refine XK.a ?_ | refine XK.b ?_))
    (first | refine XK.o ?_ | refine XK.p ?_)
    rfl
  · exact absurd h1 h
end
section
open Go.Eng
theorem setRow_same {cs : List Cl} {i off : Nat} {c : List AV} (hc : setL (clC (cs.getD i default)) off c = clC (cs.getD i default)) : ∀ j, clC (cs.getD j default) = setRowF (fun i => clC (cs.getD i default)) i off c j := by
  intro j
  unfold setRowF
  by_cases h : j = i
  · subst h; rw [show Nat.beq j j = true by simp]; exact hc.symm
  · rw [beq_false h]; rfl
theorem copied_ok (k : K) (h1 : (kValid k).1 = 0) (hk : kW k) : Does Tryz.prog 28 [kV k] (kV k) := by
  have hF := (show kOk k from ⟨hk, h1⟩).facts
  have hnc := hF.nc
  have hnh := hF.nh
  have hna := hF.na
  have hnu := units_len h1
  have hno := off_len hF
  refine Does.mk (fun _ => false) TT_ok Tryz.func28 rfl (by kernel_rfl) Tryz.ntmps28 rfl rfl fun E hT hE hN hR => ?_
  have hm := mixO hE
  (repeat (first | refine XK.n ?_ | refine XK.a ?_ | refine XK.b ?_)); refine XK.drawn hm ?_; refine XD.goA hT rfl rfl rfl rfl ?_
  refine XD.callKA hE rfl rfl rfl rfl trivial rfl rfl (cln_ints k.holders (by omega)) ?_
  refine XD.goA hT rfl rfl rfl rfl ?_
  refine XD.callKA hE rfl rfl rfl rfl trivial rfl rfl (cln_units k.units (by omega)) ?_
  refine XD.goA hT rfl rfl rfl rfl ?_; refine XD.fin (by kernel_rfl) ?_; (repeat (first | refine XK.n ?_ | refine XK.a ?_ | refine XK.b ?_))
  (repeat (first | refine XK.n ?_ | refine XK.a ?_ | refine XK.b ?_)); refine XK.drawn hm ?_; refine XD.goA hT rfl rfl rfl rfl ?_
  refine XD.callKA hE rfl rfl rfl rfl trivial rfl rfl (cln_acts k.acts (by omega)) ?_
  refine XD.goA hT rfl rfl rfl rfl ?_
  refine XD.callKA hE rfl rfl rfl rfl trivial rfl rfl (cln_ints k.off (by omega)) ?_
  refine XD.goA hT rfl rfl rfl rfl ?_; refine XD.fin (by kernel_rfl) ?_; (repeat (first | refine XK.n ?_ | refine XK.a ?_ | refine XK.b ?_))
  by_cases h0 : k.clauses.length = 0
  · (repeat (first | refine XK.n ?_ | refine XK.a ?_ | refine XK.b ?_)); refine XK.region ?_; refine XL.g ?_
    refine XL.callKA hE rfl rfl rfl rfl trivial rfl rfl (cln_cls k.clauses (by omega)) ?_
    refine XL.g ?_; refine XL.fin ?_; (repeat (first | refine XK.n ?_ | refine XK.a ?_ | refine XK.b ?_))
    refine XK.loop (ι := Nat) (fun i => ST.of [(1, .ptr 1 0), (2, .ptr 2 0), (26, .c (.int .i64 k.clauses.length)), (27, .c (.int .i64 0))] [(1, .cells 27 (kC k)), (2, .cells 27 [.c (.int .i64 0), .c (.slice none 0 0), .c (.slice none 0 0), .c (.slice none 0 0), .c (.slice none 0 0), .c (.int .i64 0), .c (.slice none 0 0)])] 1000 44 (fun _ => false))
      (fun i => i = 0) (fun i => 0) 0 rfl (Weak.of hN rfl rfl rfl frI frI) fun i hi => ?_
    (repeat (first | refine XK.n ?_ | refine XK.a ?_ | refine XK.b ?_)); refine XK.cond rfl (fun hlt => ?_) (fun hlt => ?_) <;> (try simp at hlt)
    · omega
    · (repeat (first | refine XK.n ?_ | refine XK.a ?_ | refine XK.b ?_))
      (first | refine XK.o ?_ | refine XK.p ?_)
      rfl
  · (repeat (first | refine XK.n ?_ | refine XK.a ?_ | refine XK.b ?_)); refine XK.region ?_; refine XL.g ?_
    refine XL.callMA [700] hE rfl rfl rfl rfl trivial (clnM_cls k.clauses (by omega) (by omega)) rfl rfl rfl rfl rfl ?_
    refine XL.g ?_; refine XL.fin ?_; (repeat (first | refine XK.n ?_ | refine XK.a ?_ | refine XK.b ?_))
    refine XK.loop (ι := Nat) (fun i => ST.of [(1, .ptr 1 0), (2, .ptr 2 0), (26, .c (.int .i64 k.clauses.length)), (27, .c (.int .i64 i))]
      [(1, .cells 27 [.c (.int .i64 k.parties), intsV k.holders, unitsV k.units, actsV k.acts, .vec 700 0, .c (.int .i64 k.days), intsV k.off]), (2, .cells 27 [.c (.int .i64 0), .c (.slice none 0 0), .c (.slice none 0 0), .c (.slice none 0 0), .c (.slice none 0 0), .c (.int .i64 0), .c (.slice none 0 0)]), (700, clsO 0 k.clauses)] 1000 44 (fun _ => false))
      (fun i => i ≤ k.clauses.length) (fun i => k.clauses.length - i) 0 (Nat.zero_le _) (Weak.of hN rfl rfl rfl frI frI) fun i hi => ?_
    unfold clsO
    (repeat (first | refine XK.n ?_ | refine XK.a ?_ | refine XK.b ?_)); refine XK.cond rfl (fun hlt => ?_) (fun hlt => ?_) <;> (try simp at hlt)
    · have fx : k.clauses.getD (i : Int).toNat default = k.clauses.getD i default := rfl
      have hst : (k.clauses.getD i default).start.length ≤ 8 := (hF.clB hlt).2.2.2.1
      have cc := cln_cnds (k.clauses.getD i default).start (by omega)
      (repeat (first | refine XK.n ?_ | refine XK.a ?_ | refine XK.b ?_))
      (repeat (first | refine XK.n ?_ | refine XK.a ?_ | refine XK.b ?_)); refine XK.drawn hm ?_; refine XD.goA hT rfl rfl rfl rfl ?_
      rw [fx]
      refine XD.callKA hE rfl rfl rfl rfl trivial rfl rfl (cc) ?_
      refine XD.goA hT rfl rfl rfl rfl ?_; refine XD.fin (by kernel_rfl) ?_; (repeat (first | refine XK.n ?_ | refine XK.a ?_ | refine XK.b ?_))
      refine XK.inv ⟨i + 1, hlt, Weak.of hN rfl rfl rfl frV ⟨frI, frI, ⟨rfl, rfl, rfl⟩, rfl, fun j hj => setRow_same rfl j⟩, by omega⟩
    · (repeat (first | refine XK.n ?_ | refine XK.a ?_ | refine XK.b ?_))
      refine XK.weak (Weak.frozen (k := 700) hN rfl rfl) ?_
      (repeat (first | refine XK.n ?_ | refine XK.a ?_ | refine XK.b ?_))
      (first | refine XK.o ?_ | refine XK.p ?_)
      rfl
end
section
open Go.Eng
abbrev InS := (K × List Int) × Bool
def numsO (L : List Int) : Ob := .vec 3 1 (2 * L.length) L.length (fun i => [.c (.int .i64 (L.getD i default))])
def inO (s : InS) : List Ob := [.cells 27 (kC s.1.1), .cells 22 [.vec 3 (2 * s.1.2.length)], numsO s.1.2]
def inN (s : InS) : List (Nat × Ob) := [(1, .cells 27 (kC s.1.1)), (2, .cells 22 [.vec 3 (2 * s.1.2.length)]), (3, numsO s.1.2)]
def csI (day : Int) : List AV := frL 51 [(6, .rptr [.c (.int .i64 day)]), (12, .ptr 1 0), (13, .ptr 2 0)]
def amAt (l : List Am) (i : Nat) : Am := l.getD (ordAt l i) default
theorem countI_ok (l : List Am) (known : Int) (hl : l.length ≤ 1) (day : Int) (L b : Nat) (mk : LoopState → Option Code → Array Value → Obj) (jmp : Code) (mkE : Array Value → Obj) (st : Nat → InS) (h0 : (st 0).2 = false)
    (hN0 : ∀ i, i < l.length → known < (amAt l i).known → st (i + 1) = st i) (hS : ∀ i, (st i).2 = true → ∀ m, i ≤ m → st m = st i)
    (hY : ∀ i, i < l.length → (amAt l i).known ≤ known → (st i).2 = false →
      DoesR Tryz.prog L [amV (amAt l i)] (.lrec (mk .ready none) b (csI day) :: inO (st i)) (.c (.bool (!(st (i + 1)).2))) (.lrec (if (st (i + 1)).2 = false then mk .ready none else mk .done (some jmp)) b (csI day) :: inO (st (i + 1))))
    (hE : (if (st l.length).2 = false then mk .ready none else mk .done (some jmp)) = mkE) :
    DoesM Tryz.prog 59 [.fn (.yield L) [] [], .rptr [amsV l], .rptr [.c (.int .i64 known)]] (.lrec (mk .ready none) b (csI day) :: inO (st 0)) (.tup []) (.lrec mkE b (csI day) :: inO (st l.length)) := by
  subst hE
  refine DoesM.mk (fun _ => false) 100 TT_ok Tryz.func59 rfl (by kernel_rfl) Tryz.ntmps59 rfl rfl rfl fun E hT hE hN hR => ?_
  have hm := mixO hE
  (repeat (first | refine XK.n ?_ | refine XK.a ?_ | refine XK.b ?_)); refine XK.region ?_; refine XL.g ?_
  refine XL.callKA hE rfl rfl rfl rfl trivial rfl rfl (order_ok l hl) ?_
  refine XL.g ?_; refine XL.fin ?_; (repeat (first | refine XK.n ?_ | refine XK.a ?_ | refine XK.b ?_))
  have hol := ordI_len l
  refine XK.loop (ι := Nat) (fun i => ST.of [(0, .fn (.yield L) [] []), (1, .rptr [amsV l]), (2, .rptr [.c (.int .i64 known)]), (7, intsV (ordI l)), (8, .c (.int .i64 l.length)), (9, .c (.int .i64 i))]
      ((0, .lrec (mk .ready none) b (csI day)) :: inN (st i)) 1000 30 (fun _ => false))
    (fun i => i ≤ l.length ∧ (st i).2 = false) (fun i => l.length - i) 0 ⟨Nat.zero_le _, h0⟩
    (Weak.of hN rfl rfl rfl (by (repeat' (first | exact rfl | exact AvIs.refl _ | exact trivial | exact fun _ _ => rfl | exact fun _ _ => ⟨rfl, AvIs.refl _⟩ | exact cI (by omega) | exact (cI (by omega)) | refine ⟨?_, ?_⟩))) frI) fun i hi => ?_
  obtain ⟨hi, hst⟩ := hi
  (repeat (first | refine XK.n ?_ | refine XK.a ?_ | refine XK.b ?_)); refine XK.cond rfl (fun hlt => ?_) (fun hlt => ?_) <;> (try simp at hlt)
  · have hY := hY i hlt
    have hN0 := hN0 i hlt
    have hor := ordI_at l hlt
    have hop : ordAt l i < l.length := by
      unfold ordAt
      have h1 : i < (ordL l).length := by rw [ordL_len]; exact hlt
      rw [List.getD_eq_getElem?_getD, List.getElem?_eq_getElem h1]
      exact ordL_lt (List.getElem_mem h1)
    have fx : (ordI l).getD (i : Int).toNat default = (ordAt l i : Nat) := hor
    have fa : l.getD ((ordAt l i : Nat) : Int).toNat default = amAt l i := rfl
    (repeat (first | refine XK.n ?_ | refine XK.a ?_ | refine XK.b ?_))
    rw [fx]
    refine XK.drawn hm ?_
    refine XD.goA hT rfl rfl rfl rfl ?_
    rw [fa]
    have hN0 : (decide ((amAt l i).known ≤ known)) = false → st (i + 1) = st i := fun h => hN0 (by simpa using h)
    have hY : (decide ((amAt l i).known ≤ known)) = true → _ := fun h => hY (by simpa using h) hst
    generalize hg : decide ((amAt l i).known ≤ known) = gd at *
    refine XD.yieldMG [0, 1, 2, 3] (.c (.bool false)) hE rfl rfl rfl rfl rfl rfl (fun hgd => ?_) rfl (fun hgd => ?_) (fun hgd => hY hgd) rfl ?_ rfl (fun hgd => ?_) rfl rfl rfl (fun hgd => ?_)
    · subst hgd
      refine XD.goA hT rfl rfl rfl rfl ?_; refine XD.fin (by kernel_rfl) ?_; (repeat (first | refine XK.n ?_ | refine XK.a ?_ | refine XK.b ?_))
      (repeat (first | refine XK.n ?_ | refine XK.a ?_ | refine XK.b ?_)); refine XK.cond rfl (fun hb => ?_) (fun hb => ?_)
      · cases hb
      · (repeat (first | refine XK.n ?_ | refine XK.a ?_ | refine XK.b ?_))
        refine XK.inv ⟨i + 1, ⟨hlt, by rw [hN0 rfl]; exact hst⟩, ?_, by omega⟩
        rw [hN0 rfl]
        exact (Weak.of hN rfl rfl rfl frI frI)
    · simp only [AllP, impG, hgd]; simp
    · exact frI
    · exact frI
    · subst hgd
      refine XD.goA hT rfl rfl rfl rfl ?_; refine XD.fin (by kernel_rfl) ?_; (repeat (first | refine XK.n ?_ | refine XK.a ?_ | refine XK.b ?_))
      (repeat (first | refine XK.n ?_ | refine XK.a ?_ | refine XK.b ?_)); refine XK.cond rfl (fun hb => ?_) (fun hb => ?_)
      · have h7 : (st (i + 1)).2 = true := by simpa using hb
        have hlast := hS (i + 1) h7 l.length hlt
        rw [hlast, h7, if_neg (by simp)]
        (repeat (first | refine XK.n ?_ | refine XK.a ?_ | refine XK.b ?_))
        (first | refine XK.outR [0, 1, 2, 3] hN rfl rfl rfl ?_ rfl rfl ?_ | refine XK.outRN [0, 1, 2, 3] hN rfl rfl rfl ?_ rfl rfl ?_)
        · exact frI
        · exact frI
      · have h7 : (st (i + 1)).2 = false := by simpa using hb
        rw [if_pos h7]
        (repeat (first | refine XK.n ?_ | refine XK.a ?_ | refine XK.b ?_))
        exact XK.inv ⟨i + 1, ⟨hlt, h7⟩, (Weak.of hN rfl rfl rfl frI frI), by omega⟩
  · have hie : i = l.length := by omega
    subst hie
    rw [if_pos hst]
    (repeat (first | refine XK.n ?_ | refine XK.a ?_ | refine XK.b ?_))
    (first | refine XK.outR [0, 1, 2, 3] hN rfl rfl rfl ?_ rfl rfl ?_ | refine XK.outRN [0, 1, 2, 3] hN rfl rfl rfl ?_ rfl rfl ?_)
    · exact frI
    · exact frI
end
section
open Go.Eng
noncomputable def stepA (s : K × List Int) (a : Am) : K × List Int := if (applyR s.1 a.patch).2 = 0 then ((applyR s.1 a.patch).1, s.2 ++ [a.number]) else s
noncomputable def stI (l : List Am) (k : K) (day known : Int) : Nat → InS
  | 0 => ((k, []), false)
  | i + 1 => if (stI l k day known i).2 = true then stI l k day known i else if known < (amAt l i).known then stI l k day known i else if day < (amAt l i).day then ((stI l k day known i).1, true) else (stepA (stI l k day known i).1 (amAt l i), false)
noncomputable def inForceR (k : K) (l : List Am) (day known : Int) : (K × List Int) × Int := if checkV k l ≠ 0 then ((zeroK, []), checkV k l) else ((stI l k day known l.length).1, 0)
def amOk (a : Am) : Prop := amW a ∧ a.patch.clauses.length ≤ 1000000 ∧ a.patch.new.start.length ≤ 1000000
def amsOk (l : List Am) : Prop := ∀ a ∈ l, amOk a
theorem amAt_mem {l : List Am} {i : Nat} (hi : i < l.length) : amAt l i ∈ l := by
  have h1 : i < (ordL l).length := by rw [ordL_len]; exact hi
  have h2 : ordAt l i < l.length := by
    unfold ordAt
    rw [List.getD_eq_getElem?_getD, List.getElem?_eq_getElem h1]
    exact ordL_lt (List.getElem_mem h1)
  unfold amAt
  rw [List.getD_eq_getElem?_getD, List.getElem?_eq_getElem h2]
  exact List.getElem_mem h2
theorem stI_stop {l : List Am} {k : K} {day known : Int} {i : Nat} (h : (stI l k day known i).2 = true) : ∀ m, i ≤ m → stI l k day known m = stI l k day known i := by
  intro m hm
  induction m with
  | zero => have : i = 0 := by omega
            rw [this]
  | succ m ih =>
    by_cases h1 : i = m + 1
    · rw [h1]
    · have h2 := ih (by omega)
      rw [stI, if_pos (by rw [h2]; exact h), h2]
theorem stepA_W {s : K × List Int} (h : kW s.1) {a : Am} (ha : amOk a) : kW (stepA s a).1 := by
  unfold stepA
  split
  · exact applyR_W h ha.1.2.2.2
  · exact h
theorem stI_W {l : List Am} (hl : amsOk l) {k : K} (hk : kW k) {day known : Int} : ∀ i, i ≤ l.length → kW (stI l k day known i).1.1
  | 0, _ => hk
  | i + 1, hi => by
    have ih := stI_W hl hk (day := day) (known := known) i (by omega)
    rw [stI]
    split
    · exact ih
    · split
      · exact ih
      · split
        · exact ih
        · exact stepA_W ih (hl _ (amAt_mem (by omega)))
theorem stI_len (l : List Am) (k : K) (day known : Int) : ∀ i, (stI l k day known i).1.2.length ≤ i
  | 0 => Nat.le_refl _
  | i + 1 => by
    have ih := stI_len l k day known i
    rw [stI]
    split
    · omega
    · split
      · omega
      · split
        · show (stI l k day known i).1.2.length ≤ _; omega
        · show (stepA _ _).2.length ≤ _
          unfold stepA
          split
          · simp; omega
          · omega
theorem ints_appV (L : List Int) (x : Int) (h : Nat → List AV) (hx : h 0 = [.c (.int .i64 x)]) : ∀ j, j < L.length + 1 → [AV.c (.int .i64 ((L ++ [x]).getD j default))] = catF L.length (fun i => [AV.c (.int .i64 (L.getD i default))]) h j := by
  intro j hj
  unfold catF
  by_cases h1 : j < L.length
  · have : Nat.blt j L.length = true := by simpa using h1
    rw [this, cond_true]
    simp [List.getD, List.getElem?_append_left h1]
  · have : Nat.blt j L.length = false := by
      cases hb : Nat.blt j L.length with
      | false => rfl
      | true => simp at hb; exact absurd hb h1
    have e : j = L.length := by omega
    rw [this, cond_false, e, Nat.sub_self, hx]
    simp [List.getD]
theorem inForce_ok0 (k : K) (hk : kW k) (l : List Am) (hl : amsOk l) (day known : Int) (hmx : (60 : Nat) ≤ 1 ∨ l.length ≤ 1 := by exact .inl (by decide)) : Does Tryz.prog 9 [kV k, amsV l, .c (.int .i64 day), .c (.int .i64 known)] (.tup [kE ((inForceR k l day known).1.1, (inForceR k l day known).2), intsV (inForceR k l day known).1.2, .c (.int .i64 (inForceR k l day known).2)]) := by
  refine Does.mk (fun _ => false) TT_ok Tryz.func9 rfl (by kernel_rfl) Tryz.ntmps9 rfl rfl fun E hT hE hN hR => ?_
  have hm := mixO hE
  (repeat (first | refine XK.n ?_ | refine XK.a ?_ | refine XK.b ?_)); refine XK.region ?_; refine XL.g ?_
  refine XL.callLA hE rfl rfl rfl rfl trivial rfl (checkV_ok k hk l) rfl ?_
  refine XL.g ?_; refine XL.fin ?_; (repeat (first | refine XK.n ?_ | refine XK.a ?_ | refine XK.b ?_))
  (repeat (first | refine XK.n ?_ | refine XK.a ?_ | refine XK.b ?_)); refine XK.cond rfl (fun h1 => ?_) (fun h1 => ?_) <;> (try simp at h1)
  · (repeat (first | refine XK.n ?_ | refine XK.a ?_ | refine XK.b ?_))
    (first | refine XK.outL rfl rfl rfl ?_ | refine XK.outLN rfl rfl rfl ?_)
    rw [inForceR, if_pos h1]
    unfold kE
    rw [if_neg h1]
    exact ⟨rfl, ⟨rfl, rfl⟩, rfl⟩
  have hv : (kValid k).1 = 0 := by
    by_cases h : (kValid k).1 = 0
    · exact h
    · rw [checkV, if_pos h] at h1; cases h1
  have hll : l.length ≤ 60 := by
    by_cases h : 60 < l.length
    · rw [checkV, if_neg (by simpa using hv), if_pos h] at h1; cases h1
    · omega
  have hlx : l.length ≤ 1 := by rcases hmx with h | h <;> omega
  rw [inForceR, if_neg (by rw [h1]; simp)]
  (repeat (first | refine XK.n ?_ | refine XK.a ?_ | refine XK.b ?_)); refine XK.region ?_; refine XL.g ?_
  refine XL.callKA hE rfl rfl rfl rfl trivial rfl rfl (copied_ok k hv hk) ?_
  refine XL.g ?_; refine XL.fin ?_; (repeat (first | refine XK.n ?_ | refine XK.a ?_ | refine XK.b ?_))
  (repeat (first | refine XK.n ?_ | refine XK.a ?_ | refine XK.b ?_)); refine XK.region ?_; refine XL.g ?_
  refine XL.callKA hE rfl rfl rfl rfl trivial rfl rfl (counting_ok l known) ?_
  refine XL.g ?_; refine XL.fin ?_; (repeat (first | refine XK.n ?_ | refine XK.a ?_ | refine XK.b ?_))
  generalize hsE : stI l k day known l.length = sE
  have hsE : sE = stI l k day known l.length := hsE.symm
  refine XK.weak (Weak.trans (Weak.frozenC (k := 6) hN rfl rfl rfl) (Weak.trans (Weak.ghostC (c := 217) (k := 218) (e := 3) (sz := 1) (f := fun _ => []) rfl rfl rfl)
    (Weak.of (L := [(6, .rptr [.c (.int .i64 day)]), (8, .ptr 8 0), (12, .ptr 165 0), (13, .ptr 217 0), (28, (.fn (.func 59) [] [.rptr [amsV l], .rptr [.c (.int .i64 known)]]))])
      (O := [(165, .cells 27 (kC k)), (217, .cells 22 [.vec 218 0]), (218, numsO []), (8, .cells 27 [.c (.int .i64 0), .c (.slice none 0 0), .c (.slice none 0 0), .c (.slice none 0 0), .c (.slice none 0 0), .c (.int .i64 0), .c (.slice none 0 0)])]) (nx := 2000) (nt := 51) (md := fun _ => false) hN rfl rfl rfl frI (by (repeat' (first | exact rfl | exact AvIs.refl _ | exact trivial | exact fun _ _ => rfl | exact fun _ _ => ⟨rfl, AvIs.refl _⟩ | exact cI (by omega) | exact (fun i hi => absurd hi (Nat.not_lt_zero _)) | refine ⟨?_, ?_⟩)))))) ?_
  refine XK.rangeFunc 900 [165, 217, 218] (frL 51 [(6, .rptr [.c (.int .i64 day)]), (12, .ptr 165 0), (13, .ptr 217 0)])
    (ST.of [(8, .ptr 8 0), (12, .ptr 165 0), (13, .ptr 217 0)] [(165, .cells 27 (kC sE.1.1)), (217, .cells 22 [.vec 218 (2 * sE.1.2.length)]), (218, numsO sE.1.2), (8, .cells 27 [.c (.int .i64 0), .c (.slice none 0 0), .c (.slice none 0 0), .c (.slice none 0 0), .c (.slice none 0 0), .c (.int .i64 0), .c (.slice none 0 0)])] 3000 51 (fun _ => false))
    (res := .tup []) (args' := [.rptr [amsV l], .rptr [.c (.int .i64 known)]]) (s := if sE.2 = false then .ready else .done) (pend := if sE.2 = false then none else some (.exit 0)) (O' := inO sE) (O := inO ((k, []), false)) hR rfl trivial rfl (frL_length _ _) (frL_is frI) (fun L D fn => ?_) rfl frI rfl rfl frI rfl rfl (by split <;> simp) (fun L D fn cs => (Weak.of hN rfl rfl rfl frI frI)) ?_
  · rw [hsE, hE]
    refine countI_ok l known (by omega) day L L (recOf fn _ _ _ D) (.exit 0) _ (stI l k day known) rfl (fun i hi h => ?_) (fun i h m hm => stI_stop h m hm) (fun i hi hkn h0 => ?_) ?_
    · rw [stI]
      split
      · rfl
      · rfl
    rotate_left
    · split <;> rfl
    have hst : stI l k day known (i + 1) = if day < (amAt l i).day then ((stI l k day known i).1, true) else (stepA (stI l k day known i).1 (amAt l i), false) := by
      rw [stI, if_neg (by rw [h0]; simp), if_neg (by omega)]
    have hW := stI_W hl hk (day := day) (known := known) i (by omega)
    have hlen := stI_len l k day known i
    have hao := hl _ (amAt_mem hi)
    rw [hst]
    generalize stI l k day known i = s at *
    generalize amAt l i = a at *
    obtain ⟨⟨now, nums⟩, ov⟩ := s
    simp only at h0 hlen hW
    subst h0
    clear hsE hst
    refine DoesR.mkT TT_ok (fun _ => false) 100 (ST.of [(6, .rptr [.c (.int .i64 day)]), (12, .ptr 1 0), (13, .ptr 2 0), (14, .ptr 114 0)]
      ((0, .lrec (recOf fn _ _ _ D .ready none) L (csI day)) :: inN ((now, nums), false) ++ [(114, .cells 82 (amC a))]) 1000 51 (fun _ => false)) rfl ?_ (Nat.le_refl 3) (fun E hT hE hN hR => ?_) rfl (fun E hT hE hN hR => ?_)
    · intro x hx
      simp only [List.mem_toArray, List.mem_singleton] at hx
      subst hx
      show 29 < (frL 51 _).length
      rw [frL_length]
      omega
    · have hm := mixO hE
      (repeat (first | refine XK.n ?_ | refine XK.a ?_ | refine XK.b ?_))
      exact XK.nil ⟨rfl, (Weak.of hN rfl rfl rfl frI frI)⟩
    · have hm := mixO hE
      (repeat (first | refine XK.n ?_ | refine XK.a ?_ | refine XK.b ?_)); refine XK.cond rfl (fun h6 => ?_) (fun h6 => ?_) <;> (try simp at h6)
      · rw [if_pos h6]
        (repeat (first | refine XK.n ?_ | refine XK.a ?_ | refine XK.b ?_))
        refine XK.exitQ ?_
        (refine XK.outX [0, 1, 2, 3] hN rfl rfl rfl ?_ ?_ ?_)
        · exact frI
        · rfl
        · rfl
      · rw [if_neg (by omega)]
        have ap := apply_ok now hW a.patch hao.1.2.2.2 hao.2.1 hao.2.2
        (repeat (first | refine XK.n ?_ | refine XK.a ?_ | refine XK.b ?_)); refine XK.region ?_; refine XL.g ?_
        refine XL.callKA hE rfl rfl rfl rfl trivial rfl rfl (ap) ?_
        refine XL.g ?_; refine XL.fin ?_; (repeat (first | refine XK.n ?_ | refine XK.a ?_ | refine XK.b ?_))
        have hsa : stepA (now, nums) a = if (applyR now a.patch).2 = 0 then ((applyR now a.patch).1, nums ++ [a.number]) else (now, nums) := rfl
        rw [hsa]
        generalize applyR now a.patch = r at *
        (repeat (first | refine XK.n ?_ | refine XK.a ?_ | refine XK.b ?_)); refine XK.cond rfl (fun h7 => ?_) (fun h7 => ?_) <;> (try simp at h7)
        · rw [if_pos h7]
          refine XK.weak (Weak.trans (Weak.steal 500 (k := 3) (s := 2 * nums.length) (f' := fun _ => []) hN rfl rfl rfl) (Weak.of (L := [(12, .ptr 1 0), (13, .ptr 2 0), (14, .ptr 114 0), (15, .ptr 1066 0)])
            (O := [(0, .lrec (recOf fn _ _ _ D .busy none) L (csI day)), (1, .cells 27 (kC now)), (2, .cells 22 [.vec 500 0]), (3, .vec 3 1 (2 * nums.length + 1) 0 (fun _ => [])),
              (500, .vec 3 1 0 nums.length (fun i => [.c (.int .i64 (nums.getD i default))])), (114, .cells 82 (amC a)), (1066, .cells 27 (kC r.1))]) (nx := 3000) (nt := 51) (md := fun _ => false) hN rfl rfl rfl frI ⟨⟨rfl, rfl, rfl⟩, frI, ⟨rfl, congrArg (fun x => [x]) (stealG_self 3 (2 * nums.length) 500)⟩, frI, frI, frI, frI⟩)) ?_
          (repeat (first | refine XK.n ?_ | refine XK.a ?_ | refine XK.b ?_))
          refine XK.nilY (Weak.give (k := 3) (q := 500) (2 * (nums.length + 1)) hN rfl rfl rfl rfl (by show 2 * nums.length + 1 < _; omega)) ?_
          (first | refine XK.outY [0, 1, 2, 3] hN rfl rfl rfl ?_ ?_ ?_ | refine XK.outYN [0, 1, 2, 3] hN rfl rfl rfl ?_ ?_ ?_)
          · exact ⟨⟨rfl, rfl, rfl⟩, frI, ⟨rfl, by simp⟩, ⟨rfl, rfl, by simp⟩, by simp, ints_appV nums a.number _ rfl⟩
          · rfl
          · rfl
        · rw [if_neg h7]
          (repeat (first | refine XK.n ?_ | refine XK.a ?_ | refine XK.b ?_))
          (first | refine XK.outY [0, 1, 2, 3] hN rfl rfl rfl ?_ ?_ ?_ | refine XK.outYN [0, 1, 2, 3] hN rfl rfl rfl ?_ ?_ ?_)
          · exact frI
          · rfl
          · rfl
  · have hkE : kE (sE.1.1, (0 : Int)) = kV sE.1.1 := if_pos rfl
    rw [hkE]
    refine (show ∀ kk, kk = sE.2 → _ from fun kk hkk => ?_) sE.2 rfl
    cases kk with
    | false =>
      rw [if_pos hkk.symm]
      refine XK.weak (Weak.trans (Weak.stamp (k := 218) (t := 0) hN rfl rfl) (Weak.trans (Weak.of (L := [(8, .ptr 8 0), (12, .ptr 165 0), (13, .ptr 217 0)])
        (O := [(217, .cells 22 [.vec 218 0]), (218, .vec 3 1 0 sE.1.2.length (fun i => [.c (.int .i64 (sE.1.2.getD i default))])), (165, .cells 27 (kC sE.1.1)), (8, .cells 27 [.c (.int .i64 0), .c (.slice none 0 0), .c (.slice none 0 0), .c (.slice none 0 0), .c (.slice none 0 0), .c (.int .i64 0), .c (.slice none 0 0)])]) (nx := 4000) (nt := 51) (md := fun _ => false) hN rfl rfl rfl frI ⟨⟨rfl, congrArg (fun x => [x]) (stampG_self 218 (2 * sE.1.2.length) 0)⟩, frI, frI, frI⟩)
        (Weak.trans (Weak.frozen (k := 218) hN rfl rfl) (Weak.of (L := [(8, .ptr 8 0), (12, .ptr 165 0), (13, .ptr 217 0)])
          (O := [(217, .cells 22 [intsV sE.1.2]), (165, .cells 27 (kC sE.1.1)), (8, .cells 27 [.c (.int .i64 0), .c (.slice none 0 0), .c (.slice none 0 0), .c (.slice none 0 0), .c (.slice none 0 0), .c (.int .i64 0), .c (.slice none 0 0)])]) (nx := 4000) (nt := 51) (md := fun _ => false) hN rfl rfl rfl frI frI)))) ?_
      (repeat (first | refine XK.n ?_ | refine XK.a ?_ | refine XK.b ?_))
      (first | refine XK.o ?_ | refine XK.p ?_)
      rfl
    | true =>
      rw [if_neg (by rw [← hkk]; simp)]
      refine XK.exit rfl ?_
      refine XK.weak (Weak.trans (Weak.stamp (k := 218) (t := 0) hN rfl rfl) (Weak.trans (Weak.of (L := [(8, .ptr 8 0), (12, .ptr 165 0), (13, .ptr 217 0)])
        (O := [(217, .cells 22 [.vec 218 0]), (218, .vec 3 1 0 sE.1.2.length (fun i => [.c (.int .i64 (sE.1.2.getD i default))])), (165, .cells 27 (kC sE.1.1)), (8, .cells 27 [.c (.int .i64 0), .c (.slice none 0 0), .c (.slice none 0 0), .c (.slice none 0 0), .c (.slice none 0 0), .c (.int .i64 0), .c (.slice none 0 0)])]) (nx := 4000) (nt := 51) (md := fun _ => false) hN rfl rfl rfl frI ⟨⟨rfl, congrArg (fun x => [x]) (stampG_self 218 (2 * sE.1.2.length) 0)⟩, frI, frI, frI⟩)
        (Weak.trans (Weak.frozen (k := 218) hN rfl rfl) (Weak.of (L := [(8, .ptr 8 0), (12, .ptr 165 0), (13, .ptr 217 0)])
          (O := [(217, .cells 22 [intsV sE.1.2]), (165, .cells 27 (kC sE.1.1)), (8, .cells 27 [.c (.int .i64 0), .c (.slice none 0 0), .c (.slice none 0 0), .c (.slice none 0 0), .c (.slice none 0 0), .c (.int .i64 0), .c (.slice none 0 0)])]) (nx := 4000) (nt := 51) (md := fun _ => false) hN rfl rfl rfl frI frI)))) ?_
      (repeat (first | refine XK.n ?_ | refine XK.a ?_ | refine XK.b ?_))
      (first | refine XK.o ?_ | refine XK.p ?_)
      rfl
theorem inForceR_err {k : K} {l : List Am} {day known : Int} (h : (inForceR k l day known).2 ≠ 0) : (inForceR k l day known).1 = (zeroK, []) := by
  unfold inForceR at h ⊢
  split
  · rfl
  · rename_i h1; rw [if_neg h1] at h; exact absurd rfl h
theorem inForce_ok (k : K) (hk : kW k) (l : List Am) (hl : amsOk l) (day known : Int) (hmx : (60 : Nat) ≤ 1 ∨ l.length ≤ 1 := by exact .inl (by decide)) : Does Tryz.prog 9 [kV k, amsV l, .c (.int .i64 day), .c (.int .i64 known)] (.tup [kV (inForceR k l day known).1.1, intsV (inForceR k l day known).1.2, .c (.int .i64 (inForceR k l day known).2)]) :=
  (inForce_ok0 k hk l hl day known hmx).weaken (AvS.tupS ⟨kE_is (fun h => by rw [inForceR_err h]), AvS.refl _, AvS.refl _, trivial⟩)
end
end Go.Proofs.YtlcfoelfcnhenaaGreatDoor
