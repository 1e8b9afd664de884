import Derived.Test.YtlhmgphgnedlkaaGreatZz13
import Derived.Test.YtlhmgphgnedlkaaGreatZz23
import Derived.Test.YtlhmgphgnedlkaaGreatZz19
import Derived.Test.YtlhmgphgnedlkaaGreatZz14
import Derived.Test.YtlhmgphgnedlkaaGreatZz15
import Derived.Test.YtlhmgphgnedlkaaGreatZz11
section
/- Contracts: helpers of the laws of top27w09. -/
namespace Go.Proofs.YtlhmgphgnedlkaaGreat
open Go.Eng
set_option maxRecDepth 10000
theorem names_ok (p : Pt) (i : Nat) (hc : p.clauses.length ≤ 1000000) : Does Tryz.prog 14 [ptV p, .c (.int .i64 i)] (.c (.bool (namedB p i))) := by
  refine Does.mk (fun _ => false) TT_ok Tryz.func14 rfl (by kernel_rfl) Tryz.ntmps14 rfl rfl fun E hT hE hN hR => ?_
  have hm := mixO hE
  (repeat (first | refine XK.n ?_ | refine XK.a ?_ | refine XK.b ?_))
  refine XK.loop (ι := Nat) (fun j => ST.of [(1, .c (.int .i64 i)), (2, .ptr 2 0), (5, .c (.int .i64 j))] [(2, .cells 50 (ptC p))] 1000 20 (fun _ => false))
    (fun j => j ≤ p.clauses.length ∧ namedN p i j = false) (fun j => p.clauses.length - j) 0 ⟨Nat.zero_le _, rfl⟩ (Weak.of hN rfl rfl rfl frI frI) fun j hj => ?_
  obtain ⟨hj, hn⟩ := hj
  (repeat (first | refine XK.n ?_ | refine XK.a ?_ | refine XK.b ?_)); refine XK.cond rfl (fun hlt => ?_) (fun hlt => ?_) <;> (try simp at hlt)
  · have fx : p.clauses.getD (j : Int).toNat default = p.clauses.getD j default := rfl
    have fy : p.clauses.getD j default = (i : Int) → namedB p i = true := fun h => namedN_iff.2 ⟨j, hlt, h⟩
    have fz : p.clauses.getD j default ≠ (i : Int) → namedN p i (j + 1) = false := fun h => by
      rw [namedN, hn, Bool.false_or]
      simpa using h
    (repeat (first | refine XK.n ?_ | refine XK.a ?_ | refine XK.b ?_))
    rw [fx]
    generalize p.clauses.getD j default = x at *
    (repeat (first | refine XK.n ?_ | refine XK.a ?_ | refine XK.b ?_)); refine XK.cond rfl (fun h1 => ?_) (fun h1 => ?_)
    · have h1 : x = (i : Int) := by simpa using h1
      rw [fy h1]
      (repeat (first | refine XK.n ?_ | refine XK.a ?_ | refine XK.b ?_))
      (first | refine XK.out rfl rfl rfl ?_ | refine XK.outN rfl rfl rfl ?_)
      rfl
    · have h1 : x ≠ (i : Int) := by simpa using h1
      (repeat (first | refine XK.n ?_ | refine XK.a ?_ | refine XK.b ?_))
      exact XK.inv ⟨j + 1, ⟨hlt, fz h1⟩, (Weak.of hN rfl rfl rfl frI frI), by omega⟩
  · have hje : j = p.clauses.length := by omega
    subst hje
    have hn : namedB p i = false := hn
    rw [hn]
    (repeat (first | refine XK.n ?_ | refine XK.a ?_ | refine XK.b ?_))
    (first | refine XK.out rfl rfl rfl ?_ | refine XK.outN rfl rfl rfl ?_)
    rfl
def smallW (k : K) (left right : List Pt) (l : List Int) : Bool := left.all small24B && right.all small24B && (smallQ k 12 && decide ((left.length : Int) ≤ 6) && decide ((right.length : Int) ≤ 6) && decide ((l.length : Int) ≤ 40))
theorem all_no {α : Type} [Inhabited α] {f : α → Bool} {l : List α} {i : Nat} (hi : i < l.length) (h : f (l.getD i default) = false) : l.all f = false := by
  rw [Bool.eq_false_iff]
  intro h2
  have := List.all_eq_true.1 h2 _ (getD_memW hi)
  rw [h] at this; cases this
theorem wsmall_ok (k : K) (left right : List Pt) (l : List Int) : Does Tryz.prog 6 [kV k, ptsV left, ptsV right, intsV l] (.c (.bool (smallW k left right l))) := by
  unfold smallW
  refine Does.mk (fun _ => false) TT_ok Tryz.func6 rfl (by kernel_rfl) Tryz.ntmps6 rfl rfl fun E hT hE hN hR => ?_
  have hm := mixO hE
  refine XK.fact (Sat.rs_len (j := 1) rfl) fun hlen => ?_
  refine XK.fact (Sat.rs_len (j := 2) rfl) fun hlen2 => ?_
  have hm1 := hlen.1
  have hm2 := hlen2.1
  clear hlen hlen2
  (repeat (first | refine XK.n ?_ | refine XK.a ?_ | refine XK.b ?_))
  refine XK.loop (ι := Nat) (fun j => ST.of [(1, ptsV left), (2, ptsV right), (3, intsV l), (4, .ptr 4 0), (9, .c (.int .i64 j))] [(4, .cells 27 (kC k))] 1000 52 (fun _ => false))
    (fun j => j ≤ left.length ∧ ∀ i, i < j → small24B (left.getD i default) = true) (fun j => left.length - j) 0 ⟨Nat.zero_le _, fun i hi => absurd hi (Nat.not_lt_zero _)⟩ (Weak.of hN rfl rfl rfl frI frI) fun j hj => ?_
  obtain ⟨hj, hb⟩ := hj
  (repeat (first | refine XK.n ?_ | refine XK.a ?_ | refine XK.b ?_)); refine XK.cond rfl (fun hlt => ?_) (fun hlt => ?_) <;> (try simp at hlt)
  · have fx : left.getD (j : Int).toNat default = left.getD j default := rfl
    have cs := small24_ok (left.getD j default)
    have hno := all_no (f := small24B) hlt
    have hbn : small24B (left.getD j default) = true → ∀ i, i < j + 1 → small24B (left.getD i default) = true := fun h i hi => by
      by_cases e : i = j
      · subst e; exact h
      · exact hb i (by omega)
    (repeat (first | refine XK.n ?_ | refine XK.a ?_ | refine XK.b ?_))
    (repeat (first | refine XK.n ?_ | refine XK.a ?_ | refine XK.b ?_)); refine XK.region ?_; refine XL.g ?_
    rw [fx]
    refine XL.callLA hE rfl rfl rfl rfl trivial rfl (cs) rfl ?_
    refine XL.g ?_; refine XL.fin ?_; (repeat (first | refine XK.n ?_ | refine XK.a ?_ | refine XK.b ?_))
    (repeat (first | refine XK.n ?_ | refine XK.a ?_ | refine XK.b ?_)); refine XK.cond rfl (fun h1 => ?_) (fun h1 => ?_)
    · rw [hno (by simpa using h1), Bool.false_and, Bool.false_and]
      (repeat (first | refine XK.n ?_ | refine XK.a ?_ | refine XK.b ?_))
      (first | refine XK.out rfl rfl rfl ?_ | refine XK.outN rfl rfl rfl ?_)
      rfl
    · (repeat (first | refine XK.n ?_ | refine XK.a ?_ | refine XK.b ?_))
      exact XK.inv ⟨j + 1, ⟨hlt, hbn (by simpa using h1)⟩, (Weak.of hN rfl rfl rfl frI frI), by omega⟩
  have hje : j = left.length := by omega
  subst hje
  rw [all_at.2 hb, Bool.true_and]
  clear hb hj hlt
  (repeat (first | refine XK.n ?_ | refine XK.a ?_ | refine XK.b ?_))
  refine XK.loop (ι := Nat) (fun j => ST.of [(1, ptsV left), (2, ptsV right), (3, intsV l), (4, .ptr 4 0), (10, .c (.int .i64 j))] [(4, .cells 27 (kC k))] 2000 52 (fun _ => false))
    (fun j => j ≤ right.length ∧ ∀ i, i < j → small24B (right.getD i default) = true) (fun j => right.length - j) 0 ⟨Nat.zero_le _, fun i hi => absurd hi (Nat.not_lt_zero _)⟩ (Weak.of hN rfl rfl rfl frI frI) fun j hj => ?_
  obtain ⟨hj, hb⟩ := hj
  (repeat (first | refine XK.n ?_ | refine XK.a ?_ | refine XK.b ?_)); refine XK.cond rfl (fun hlt => ?_) (fun hlt => ?_) <;> (try simp at hlt)
  · have fx : right.getD (j : Int).toNat default = right.getD j default := rfl
    have cs := small24_ok (right.getD j default)
    have hno := all_no (f := small24B) hlt
    have hbn : small24B (right.getD j default) = true → ∀ i, i < j + 1 → small24B (right.getD i default) = true := fun h i hi => by
      by_cases e : i = j
      · subst e; exact h
      · exact hb i (by omega)
    (repeat (first | refine XK.n ?_ | refine XK.a ?_ | refine XK.b ?_))
    (repeat (first | refine XK.n ?_ | refine XK.a ?_ | refine XK.b ?_)); refine XK.region ?_; refine XL.g ?_
    rw [fx]
    refine XL.callLA hE rfl rfl rfl rfl trivial rfl (cs) rfl ?_
    refine XL.g ?_; refine XL.fin ?_; (repeat (first | refine XK.n ?_ | refine XK.a ?_ | refine XK.b ?_))
    (repeat (first | refine XK.n ?_ | refine XK.a ?_ | refine XK.b ?_)); refine XK.cond rfl (fun h1 => ?_) (fun h1 => ?_)
    · rw [hno (by simpa using h1), Bool.false_and]
      (repeat (first | refine XK.n ?_ | refine XK.a ?_ | refine XK.b ?_))
      (first | refine XK.out rfl rfl rfl ?_ | refine XK.outN rfl rfl rfl ?_)
      rfl
    · (repeat (first | refine XK.n ?_ | refine XK.a ?_ | refine XK.b ?_))
      exact XK.inv ⟨j + 1, ⟨hlt, hbn (by simpa using h1)⟩, (Weak.of hN rfl rfl rfl frI frI), by omega⟩
  have hje : j = right.length := by omega
  subst hje
  rw [all_at.2 hb, Bool.true_and]
  (repeat (first | refine XK.n ?_ | refine XK.a ?_ | refine XK.b ?_))
  (repeat (first | refine XK.n ?_ | refine XK.a ?_ | refine XK.b ?_)); refine XK.region ?_; refine XL.g ?_
  refine XL.callLA hE rfl rfl rfl rfl trivial rfl (smallQ_ok k 12) rfl ?_
  refine XL.g ?_; refine XL.fin ?_; (repeat (first | refine XK.n ?_ | refine XK.a ?_ | refine XK.b ?_))
  (first | refine XK.out rfl rfl rfl ?_ | refine XK.outN rfl rfl rfl ?_)
  rfl
theorem ints18_ok (l m : List Int) (hl : l.length ≤ 1000000) : Does Tryz.prog 12 [intsV l, intsV m] (.c (.bool (listB intB l m))) := by
  refine Does.mk (fun _ => false) TT_ok Tryz.func12 rfl (by kernel_rfl) Tryz.ntmps12 rfl rfl fun E hT hE hN hR => ?_
  have hm := mixO hE
  (repeat (first | refine XK.n ?_ | refine XK.a ?_ | refine XK.b ?_)); refine XK.cond rfl (fun h1 => ?_) (fun h1 => ?_) <;> (try simp at h1)
  · (repeat (first | refine XK.n ?_ | refine XK.a ?_ | refine XK.b ?_))
    (first | refine XK.out rfl rfl rfl ?_ | refine XK.outN rfl rfl rfl ?_)
    exact cB (listB_no (.inl (by omega))).symm
  (repeat (first | refine XK.n ?_ | refine XK.a ?_ | refine XK.b ?_))
  refine XK.loop (ι := Nat) (fun i => ST.of [(0, intsV l), (1, intsV m), (5, .c (.int .i64 i))] [] 1000 26 (fun _ => false))
    (fun i => i ≤ l.length ∧ ∀ j, j < i → intB (l.getD j default) (m.getD j default) = true) (fun i => l.length - i) 0 ⟨Nat.zero_le _, fun j hj => absurd hj (Nat.not_lt_zero _)⟩ (Weak.of hN rfl rfl rfl frI frI) fun i hi => ?_
  obtain ⟨hi, hj⟩ := hi
  (repeat (first | refine XK.n ?_ | refine XK.a ?_ | refine XK.b ?_)); refine XK.cond rfl (fun hlt => ?_) (fun hlt => ?_) <;> (try simp at hlt)
  · have fx : l.getD (i : Int).toNat default = l.getD i default := rfl
    have fy : m.getD (i : Int).toNat default = m.getD i default := rfl
    (repeat (first | refine XK.n ?_ | refine XK.a ?_ | refine XK.b ?_))
    rw [fx, fy]
    (repeat (first | refine XK.n ?_ | refine XK.a ?_ | refine XK.b ?_)); refine XK.cond rfl (fun h2 => ?_) (fun h2 => ?_)
    · have h2 : l.getD i default ≠ m.getD i default := by simpa using h2
      (repeat (first | refine XK.n ?_ | refine XK.a ?_ | refine XK.b ?_))
      (first | refine XK.out rfl rfl rfl ?_ | refine XK.outN rfl rfl rfl ?_)
      exact cB (listB_no (.inr ⟨i, hlt, by simpa [intB] using h2⟩)).symm
    · have h2 : l.getD i default = m.getD i default := by simpa using h2
      (repeat (first | refine XK.n ?_ | refine XK.a ?_ | refine XK.b ?_))
      refine XK.inv ⟨i + 1, ⟨hlt, fun j hj' => ?_⟩, (Weak.of hN rfl rfl rfl frI frI), by omega⟩
      by_cases e : j = i
      · subst e; simpa [intB] using h2
      · exact hj j (by omega)
  · (repeat (first | refine XK.n ?_ | refine XK.a ?_ | refine XK.b ?_))
    (first | refine XK.out rfl rfl rfl ?_ | refine XK.outN rfl rfl rfl ?_)
    exact cB (listB_at.2 ⟨by omega, fun j hj' => hj j (by omega)⟩).symm
end Go.Proofs.YtlhmgphgnedlkaaGreat
end
section
/- The head of the laws of top27w09: it returns true. -/
namespace Go.Proofs.YtlhmgphgnedlkaaGreat
open Go.Eng
set_option maxRecDepth 10000
def dutyM (act after : Int) : Cl := ⟨1, 0, act, 1, [], after, 0, false, true, -1, -1, (0, 1), -1, -1, false⟩
theorem mduty_ok (act after : Int) (h1 : inK .i64 act) (h2 : inK .i64 after) : Does Tryz.prog 26 [.c (.int .i64 act), .c (.int .i64 after)] (.agg (clC (dutyM act after))) := by
  refine Does.weaken (res := ?x) ?_ ?_
  rotate_left
  refine Does.mk (fun _ => false) TT_ok Tryz.func26 rfl (by kernel_rfl) Tryz.ntmps26 rfl rfl fun E hT hE hN hR => ?_
  have hm := mixO hE
  (repeat (first | refine XK.n ?_ | refine XK.a ?_ | refine XK.b ?_))
  (first | refine XK.out rfl rfl rfl ?_ | refine XK.outN rfl rfl rfl ?_)
  rfl
  · refine AvS.agg ⟨AvS.refl _, AvS.refl _, AvS.refl _, AvS.refl _, AvS.nil, AvSL.refl _⟩
def mgActs : List Act := [⟨1, 0, 0, -1, -1, (0, 1)⟩, ⟨1, 0, 0, -1, -1, (0, 1)⟩, ⟨1, 1, 0, -1, -1, (0, 1)⟩]
def mgK : K := { parties := 2, holders := [0, 1], units := [], acts := mgActs, clauses := [dutyM 0 3, dutyM 1 2], days := 9, off := [] }
theorem mgK_W : kW mgK := by
  simp [kW, mgK, mgActs, dutyM, inK, actW, clW, qW]
def mgRow : AV := .rs 16 2 (rowOf (clC (dutyM 0 3) ++ clC (dutyM 1 2)) 16)
theorem mdeal_ok : Does Tryz.prog 25 [.c (.int .i64 9), mgRow] (kV mgK) := by
  refine Does.weaken (res := ?x) ?_ ?_
  rotate_left
  refine Does.mk (fun _ => false) TT_ok Tryz.func25 rfl (by kernel_rfl) Tryz.ntmps25 rfl rfl fun E hT hE hN hR => ?_
  have hm := mixO hE
  (repeat (first | refine XK.n ?_ | refine XK.a ?_ | refine XK.b ?_))
  (first | refine XK.out rfl rfl rfl ?_ | refine XK.outN rfl rfl rfl ?_)
  rfl
  · refine AvS.agg ⟨AvS.refl _, AvS.rs (fun i hi => ?_), AvS.nil, AvS.rs (fun i hi => ?_), AvS.rs (fun i hi => ?_), AvS.refl _, AvS.nil, trivial⟩
    · rcases i with _ | _ | i <;> first | exact AvSL.refl _ | omega
    · rcases i with _ | _ | _ | i <;> first | exact AvSL.refl _ | omega
    · rcases i with _ | _ | i <;> first | exact AvSL.refl _ | omega
def rwI (i : Int) : AV := .rs 1 1 (rowOf [.c (.int .i64 i)] 1)
theorem rwI_is (i : Int) : AvS (rwI i) (intsV [i]) := AvS.rs (fun j hj => by cases Nat.lt_one_iff.1 hj; exact AvSL.refl _)
def rwC (kind i days : Int) : List AV := [.c (.int .i64 kind), rwI i, .c (.int .i64 0), .c (.int .i64 0), .c (.int .i64 0), .c (.int .i64 0), .c (.slice none 0 0), .c (.int .i64 0), .c (.int .i64 0), .c (.bool false), .c (.bool false), .c (.int .i64 0), .c (.int .i64 0), .c (.int .i64 0), .c (.int .i64 0), .c (.int .i64 0), .c (.int .i64 0), .c (.bool false), .c (.int .i64 days)]
def mgP (kind i days : Int) : Pt := ⟨kind, [i], default, days⟩
theorem rwC_is (kind i days : Int) : AvSL (rwC kind i days) (ptC (mgP kind i days)) :=
  ⟨AvS.refl _, rwI_is _, AvS.refl _, AvS.refl _, AvS.refl _, AvS.refl _, AvS.nil, AvS.refl _, AvS.refl _, AvS.refl _, AvS.refl _, AvS.refl _, AvS.refl _, AvS.refl _, AvS.refl _, AvS.refl _, AvS.refl _, AvS.refl _, AvS.refl _, trivial⟩
def rwL (kind i days : Int) : AV := .rs 19 1 (rowOf (rwC kind i days) 19)
theorem rwL_is (kind i days : Int) : AvS (rwL kind i days) (ptsV [mgP kind i days]) := AvS.rs (fun j hj => by cases Nat.lt_one_iff.1 hj; exact rwC_is kind i days)
theorem mgP_ok (kind i days : Int) (h1 : inK .i64 kind) (h2 : inK .i64 i) (h3 : inK .i64 days) : ptOk (mgP kind i days) :=
  ⟨⟨h1, by simpa [mgP] using h2, zClW, h3⟩, by simp [mgP], by show ([] : List Cnd).length ≤ _; simp⟩
theorem mg_long : ptOk (mgP 5 0 5) := mgP_ok 5 0 5 (by simp [inK]) (by simp [inK]) (by simp [inK])
theorem mg_waive : ptOk (mgP 3 1 0) := mgP_ok 3 1 0 (by simp [inK]) (by simp [inK]) (by simp [inK])
def mgL : List Pt := [mgP 5 0 5, mgP 3 1 0]
theorem mg1 : mergeR mgK [mgP 5 0 5] [mgP 3 1 0] = (mgL, (0, 0), 0) := by
  have h : (mergeR mgK [mgP 5 0 5] [mgP 3 1 0]).2.2 = 0 := by decide +kernel
  unfold mergeR at h ⊢
  split
  · rename_i h1; rw [if_pos h1] at h; exact absurd h h1
  · rename_i h1
    rw [if_neg h1] at h
    split
    · rename_i h2; rw [if_pos h2] at h; exact absurd h h2
    · rename_i h2
      rw [if_neg h2] at h
      split
      · rename_i h3; rw [if_pos h3] at h; cases h
      · rename_i h3
        rw [if_neg h3] at h
        split
        · rename_i h4; rw [h4] at h; cases h
        · rfl
theorem mg2 : (appAllR mgK mgL).2 = 0 ∧ (appAllR mgK mgL).1.clauses.length = 2 ∧ ((appAllR mgK mgL).1.clauses.getD 0 default).after = 5 ∧ ((appAllR mgK mgL).1.clauses.getD 1 default).waived = true := by decide +kernel
theorem mg3 : (vrunR mgK [-1]).2 = 0 ∧ (vrunR mgK [-1]).1.length = 2 := by decide +kernel
theorem mg4 : (migrateR mgK (mgP 5 0 5) ((vrunR mgK [-1]).1.getD 1 default)).2 = 0 ∧ (migrateR mgK (mgP 5 0 5) ((vrunR mgK [-1]).1.getD 1 default)).1.marks.length = 2 ∧ ((migrateR mgK (mgP 5 0 5) ((vrunR mgK [-1]).1.getD 1 default)).1.marks.getD 0 default).left = 4 := by decide +kernel
theorem merged_ok : Does Tryz.prog 5 [] (.c (.bool true)) := by
  have c1 := (merge_ok mgK mgK_W [mgP 5 0 5] [mgP 3 1 0] (oneOk mg_long) (oneOk mg_waive)).argS (args' := [kV mgK, rwL 5 0 5, rwL 3 1 0]) ⟨AvS.refl _, rwL_is _ _ _, rwL_is _ _ _, trivial⟩
  have c2 := appAll_ok mgK mgK_W mgL (twoOk mg_long mg_waive)
  have c3 := (vrun_ok mgK mgK_W [-1]).argS (args' := [kV mgK, rwI (-1)]) ⟨AvS.refl _, rwI_is _, trivial⟩
  have c4 := (migrate_ok mgK mgK_W (mgP 5 0 5) mg_long.1 mg_long.2.1 mg_long.2.2 ((vrunR mgK [-1]).1.getD 1 default)).argS (args' := [kV mgK, .agg (rwC 5 0 5), stV ((vrunR mgK [-1]).1.getD 1 default)]) ⟨AvS.refl _, AvS.agg (rwC_is 5 0 5), AvS.refl _, trivial⟩
  have h2 := mg2
  have h3 := mg3
  have h4 := mg4
  rw [mg1] at c1
  generalize appAllR mgK mgL = A at *
  generalize vrunR mgK [-1] = V at *
  generalize migrateR mgK (mgP 5 0 5) (V.1.getD 1 default) = G at *
  obtain ⟨a, ea⟩ := A
  obtain ⟨v, ev⟩ := V
  obtain ⟨g, eg⟩ := G
  dsimp only at *
  obtain ⟨rfl, a1, a2, a3⟩ := h2
  obtain ⟨rfl, v1⟩ := h3
  obtain ⟨rfl, g1, g2⟩ := h4
  refine Does.mk (fun _ => false) TT_ok Tryz.func5 rfl (by kernel_rfl) Tryz.ntmps5 rfl rfl fun E hT hE hN hR => ?_
  have hm := mixO hE
  (repeat (first | refine XK.n ?_ | refine XK.a ?_ | refine XK.b ?_))
  (repeat (first | refine XK.n ?_ | refine XK.a ?_ | refine XK.b ?_)); refine XK.region ?_; refine XL.g ?_
  refine XL.callKA hE rfl rfl rfl rfl trivial rfl rfl (mduty_ok 0 3 (by simp [inK]) (by simp [inK])) ?_
  refine XL.g ?_
  refine XL.callKA hE rfl rfl rfl rfl trivial rfl rfl (mduty_ok 1 2 (by simp [inK]) (by simp [inK])) ?_
  refine XL.g ?_
  refine XL.callKA hE rfl rfl rfl rfl trivial rfl rfl (mdeal_ok) ?_
  refine XL.g ?_; refine XL.fin ?_; (repeat (first | refine XK.n ?_ | refine XK.a ?_ | refine XK.b ?_))
  (repeat (first | refine XK.n ?_ | refine XK.a ?_ | refine XK.b ?_))
  refine XK.weak (st' := ST.of [(1, .ptr 104 0), (2, .ptr 208 0), (3, .ptr 312 0)] [(104, .cells 27 (kC mgK)), (208, .cells 50 (rwC 5 0 5)), (312, .cells 50 (rwC 3 1 0))] 1000 103 (fun _ => false)) (Weak.of hN rfl rfl rfl frI frI) ?_
  (repeat (first | refine XK.n ?_ | refine XK.a ?_ | refine XK.b ?_)); refine XK.region ?_; refine XL.g ?_
  refine XL.callKA hE rfl rfl rfl rfl trivial rfl rfl (c1) ?_
  refine XL.g ?_; refine XL.fin ?_; (repeat (first | refine XK.n ?_ | refine XK.a ?_ | refine XK.b ?_))
  (repeat (first | refine XK.n ?_ | refine XK.a ?_ | refine XK.b ?_)); refine XK.region ?_; refine XL.g ?_
  refine XL.callKA hE rfl rfl rfl rfl trivial rfl rfl (c2) ?_
  refine XL.g ?_; refine XL.fin ?_; (repeat (first | refine XK.n ?_ | refine XK.a ?_ | refine XK.b ?_))
  (repeat (first | refine XK.n ?_ | refine XK.a ?_ | refine XK.b ?_)); refine XK.region ?_; refine XL.g ?_
  refine XL.callKA hE rfl rfl rfl rfl trivial rfl rfl (c3) ?_
  refine XL.g ?_; refine XL.fin ?_; (repeat (first | refine XK.n ?_ | refine XK.a ?_ | refine XK.b ?_))
  have hml : mgL.length = 2 := rfl
  (repeat (first | refine XK.n ?_ | refine XK.a ?_ | refine XK.b ?_))
  (repeat (first | refine XK.n ?_ | refine XK.a ?_ | refine XK.b ?_)); refine XK.cond rfl (fun h5 => ?_) (fun h5 => ?_)
  · exfalso
    simp [v1, hml] at h5
  clear h5
  have fv : v.getD (Int.toNat 1) default = v.getD 1 default := rfl
  (repeat (first | refine XK.n ?_ | refine XK.a ?_ | refine XK.b ?_))
  (repeat (first | refine XK.n ?_ | refine XK.a ?_ | refine XK.b ?_)); refine XK.drawn hm ?_; refine XD.goA hT rfl rfl rfl rfl ?_
  rw [fv]
  refine XD.callKA hE rfl rfl rfl rfl trivial rfl rfl (c4) ?_
  refine XD.goA hT rfl rfl rfl rfl ?_; refine XD.fin (by kernel_rfl) ?_; (repeat (first | refine XK.n ?_ | refine XK.a ?_ | refine XK.b ?_))
  have fa : a.clauses.getD (Int.toNat 0) default = a.clauses.getD 0 default := rfl
  have fb : a.clauses.getD (Int.toNat 1) default = a.clauses.getD 1 default := rfl
  have fg : g.marks.getD (Int.toNat 0) default = g.marks.getD 0 default := rfl
  (repeat (first | refine XK.n ?_ | refine XK.a ?_ | refine XK.b ?_))
  (first | refine XK.out rfl rfl rfl ?_ | refine XK.outN rfl rfl rfl ?_)
  rw [fa, fb, fg, a1, a2, a3, g2]
  rfl
end Go.Proofs.YtlhmgphgnedlkaaGreat
end
section
/- The law TopMergeKeeps: plain. -/
namespace Go.Proofs.YtlhmgphgnedlkaaGreat
open Go.Eng
set_option maxRecDepth 10000
theorem merge_law {k : K} {left right : List Pt} (hl : ptsOk left) (hr : ptsOk right) (h : (mergeR k left right).2.2 = 0) :
    (kValid k).1 = 0 ∧ (mergeR k left right).1.length ≤ 60 ∧ ptsOk (mergeR k left right).1 ∧ (allTo k (mergeR k left right).1 (mergeR k left right).1.length).2 = 0 := by
  by_cases h1 : (appAllR k left).2 = 0
  · by_cases h2 : (appAllR k right).2 = 0
    · obtain ⟨hv, l60, oka, -⟩ := appAll_zero2 h1
      obtain ⟨-, r60, okb, -⟩ := appAll_zero2 h2
      have n1 : ¬ (appAllR k left).2 ≠ 0 := by simpa using h1
      have n2 : ¬ (appAllR k right).2 ≠ 0 := by simpa using h2
      unfold mergeR at h ⊢
      rw [if_neg n1, if_neg n2] at h ⊢
      by_cases h3 : 60 < left.length + right.length ∨ 400 < k.clauses.length + addsN left left.length + addsN right right.length
      · rw [if_pos h3] at h; cases h
      · rw [if_neg h3] at h ⊢
        cases hc : confR k left right with
        | some x => rw [hc] at h; cases h
        | none =>
          dsimp only
          have hP := merge_PV hv oka okb (by omega)
          refine ⟨hv, by rw [mergL_len]; omega, fun p hp => ?_, (allTo_ok hv (Nat.le_refl _) hP).ok⟩
          have hps : ∀ {l : List Pt}, (allTo k l l.length).2 = 0 → ∀ q ∈ l, ptS q := fun {l} h q hq => by
            obtain ⟨i, hi, rfl⟩ := List.mem_iff_getElem.1 hq
            obtain ⟨_, hp⟩ := allTo_all hv (Nat.le_refl _) h
            have := hp i hi
            rw [show l.getD i default = l[i] by simp [List.getD, hi]] at this
            obtain ⟨⟨b1, b2, b3, b4⟩, _⟩ := allTo_all hv (show i ≤ l.length by omega) (allTo_before h (by omega))
            have hle : (allTo k l i).1.clauses.length ≤ 400 := ((kValid_iff _).1 b2).2.2.1
            exact PV_small (by omega) this
          have e1 := addsN_le left left.length
          rcases List.mem_append.1 hp with hp | hp
          · obtain ⟨q, hq, rfl⟩ := List.mem_map.1 hp
            exact renOk (hl q hq) (hps oka q hq) ⟨by omega, by omega⟩
          · obtain ⟨q, hq, rfl⟩ := List.mem_map.1 hp
            exact renOk (hr q hq) (hps okb q hq) ⟨by omega, by omega⟩
    · exfalso
      have n1 : ¬ (appAllR k left).2 ≠ 0 := by simpa using h1
      unfold mergeR at h
      rw [if_neg n1, if_pos h2] at h
      exact h2 h
  · exfalso
    unfold mergeR at h
    rw [if_pos h1] at h
    exact h1 h
theorem migrateR_of {k : K} {p : Pt} {s : St} (hv : validS k s = true) (ha : (applyR k p).2 = 0) : migrateR k p s = (migS k p s, 0) := by
  unfold migrateR
  rw [if_pos hv]
  unfold migR
  rw [if_neg (by simpa using ha)]
theorem runE_valid {k : K} (hk : kW k) (hv : (kValid k).1 = 0) {l : List Int} {i : Nat} (h : (runE k l i).2 = 0) : validS k (runE k l i).1 = true := by
  have hs := stg_none k l i
  have := stgTo_gd (k := k) ⟨hk, hv⟩ (l := []) (fun a ha => by cases ha) (tr := l) (i := i) (by rw [hs]; exact h)
  rw [hs] at this
  exact this.2
theorem vrun_last {k : K} (hk : kW k) {l : List Int} (h : (vrunR k l).2 = 0) : (vrunR k l).1.length = l.length + 1 ∧ validS k ((vrunR k l).1.getD l.length default) = true := by
  unfold vrunR at h ⊢
  by_cases h1 : (startS k).2 = 0
  · have n1 : ¬ (startS k).2 ≠ 0 := by simpa using h1
    rw [if_neg n1] at h ⊢
    by_cases h2 : 4000 < l.length
    · rw [if_pos h2] at h; cases h
    · rw [if_neg h2] at h ⊢
      by_cases h3 : (runE k l l.length).2 = 0
      · have n3 : ¬ (runE k l l.length).2 ≠ 0 := by simpa using h3
        rw [if_neg n3]
        refine ⟨by simp [runL], ?_⟩
        show validS k ((runL k l l.length).getD l.length default) = true
        unfold runL
        rw [map_getD _ (by omega)]
        exact runE_valid hk (startS_zero hk h1).1 h3
      · rw [if_pos h3] at h; exact absurd h h3
  · rw [if_pos h1] at h; exact absurd h h1
structure StepF (k : K) (M : List Pt) (s0 : St) (i : Nat) : Prop where
  ap : applyR (allTo k M i).1 (M.getD i default) = ((allTo k M (i + 1)).1, 0)
  mg : migrateR (allTo k M i).1 (M.getD i default) (stMig k M s0 i) = (stMig k M s0 (i + 1), 0)
  va : validS (allTo k M (i + 1)).1 (stMig k M s0 (i + 1)) = true
  eq : stMig k M s0 (i + 1) = ⟨(stMig k M s0 i).day, (stMig k M s0 i).holders, (stMig k M s0 i).used, (stMig k M s0 (i + 1)).marks⟩
  len : (stMig k M s0 i).marks.length ≤ (stMig k M s0 (i + 1)).marks.length ∧ (stMig k M s0 i).marks.length ≤ 400
  lh : (stMig k M s0 i).holders.length ≤ 12
  lu : (stMig k M s0 i).used.length ≤ 60
  mrk : ∀ q, q < (stMig k M s0 i).marks.length → (endedM ((stMig k M s0 i).marks.getD q default) = true → (stMig k M s0 (i + 1)).marks.getD q default = (stMig k M s0 i).marks.getD q default) ∧
    (((stMig k M s0 (i + 1)).marks.getD q default).status = 4 → ((stMig k M s0 i).marks.getD q default).status = 4) ∧
    (runsM ((stMig k M s0 i).marks.getD q default) = true → ¬ ((M.getD i default).kind = 2 ∧ namedB (M.getD i default) q = true) → ((stMig k M s0 (i + 1)).marks.getD q default).got = ((stMig k M s0 i).marks.getD q default).got ∧ ((stMig k M s0 (i + 1)).marks.getD q default).bearer = ((stMig k M s0 i).marks.getD q default).bearer ∧
      (runsM ((stMig k M s0 (i + 1)).marks.getD q default) = true → ((stMig k M s0 (i + 1)).marks.getD q default).paused = ((stMig k M s0 i).marks.getD q default).paused) ∧ (runsM ((stMig k M s0 (i + 1)).marks.getD q default) = false → namedB (M.getD i default) q = true))
theorem step_law {k : K} (hk : kW k) (hv : (kValid k).1 = 0) {M : List Pt} (hM : ptsOk M) (ho : (allTo k M M.length).2 = 0) {s0 : St} (hs : validS k s0 = true) {i : Nat} (hi : i < M.length) : StepF k M s0 i := by
  have hW := fun p hp => (hM p hp).1
  have h0 := allTo_before ho (show i ≤ M.length by omega)
  have h1 := allTo_before ho (show i + 1 ≤ M.length by omega)
  have hst := allTo_step h0
  have v0 := stMig_valid hk hW hs ho (show i ≤ M.length by omega)
  have v1 := stMig_valid hk hW hs ho (show i + 1 ≤ M.length by omega)
  have w0 := allTo_W hk hW (show i ≤ M.length by omega)
  have ha : (applyR (allTo k M i).1 (M.getD i default)).2 = 0 := by rw [← hst]; exact h1
  have hF := patch_facts w0 (hW _ (getD_memW hi)) ha
  obtain ⟨l0, l1, l2, l3, -⟩ := validS_len v0
  obtain ⟨m0, m1, m2, m3, -⟩ := validS_len v1
  have hlen := hF.len
  rw [← hst] at hlen
  have hc := hF.kk.nc
  have hnh := hF.kk.nh
  have hna := hF.kk.na
  refine ⟨?_, ?_, v1, rfl, ⟨?_, by omega⟩, by omega, by omega, fun q hq => ?_⟩
  · rw [← hst]; exact Prod.ext rfl h1
  · rw [migrateR_of v0 ha]; rfl
  · split at hlen <;> omega
  · exact keep_mark hF v0 (by omega)
end Go.Proofs.YtlhmgphgnedlkaaGreat
end
section
/- Contracts: package trace, check. -/
namespace Go.Proofs.YtlhmgphgnedlkaaGreat
open Go.Eng
set_option maxRecDepth 10000
def daysTo (l : List Int) : Nat → Int
  | 0 => 0
  | i + 1 => if l.getD i default = -1 then daysTo l i + 1 else daysTo l i
def stepErr (k : K) (l : List Int) : Nat → Int
  | 0 => 0
  | i + 1 => if stepErr k l i ≠ 0 then stepErr k l i
    else if (decide (l.getD i default < -1) || decide ((k.acts.length : Int) ≤ l.getD i default)) = true then 1
    else if daysTo l i = k.days then 13 else 0
noncomputable def checkR (k : K) (l : List Int) : Int :=
  if (kValid k).1 ≠ 0 then 1 else if (4000 : Int) < l.length then 3 else stepErr k l l.length
theorem stepErr_low {k : K} {l : List Int} {i : Nat} (h : stepErr k l i ≠ 0) : ∀ m, i ≤ m → stepErr k l m = stepErr k l i := by
  intro m hm
  induction m with
  | zero => have : i = 0 := by omega
            rw [this]
  | succ m ih =>
    by_cases h1 : i = m + 1
    · rw [h1]
    · have h2 := ih (by omega)
      simp only [stepErr]
      rw [if_pos (by rw [h2]; exact h), h2]
theorem daysTo_le (l : List Int) : ∀ i, 0 ≤ daysTo l i ∧ daysTo l i ≤ i
  | 0 => by simp [daysTo]
  | i + 1 => by
    have := daysTo_le l i
    simp only [daysTo]
    split <;> omega
theorem check_ok (k : K) (hk : kW k) (l : List Int) : Does Tryz.prog 132 [kV k, intsV l] (.c (.int .i64 (checkR k l))) := by
  refine Does.mk (fun _ => false) TT_ok Tryz.func132 rfl (by kernel_rfl) Tryz.ntmps132 rfl rfl fun E hT hE hN hR => ?_
  have hm := mixO hE
  refine XK.fact (Sat.rs_len (j := 1) rfl) fun hlen => ?_
  have hm' := hlen.1
  (repeat (first | refine XK.n ?_ | refine XK.a ?_ | refine XK.b ?_)); refine XK.region ?_; refine XL.g ?_
  refine XL.callLA hE rfl rfl rfl rfl trivial rfl (kValid_ok k hk) rfl ?_
  refine XL.g ?_; refine XL.fin ?_; (repeat (first | refine XK.n ?_ | refine XK.a ?_ | refine XK.b ?_))
  (repeat (first | refine XK.n ?_ | refine XK.a ?_ | refine XK.b ?_)); refine XK.cond rfl (fun h1 => ?_) (fun h1 => ?_) <;> (try simp at h1)
  · (repeat (first | refine XK.n ?_ | refine XK.a ?_ | refine XK.b ?_))
    (first | refine XK.out rfl rfl rfl ?_ | refine XK.outN rfl rfl rfl ?_)
    simp only [checkR, ne_eq, h1, not_false_eq_true, if_true]
  · (repeat (first | refine XK.n ?_ | refine XK.a ?_ | refine XK.b ?_)); refine XK.cond rfl (fun h2 => ?_) (fun h2 => ?_) <;> (try simp at h2)
    · (repeat (first | refine XK.n ?_ | refine XK.a ?_ | refine XK.b ?_))
      (first | refine XK.out rfl rfl rfl ?_ | refine XK.outN rfl rfl rfl ?_)
      rw [checkR, if_neg (by simpa using h1), if_pos (by omega)]
    · rw [checkR, if_neg (by simpa using h1), if_neg (by omega)]
      (repeat (first | refine XK.n ?_ | refine XK.a ?_ | refine XK.b ?_))
      refine XK.loop (ι := Nat) (fun i => ST.of [(2, .ptr 2 0), (4, .c (.int .i64 0)), (7, .c (.int .i64 (daysTo l i))), (20, intsV l), (21, .c (.int .i64 l.length)), (22, .c (.int .i64 i))] [(2, .cells 27 (kC k))] 1000 44 (fun _ => false))
        (fun i => i ≤ l.length ∧ stepErr k l i = 0) (fun i => l.length - i) 0 ⟨Nat.zero_le _, rfl⟩
        (Weak.of hN rfl rfl rfl ⟨rfl, rfl, rfl, AvIs.refl _, rfl, rfl⟩ ⟨rfl, rfl⟩) fun i hi => ?_
      obtain ⟨hi1, hi2⟩ := hi
      have hd := daysTo_le l i
      (repeat (first | refine XK.n ?_ | refine XK.a ?_ | refine XK.b ?_)); refine XK.cond rfl (fun hlt => ?_) (fun hlt => ?_) <;> (try simp at hlt)
      · have hs : stepErr k l (i + 1) = if (decide (l.getD i default < -1) || decide ((k.acts.length : Int) ≤ l.getD i default)) = true then 1 else if daysTo l i = k.days then 13 else 0 := by
          simp only [stepErr, hi2, ne_eq, not_true_eq_false, if_false]
        (repeat (first | refine XK.n ?_ | refine XK.a ?_ | refine XK.b ?_)); refine XK.cond rfl (fun h3 => ?_) (fun h3 => ?_)
        · rw [Int.toNat_natCast] at h3
          (repeat (first | refine XK.n ?_ | refine XK.a ?_ | refine XK.b ?_))
          (first | refine XK.out rfl rfl rfl ?_ | refine XK.outN rfl rfl rfl ?_)
          rw [if_pos h3] at hs
          rw [stepErr_low (i := i + 1) (by rw [hs]; decide) l.length (by omega), hs]
        · rw [Int.toNat_natCast] at h3
          rw [if_neg (by rw [h3]; simp)] at hs
          (repeat (first | refine XK.n ?_ | refine XK.a ?_ | refine XK.b ?_)); refine XK.cond rfl (fun h4 => ?_) (fun h4 => ?_) <;> (try simp at h4)
          · (repeat (first | refine XK.n ?_ | refine XK.a ?_ | refine XK.b ?_))
            (first | refine XK.out rfl rfl rfl ?_ | refine XK.outN rfl rfl rfl ?_)
            rw [if_pos h4] at hs
            rw [stepErr_low (i := i + 1) (by rw [hs]; decide) l.length (by omega), hs]
          · rw [if_neg h4] at hs
            (repeat (first | refine XK.n ?_ | refine XK.a ?_ | refine XK.b ?_)); refine XK.cond rfl (fun h5 => ?_) (fun h5 => ?_) <;> (try simp at h5)
            · (repeat (first | refine XK.n ?_ | refine XK.a ?_ | refine XK.b ?_))
              refine XK.inv ⟨i + 1, ⟨hlt, hs⟩, Weak.of hN rfl rfl rfl ⟨rfl, rfl, cI ?_, AvIs.refl _, rfl, rfl⟩ ⟨rfl, rfl⟩, by omega⟩
              simp only [daysTo]
              rw [if_pos (by simpa using h5)]
            · (repeat (first | refine XK.n ?_ | refine XK.a ?_ | refine XK.b ?_))
              refine XK.inv ⟨i + 1, ⟨hlt, hs⟩, Weak.of hN rfl rfl rfl ⟨rfl, rfl, cI ?_, AvIs.refl _, rfl, rfl⟩ ⟨rfl, rfl⟩, by omega⟩
              simp only [daysTo]
              rw [if_neg (by simpa using h5)]
      · (repeat (first | refine XK.n ?_ | refine XK.a ?_ | refine XK.b ?_))
        (first | refine XK.out rfl rfl rfl ?_ | refine XK.outN rfl rfl rfl ?_)
        have : i = l.length := by omega
        rw [← this, hi2]
end Go.Proofs.YtlhmgphgnedlkaaGreat
end
section
/- Contracts: estoppelref14.Same, Small. -/
namespace Go.Proofs.YtlhmgphgnedlkaaGreat
open Go.Eng
set_option maxRecDepth 10000
structure Oc where
  status : Int
  from_ : Int
  to : Int
  got : Int
  bearer : Int
instance : Inhabited Oc := ⟨⟨0, 0, 0, 0, 0⟩⟩
end Go.Proofs.YtlhmgphgnedlkaaGreat
end
section
/- Contracts: package trace: the reading of a trace as a Lean value; ready, runs, end. -/
namespace Go.Proofs.YtlhmgphgnedlkaaGreat
open Go.Eng
set_option maxRecDepth 10000
structure Rd where
  steps : Int
  day : Int
  hold : Nat → Int
  hap : Nat → Bool
  dom : Value → Bool
  wait : Int → List Int
  cnt : Nat → Int × Bool
  out : Nat → Oc
def freeV (k : K) : AV := .fn (.func 151) [] [.rptr (kC k)]
def rdO (k : K) (r : Rd) : Ob := .cells 206 [.c (.int .i64 k.parties), intsV k.holders, unitsV k.units, actsV k.acts, clsV k.clauses, .c (.int .i64 k.days), intsV k.off,
  .c (.int .i64 r.steps), .c (.int .i64 r.day), .vec 1 0, .vec 2 0, freeV k, .mp 3, .vec 4 0, .vec 5 0]
def holdO (k : K) (r : Rd) : Ob := .vec 3 1 0 k.holders.length (fun i => [.c (.int .i64 (r.hold i))])
def hapO (k : K) (r : Rd) : Ob := .vec 4 1 0 k.acts.length (fun i => [.c (.bool (r.hap i))])
def waitF (g : Int → List Int) : Value → AV
  | .int _ z => .rs 1 (g z).length (fun i => [.c (.int .i64 ((g z).getD i default))])
  | _ => .junk
def waitO (r : Rd) : Ob := .mapb (.int .i64) (.slice none 0 0) r.dom (waitF r.wait)
def cntO (k : K) (r : Rd) : Ob := .vec 234 2 0 k.clauses.length (fun i => [.c (.int .i64 (r.cnt i).1), .c (.bool (r.cnt i).2)])
def outO (k : K) (r : Rd) : Ob := .vec 223 5 0 k.clauses.length (fun i => [.c (.int .i64 (r.out i).status), .c (.int .i64 (r.out i).from_), .c (.int .i64 (r.out i).to), .c (.int .i64 (r.out i).got), .c (.int .i64 (r.out i).bearer)])
def rdOs (k : K) (r : Rd) : List Ob := [rdO k r, holdO k r, hapO k r, waitO r, cntO k r, outO k r]
def rdN (k : K) (r : Rd) : List (Nat × Ob) := [(0, rdO k r), (1, holdO k r), (2, hapO k r), (3, waitO r), (4, cntO k r), (5, outO k r)]
def holdsAt (st is : Int) : Bool := if is = 1 then st != 0 else if is = 2 then st == 3 else if is = 3 then st == 4 else if is = 4 then st == 5 else false
def readyB (k : K) (out : Nat → Oc) (i : Nat) : Bool := (clAt k i).start.all (fun s => holdsAt (out s.clause.toNat).status s.is)
theorem ready_ok (k : K) (hk : KFacts k) (r : Rd) (i : Nat) (hi : i < k.clauses.length) : DoesM Tryz.prog 162 [.ptr 0 0, .c (.int .i64 i)] (rdOs k r) (.c (.bool (readyB k r.out i))) (rdOs k r) := by
  refine DoesM.mk (fun _ => false) 100 TT_ok Tryz.func162 rfl (by kernel_rfl) Tryz.ntmps162 rfl rfl rfl fun E hT hE hN hR => ?_
  have hm := mixO hE
  have hx := hk.clW' hi
  have hc := fun j (hj : j < (clAt k i).start.length) => hk.cond hi (s := (clAt k i).start.getD j default) (by simp only [List.getD_eq_getElem?_getD, List.getElem?_eq_getElem hj, Option.getD_some]; exact List.getElem_mem hj)
  (repeat (first | refine XK.n ?_ | refine XK.a ?_ | refine XK.b ?_))
  refine XK.fact (Sat.rs_len (j := 17) rfl) fun hlen => ?_
  have hm' : (clAt k i).start.length ≤ 9223372036854775807 := hlen.1
  refine XK.loop (ι := Nat) (fun j => ST.of [(0, .ptr 0 0), (1, .c (.int .i64 i)), (4, .c (.bool false)), (17, cndsV (clAt k i).start), (18, .c (.int .i64 (clAt k i).start.length)), (19, .c (.int .i64 j))] (rdN k r) 1000 53 (fun _ => false))
    (fun j => j ≤ (clAt k i).start.length ∧ ∀ q, q < j → (fun s : Cnd => holdsAt (r.out s.clause.toNat).status s.is) ((clAt k i).start.getD q default) = true) (fun j => (clAt k i).start.length - j) 0 ⟨Nat.zero_le _, fun j hj => absurd hj (Nat.not_lt_zero _)⟩
    (Weak.of hN rfl rfl rfl frI frI) fun j hj => ?_
  obtain ⟨hj1, hj2⟩ := hj
  (repeat (first | refine XK.n ?_ | refine XK.a ?_ | refine XK.b ?_)); refine XK.cond rfl (fun hlt => ?_) (fun hlt => ?_) <;> (try simp at hlt)
  · have hcj := hc j hlt
    have fin : ∀ b : Bool, b = holdsAt (r.out ((clAt k i).start.getD j default).clause.toNat).status ((clAt k i).start.getD j default).is → ((b = false → readyB k r.out i = false) ∧ (b = true → ∀ q, q < j + 1 → (fun s : Cnd => holdsAt (r.out s.clause.toNat).status s.is) ((clAt k i).start.getD q default) = true)) := by
      intro b hb
      refine ⟨fun h => all_not hlt (by show holdsAt _ _ = false; rw [← hb, h]), fun h q hq => ?_⟩
      by_cases hqj : q = j
      · subst hqj; show holdsAt _ _ = true; rw [← hb, h]
      · exact hj2 q (by omega)
    have fix : ((clAt k i).start.getD (j : Int).toNat default) = (clAt k i).start.getD j default := rfl
    generalize hs : (clAt k i).start.getD j default = s at hcj fin fix
    (repeat (first | refine XK.n ?_ | refine XK.a ?_ | refine XK.b ?_))
    rw [fix]
    (repeat (first | refine XK.n ?_ | refine XK.a ?_ | refine XK.b ?_)); refine XK.cond rfl (fun h1 => ?_) (fun h1 => ?_) <;> (try simp at h1)
    · (repeat (first | refine XK.n ?_ | refine XK.a ?_ | refine XK.b ?_)); refine XK.cond rfl (fun h5 => ?_) (fun h5 => ?_) <;> (try simp at h5)
      · (repeat (first | refine XK.n ?_ | refine XK.a ?_ | refine XK.b ?_))
        (first | refine XK.outR [0, 1, 2, 3, 4, 5] hN rfl rfl rfl ?_ rfl rfl ?_ | refine XK.outRN [0, 1, 2, 3, 4, 5] hN rfl rfl rfl ?_ rfl rfl ?_)
        · (repeat' (first | exact rfl | exact AvIs.refl _ | exact trivial | exact fun _ _ => rfl | exact fun _ _ => ⟨rfl, AvIs.refl _⟩ | refine ⟨?_, ?_⟩))
        · rw [(fin false (by simp [holdsAt, h1, h5])).1 rfl]; rfl
      · (repeat (first | refine XK.n ?_ | refine XK.a ?_ | refine XK.b ?_))
        refine XK.inv ⟨j + 1, ⟨hlt, (fin true (by simp [holdsAt, h1, h5])).2 rfl⟩, (Weak.of hN rfl rfl rfl frI frI), by omega⟩
    · (repeat (first | refine XK.n ?_ | refine XK.a ?_ | refine XK.b ?_)); refine XK.cond rfl (fun h2 => ?_) (fun h2 => ?_) <;> (try simp at h2)
      · (repeat (first | refine XK.n ?_ | refine XK.a ?_ | refine XK.b ?_)); refine XK.cond rfl (fun h5 => ?_) (fun h5 => ?_) <;> (try simp at h5)
        · (repeat (first | refine XK.n ?_ | refine XK.a ?_ | refine XK.b ?_))
          (first | refine XK.outR [0, 1, 2, 3, 4, 5] hN rfl rfl rfl ?_ rfl rfl ?_ | refine XK.outRN [0, 1, 2, 3, 4, 5] hN rfl rfl rfl ?_ rfl rfl ?_)
          · (repeat' (first | exact rfl | exact AvIs.refl _ | exact trivial | exact fun _ _ => rfl | exact fun _ _ => ⟨rfl, AvIs.refl _⟩ | refine ⟨?_, ?_⟩))
          · rw [(fin false (by simp [holdsAt, h2, h5])).1 rfl]; rfl
        · (repeat (first | refine XK.n ?_ | refine XK.a ?_ | refine XK.b ?_))
          refine XK.inv ⟨j + 1, ⟨hlt, (fin true (by simp [holdsAt, h2, h5])).2 rfl⟩, (Weak.of hN rfl rfl rfl frI frI), by omega⟩
      · (repeat (first | refine XK.n ?_ | refine XK.a ?_ | refine XK.b ?_)); refine XK.cond rfl (fun h3 => ?_) (fun h3 => ?_) <;> (try simp at h3)
        · (repeat (first | refine XK.n ?_ | refine XK.a ?_ | refine XK.b ?_)); refine XK.cond rfl (fun h5 => ?_) (fun h5 => ?_) <;> (try simp at h5)
          · (repeat (first | refine XK.n ?_ | refine XK.a ?_ | refine XK.b ?_))
            (first | refine XK.outR [0, 1, 2, 3, 4, 5] hN rfl rfl rfl ?_ rfl rfl ?_ | refine XK.outRN [0, 1, 2, 3, 4, 5] hN rfl rfl rfl ?_ rfl rfl ?_)
            · (repeat' (first | exact rfl | exact AvIs.refl _ | exact trivial | exact fun _ _ => rfl | exact fun _ _ => ⟨rfl, AvIs.refl _⟩ | refine ⟨?_, ?_⟩))
            · rw [(fin false (by simp [holdsAt, h3, h5])).1 rfl]; rfl
          · (repeat (first | refine XK.n ?_ | refine XK.a ?_ | refine XK.b ?_))
            refine XK.inv ⟨j + 1, ⟨hlt, (fin true (by simp [holdsAt, h3, h5])).2 rfl⟩, (Weak.of hN rfl rfl rfl frI frI), by omega⟩
        · (repeat (first | refine XK.n ?_ | refine XK.a ?_ | refine XK.b ?_)); refine XK.cond rfl (fun h4 => ?_) (fun h4 => ?_) <;> (try simp at h4)
          · (repeat (first | refine XK.n ?_ | refine XK.a ?_ | refine XK.b ?_)); refine XK.cond rfl (fun h5 => ?_) (fun h5 => ?_) <;> (try simp at h5)
            · (repeat (first | refine XK.n ?_ | refine XK.a ?_ | refine XK.b ?_))
              (first | refine XK.outR [0, 1, 2, 3, 4, 5] hN rfl rfl rfl ?_ rfl rfl ?_ | refine XK.outRN [0, 1, 2, 3, 4, 5] hN rfl rfl rfl ?_ rfl rfl ?_)
              · (repeat' (first | exact rfl | exact AvIs.refl _ | exact trivial | exact fun _ _ => rfl | exact fun _ _ => ⟨rfl, AvIs.refl _⟩ | refine ⟨?_, ?_⟩))
              · rw [(fin false (by simp [holdsAt, h4, h5])).1 rfl]; rfl
            · (repeat (first | refine XK.n ?_ | refine XK.a ?_ | refine XK.b ?_))
              refine XK.inv ⟨j + 1, ⟨hlt, (fin true (by simp [holdsAt, h4, h5])).2 rfl⟩, (Weak.of hN rfl rfl rfl frI frI), by omega⟩
          · omega
  · (repeat (first | refine XK.n ?_ | refine XK.a ?_ | refine XK.b ?_))
    (first | refine XK.outR [0, 1, 2, 3, 4, 5] hN rfl rfl rfl ?_ rfl rfl ?_ | refine XK.outRN [0, 1, 2, 3, 4, 5] hN rfl rfl rfl ?_ rfl rfl ?_)
    · (repeat' (first | exact rfl | exact AvIs.refl _ | exact trivial | exact fun _ _ => rfl | exact fun _ _ => ⟨rfl, AvIs.refl _⟩ | refine ⟨?_, ?_⟩))
    · have : readyB k r.out i = true := all_at.2 fun q hq => hj2 q (by omega)
      rw [this]; rfl
theorem runs_ok (k : K) (r : Rd) (i : Nat) (hi : i < k.clauses.length) : DoesM Tryz.prog 163 [.ptr 0 0, .c (.int .i64 i)] (rdOs k r) (.c (.bool (decide (0 ≤ (r.out i).from_) && decide ((r.out i).to < 0)))) (rdOs k r) := by
  refine DoesM.mk (fun _ => false) 100 TT_ok Tryz.func163 rfl (by kernel_rfl) Tryz.ntmps163 rfl rfl rfl fun E hT hE hN hR => ?_
  have hm := mixO hE
  (repeat (first | refine XK.n ?_ | refine XK.a ?_ | refine XK.b ?_))
  (first | refine XK.outR [0, 1, 2, 3, 4, 5] hN rfl rfl rfl ?_ rfl rfl ?_ | refine XK.outRN [0, 1, 2, 3, 4, 5] hN rfl rfl rfl ?_ rfl rfl ?_)
  · exact ⟨⟨rfl, rfl⟩, ⟨⟨rfl, rfl, rfl⟩, rfl, fun _ _ => rfl⟩, ⟨⟨rfl, rfl, rfl⟩, rfl, fun _ _ => rfl⟩, ⟨rfl, rfl, fun _ _ => ⟨rfl, AvIs.refl _⟩⟩, ⟨⟨rfl, rfl, rfl⟩, rfl, fun _ _ => rfl⟩, ⟨⟨rfl, rfl, rfl⟩, rfl, fun _ _ => rfl⟩⟩
  · exact AvIs.refl _
end Go.Proofs.YtlhmgphgnedlkaaGreat
end
section
/- Contracts: package trace: end, counted. -/
namespace Go.Proofs.YtlhmgphgnedlkaaGreat
open Go.Eng
set_option maxRecDepth 10000
def Rd.upOut (r : Rd) (i : Nat) (o : Oc) : Rd := { r with out := fun j => if j = i then o else r.out j }
def Rd.upCnt (r : Rd) (i : Nat) (c : Int × Bool) : Rd := { r with cnt := fun j => if j = i then c else r.cnt j }
theorem end_ok (k : K) (r : Rd) (i : Nat) (s : Int) (hi : i < k.clauses.length) : DoesM Tryz.prog 165 [.ptr 0 0, .c (.int .i64 i), .c (.int .i64 s)] (rdOs k r) (.tup []) (rdOs k (r.upOut i { r.out i with status := s, to := r.steps })) := by
  refine DoesM.mk (fun _ => false) 100 TT_ok Tryz.func165 rfl (by kernel_rfl) Tryz.ntmps165 rfl rfl rfl fun E hT hE hN hR => ?_
  have hm := mixO hE
  (repeat (first | refine XK.n ?_ | refine XK.a ?_ | refine XK.b ?_))
  (first | refine XK.outR [0, 1, 2, 3, 4, 5] hN rfl rfl rfl ?_ rfl rfl ?_ | refine XK.outRN [0, 1, 2, 3, 4, 5] hN rfl rfl rfl ?_ rfl rfl ?_)
  · refine ⟨?_, ?_, ?_, ?_, ?_, ⟨rfl, rfl, rfl⟩, rfl, (by intro j hj; by_cases hji : j = (i); (· subst hji; simp [setRowF, setL, Rd.upOut, Rd.upCnt]); (· simp [setRowF, beq_false hji, Rd.upOut, Rd.upCnt, hji]))⟩
    all_goals (repeat' (first | exact rfl | exact AvIs.refl _ | exact trivial | exact fun _ _ => rfl | exact fun _ _ => ⟨rfl, AvIs.refl _⟩ | refine ⟨?_, ?_⟩))
  · exact AvIs.refl _
def countOne (x : Cl) (steps doer : Int) (paused : Bool) (o : Oc) : Oc × Bool :=
  if x.kind ≠ 4 ∧ o.bearer ≠ doer then (o, false)
  else if x.kind = 1 then (if o.got + 1 < x.need then ({ o with got := o.got + 1 }, false) else ({ o with got := o.got + 1, status := 3, to := steps }, true))
  else if x.kind = 2 then (if paused = true then (o, false) else ({ o with status := 4, to := steps }, true))
  else ({ o with status := 3, to := steps }, true)
theorem counted_ok (k : K) (hk : KFacts k) (r : Rd) (i : Nat) (doer : Int) (hi : i < k.clauses.length) (hg : 0 ≤ (r.out i).got ∧ (r.out i).got ≤ 1000000) :
    DoesM Tryz.prog 164 [.ptr 0 0, .c (.int .i64 i), .c (.int .i64 doer)] (rdOs k r) (.c (.bool (countOne (clAt k i) r.steps doer (r.cnt i).2 (r.out i)).2)) (rdOs k (r.upOut i (countOne (clAt k i) r.steps doer (r.cnt i).2 (r.out i)).1)) := by
  refine DoesM.mk (fun _ => false) 100 TT_ok Tryz.func164 rfl (by kernel_rfl) Tryz.ntmps164 rfl rfl rfl fun E hT hE hN hR => ?_
  have hm := mixO hE
  have fix : k.clauses.getD (i : Int).toNat default = clAt k i := rfl
  have fix2 : r.out (i : Int).toNat = r.out i := rfl
  have fix3 : r.cnt (i : Int).toNat = r.cnt i := rfl
  (repeat (first | refine XK.n ?_ | refine XK.a ?_ | refine XK.b ?_)); refine XK.cond rfl (fun h1 => ?_) (fun h1 => ?_)
  · rw [fix, fix2] at h1
    have hc : countOne (clAt k i) r.steps doer (r.cnt i).2 (r.out i) = (r.out i, false) := by
      simp only [Bool.and_eq_true, bne_iff_ne, ne_eq] at h1
      simp [countOne, h1]
    rw [hc]
    (repeat (first | refine XK.n ?_ | refine XK.a ?_ | refine XK.b ?_))
    (first | refine XK.outR [0, 1, 2, 3, 4, 5] hN rfl rfl rfl ?_ rfl rfl ?_ | refine XK.outRN [0, 1, 2, 3, 4, 5] hN rfl rfl rfl ?_ rfl rfl ?_)
    · refine ⟨?_, ?_, ?_, ?_, ?_, ⟨rfl, rfl, rfl⟩, rfl, (by intro j hj; by_cases hji : j = (i); (· subst hji; simp [setRowF, setL, Rd.upOut, Rd.upCnt]); (· simp [setRowF, beq_false hji, Rd.upOut, Rd.upCnt, hji]))⟩
      all_goals (repeat' (first | exact rfl | exact AvIs.refl _ | exact trivial | exact fun _ _ => rfl | exact fun _ _ => ⟨rfl, AvIs.refl _⟩ | refine ⟨?_, ?_⟩))
    · exact AvIs.refl _
  · rw [fix, fix2] at h1
    have h1' : ¬ ((clAt k i).kind ≠ 4 ∧ (r.out i).bearer ≠ doer) := by
      intro h
      simp [h.1, h.2] at h1
    (repeat (first | refine XK.n ?_ | refine XK.a ?_ | refine XK.b ?_)); refine XK.cond rfl (fun h2 => ?_) (fun h2 => ?_)
    · rw [fix] at h2
      have hk1 : (clAt k i).kind = 1 := by simpa using h2
      (repeat (first | refine XK.n ?_ | refine XK.a ?_ | refine XK.b ?_))
      refine XK.weak (Weak.of (L := [(0, .ptr 0 0), (1, .c (.int .i64 i)), (2, .c (.int .i64 doer)), (7, .ptr 183 0)]) (O := (183, .cells 48 (clC (clAt k i))) :: rdN k (r.upOut i { r.out i with got := (r.out i).got + 1 })) (nx := 1000) (nt := 76) (md := fun _ => false) hN rfl rfl rfl frI
        (by (repeat' (first | exact rfl | exact AvIs.refl _ | exact trivial | exact fun _ _ => rfl | exact fun _ _ => ⟨rfl, AvIs.refl _⟩ | exact fun _ hi => absurd hi (Nat.not_lt_zero _) | (intro i hi; cases Nat.lt_one_iff.1 hi; rfl) | (intro j hj; by_cases hji : j = (i); (· subst hji; simp [setRowF, setL, Rd.upOut, Rd.upCnt]; done); (· simp [setRowF, beq_false hji, Rd.upOut, Rd.upCnt, hji, lt_succ_ne hji]; done)) | refine ⟨?_, ?_⟩)))) ?_
      have up : ((r.upOut i { r.out i with got := (r.out i).got + 1 }).out (i : Int).toNat).got = (r.out i).got + 1 := by simp [Rd.upOut]
      (repeat (first | refine XK.n ?_ | refine XK.a ?_ | refine XK.b ?_)); refine XK.cond rfl (fun h3 => ?_) (fun h3 => ?_)
      · rw [up] at h3
        have hc : countOne (clAt k i) r.steps doer (r.cnt i).2 (r.out i) = ({ r.out i with got := (r.out i).got + 1 }, false) := by
          unfold countOne
          rw [if_neg h1', if_pos hk1, if_pos (by simpa using h3)]
        rw [hc]
        (repeat (first | refine XK.n ?_ | refine XK.a ?_ | refine XK.b ?_))
        (first | refine XK.outR [0, 1, 2, 3, 4, 5] hN rfl rfl rfl ?_ rfl rfl ?_ | refine XK.outRN [0, 1, 2, 3, 4, 5] hN rfl rfl rfl ?_ rfl rfl ?_)
        · refine ⟨?_, ?_, ?_, ?_, ?_, ⟨rfl, rfl, rfl⟩, rfl, (by intro j hj; by_cases hji : j = (i); (· subst hji; simp [setRowF, setL, Rd.upOut, Rd.upCnt]); (· simp [setRowF, beq_false hji, Rd.upOut, Rd.upCnt, hji]))⟩
          all_goals (repeat' (first | exact rfl | exact AvIs.refl _ | exact trivial | exact fun _ _ => rfl | exact fun _ _ => ⟨rfl, AvIs.refl _⟩ | refine ⟨?_, ?_⟩))
        · exact AvIs.refl _
      · rw [up] at h3
        have hc : countOne (clAt k i) r.steps doer (r.cnt i).2 (r.out i) = ({ r.out i with got := (r.out i).got + 1, status := 3, to := r.steps }, true) := by
          unfold countOne
          rw [if_neg h1', if_pos hk1, if_neg (by simpa using h3)]
        rw [hc]
        (repeat (first | refine XK.n ?_ | refine XK.a ?_ | refine XK.b ?_)); refine XK.region ?_; refine XL.g ?_
        refine XL.callMA [0, 1, 2, 3, 4, 5] hE rfl rfl rfl rfl trivial (end_ok k (r.upOut i { r.out i with got := (r.out i).got + 1 }) i 3 hi) rfl rfl rfl rfl rfl ?_
        refine XL.g ?_; refine XL.fin ?_; (repeat (first | refine XK.n ?_ | refine XK.a ?_ | refine XK.b ?_))
        (first | refine XK.outR [0, 1, 2, 3, 4, 5] hN rfl rfl rfl ?_ rfl rfl ?_ | refine XK.outRN [0, 1, 2, 3, 4, 5] hN rfl rfl rfl ?_ rfl rfl ?_)
        · refine ⟨?_, ?_, ?_, ?_, ?_, ⟨rfl, rfl, rfl⟩, rfl, (by intro j hj; by_cases hji : j = (i); (· subst hji; simp [setRowF, setL, Rd.upOut, Rd.upCnt]); (· simp [setRowF, beq_false hji, Rd.upOut, Rd.upCnt, hji]))⟩
          all_goals (repeat' (first | exact rfl | exact AvIs.refl _ | exact trivial | exact fun _ _ => rfl | exact fun _ _ => ⟨rfl, AvIs.refl _⟩ | refine ⟨?_, ?_⟩))
        · exact AvIs.refl _
    · rw [fix] at h2
      have hk1 : ¬ (clAt k i).kind = 1 := by simpa using h2
      (repeat (first | refine XK.n ?_ | refine XK.a ?_ | refine XK.b ?_)); refine XK.cond rfl (fun h3 => ?_) (fun h3 => ?_)
      · rw [fix] at h3
        have hk2 : (clAt k i).kind = 2 := by simpa using h3
        (repeat (first | refine XK.n ?_ | refine XK.a ?_ | refine XK.b ?_)); refine XK.cond rfl (fun h4 => ?_) (fun h4 => ?_)
        · rw [fix3] at h4
          have hc : countOne (clAt k i) r.steps doer (r.cnt i).2 (r.out i) = (r.out i, false) := by
            unfold countOne
            rw [if_neg h1', if_neg hk1, if_pos hk2, if_pos h4]
          rw [hc]
          (repeat (first | refine XK.n ?_ | refine XK.a ?_ | refine XK.b ?_))
          (first | refine XK.outR [0, 1, 2, 3, 4, 5] hN rfl rfl rfl ?_ rfl rfl ?_ | refine XK.outRN [0, 1, 2, 3, 4, 5] hN rfl rfl rfl ?_ rfl rfl ?_)
          · refine ⟨?_, ?_, ?_, ?_, ?_, ⟨rfl, rfl, rfl⟩, rfl, (by intro j hj; by_cases hji : j = (i); (· subst hji; simp [setRowF, setL, Rd.upOut, Rd.upCnt]); (· simp [setRowF, beq_false hji, Rd.upOut, Rd.upCnt, hji]))⟩
            all_goals (repeat' (first | exact rfl | exact AvIs.refl _ | exact trivial | exact fun _ _ => rfl | exact fun _ _ => ⟨rfl, AvIs.refl _⟩ | refine ⟨?_, ?_⟩))
          · exact AvIs.refl _
        · rw [fix3] at h4
          have hc : countOne (clAt k i) r.steps doer (r.cnt i).2 (r.out i) = ({ r.out i with status := 4, to := r.steps }, true) := by
            unfold countOne
            rw [if_neg h1', if_neg hk1, if_pos hk2, if_neg (by simp [h4])]
          rw [hc]
          (repeat (first | refine XK.n ?_ | refine XK.a ?_ | refine XK.b ?_)); refine XK.region ?_; refine XL.g ?_
          refine XL.callMA [0, 1, 2, 3, 4, 5] hE rfl rfl rfl rfl trivial (end_ok k r i 4 hi) rfl rfl rfl rfl rfl ?_
          refine XL.g ?_; refine XL.fin ?_; (repeat (first | refine XK.n ?_ | refine XK.a ?_ | refine XK.b ?_))
          (first | refine XK.outR [0, 1, 2, 3, 4, 5] hN rfl rfl rfl ?_ rfl rfl ?_ | refine XK.outRN [0, 1, 2, 3, 4, 5] hN rfl rfl rfl ?_ rfl rfl ?_)
          · refine ⟨?_, ?_, ?_, ?_, ?_, ⟨rfl, rfl, rfl⟩, rfl, (by intro j hj; by_cases hji : j = (i); (· subst hji; simp [setRowF, setL, Rd.upOut, Rd.upCnt]); (· simp [setRowF, beq_false hji, Rd.upOut, Rd.upCnt, hji]))⟩
            all_goals (repeat' (first | exact rfl | exact AvIs.refl _ | exact trivial | exact fun _ _ => rfl | exact fun _ _ => ⟨rfl, AvIs.refl _⟩ | refine ⟨?_, ?_⟩))
          · exact AvIs.refl _
      · rw [fix] at h3
        have hk2 : ¬ (clAt k i).kind = 2 := by simpa using h3
        have hc : countOne (clAt k i) r.steps doer (r.cnt i).2 (r.out i) = ({ r.out i with status := 3, to := r.steps }, true) := by
          unfold countOne
          rw [if_neg h1', if_neg hk1, if_neg hk2]
        rw [hc]
        (repeat (first | refine XK.n ?_ | refine XK.a ?_ | refine XK.b ?_)); refine XK.region ?_; refine XL.g ?_
        refine XL.callMA [0, 1, 2, 3, 4, 5] hE rfl rfl rfl rfl trivial (end_ok k r i 3 hi) rfl rfl rfl rfl rfl ?_
        refine XL.g ?_; refine XL.fin ?_; (repeat (first | refine XK.n ?_ | refine XK.a ?_ | refine XK.b ?_))
        (first | refine XK.outR [0, 1, 2, 3, 4, 5] hN rfl rfl rfl ?_ rfl rfl ?_ | refine XK.outRN [0, 1, 2, 3, 4, 5] hN rfl rfl rfl ?_ rfl rfl ?_)
        · refine ⟨?_, ?_, ?_, ?_, ?_, ⟨rfl, rfl, rfl⟩, rfl, (by intro j hj; by_cases hji : j = (i); (· subst hji; simp [setRowF, setL, Rd.upOut, Rd.upCnt]); (· simp [setRowF, beq_false hji, Rd.upOut, Rd.upCnt, hji]))⟩
          all_goals (repeat' (first | exact rfl | exact AvIs.refl _ | exact trivial | exact fun _ _ => rfl | exact fun _ _ => ⟨rfl, AvIs.refl _⟩ | refine ⟨?_, ?_⟩))
        · exact AvIs.refl _
end Go.Proofs.YtlhmgphgnedlkaaGreat
end
