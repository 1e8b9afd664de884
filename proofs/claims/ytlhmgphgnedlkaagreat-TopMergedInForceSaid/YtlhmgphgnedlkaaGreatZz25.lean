import Derived.Test.YtlhmgphgnedlkaaGreatZz13
import Derived.Test.YtlhmgphgnedlkaaGreatZz24
import Derived.Test.YtlhmgphgnedlkaaGreatZz18
import Derived.Test.YtlhmgphgnedlkaaGreatZz23
set_option linter.unusedSimpArgs false
set_option linter.unusedVariables false
section
/- Contracts: package validate: Run. -/
namespace Go.Proofs.YtlhmgphgnedlkaaGreat
open Go.Eng
set_option maxRecDepth 10000
noncomputable def runL (k : K) (l : List Int) (i : Nat) : List St := (List.range (i + 1)).map (fun j => (runE k l j).1)
noncomputable def vrunR (k : K) (l : List Int) : List St × Int :=
  if (startS k).2 ≠ 0 then ([], (startS k).2) else if 4000 < l.length then ([], 3) else if (runE k l l.length).2 ≠ 0 then ([], (runE k l l.length).2)
  else (runL k l l.length, 0)
set_option maxHeartbeats 1000000 in
theorem vrun_ok (k : K) (hk : kW k) (l : List Int) : Does Tryz.prog 8 [kV k, intsV l] (.tup [stsV (vrunR k l).1, .c (.int .i64 (vrunR k l).2)]) := by
  have hs := startS_ok k hk
  unfold vrunR
  have h00 : (runE k l 0) = startS k := rfl
  refine Does.mk (fun d => Nat.beq d 23) TT_ok Tryz.func8 rfl (by kernel_rfl) Tryz.ntmps8 rfl rfl fun E hT hE hN hR => ?_
  have hm := mixO hE
  refine XK.fact (Sat.rs_len (j := 1) rfl) fun hlen => ?_
  have hm' : l.length ≤ 9223372036854775807 := hlen.1
  (repeat (first | refine XK.n ?_ | refine XK.a ?_ | refine XK.b ?_))
  generalize hq : startS k = s0 at *
  (repeat (first | refine XK.n ?_ | refine XK.a ?_ | refine XK.b ?_)); refine XK.region ?_; refine XL.g ?_
  refine XL.callKA hE rfl rfl rfl rfl trivial rfl rfl (hs) ?_
  refine XL.g ?_; refine XL.fin ?_; (repeat (first | refine XK.n ?_ | refine XK.a ?_ | refine XK.b ?_))
  (repeat (first | refine XK.n ?_ | refine XK.a ?_ | refine XK.b ?_)); refine XK.cond rfl (fun h1 => ?_) (fun h1 => ?_) <;> (try simp at h1)
  · rw [if_pos h1]
    (repeat (first | refine XK.n ?_ | refine XK.a ?_ | refine XK.b ?_))
    refine XK.outL rfl rfl rfl ⟨⟨rfl, rfl⟩, rfl⟩
  rw [if_neg (by simpa using h1)]
  (repeat (first | refine XK.n ?_ | refine XK.a ?_ | refine XK.b ?_)); refine XK.cond rfl (fun h2 => ?_) (fun h2 => ?_) <;> (try simp at h2)
  · rw [if_pos (by omega)]
    (repeat (first | refine XK.n ?_ | refine XK.a ?_ | refine XK.b ?_))
    refine XK.outL rfl rfl rfl ⟨⟨rfl, rfl⟩, rfl⟩
  rw [if_neg (by omega)]
  (repeat (first | refine XK.n ?_ | refine XK.a ?_ | refine XK.b ?_))
  refine XK.loop (ι := Nat) (fun i => ST.of [(2, .ptr 2 0), (6, .ptr 52 0), (8, .vec 207 0), (24, intsV l), (25, .c (.int .i64 l.length)), (26, .c (.int .i64 i))] [(2, .cells 27 (kC k)), (52, .cells 41 (stC (runE k l i).1)), (207, .vec 41 4 0 (runL k l i).length (fun j => stC ((runL k l i).getD j default)))] 1000 46 (fun d => Nat.beq d 23))
    (fun i => i ≤ l.length ∧ (runE k l i).2 = 0) (fun i => l.length - i) 0 ⟨Nat.zero_le _, by rw [h00]; exact h1⟩
    (Weak.of hN rfl rfl rfl frI ⟨frI, ⟨rfl, by rw [h00]; rfl⟩, ⟨⟨rfl, rfl, rfl⟩, rfl, fun j hj => by cases Nat.lt_one_iff.1 hj; show stC ((runL k l 0).getD 0 default) = _; rw [show (runL k l 0).getD 0 default = (runE k l 0).1 from rfl, h00]; rfl⟩⟩) fun i hi => ?_
  obtain ⟨hi, hz⟩ := hi
  (repeat (first | refine XK.n ?_ | refine XK.a ?_ | refine XK.b ?_)); refine XK.cond rfl (fun hlt => ?_) (fun hlt => ?_) <;> (try simp at hlt)
  · have fl : l.getD (i : Int).toNat default = l.getD i default := rfl
    have hn : runE k l (i + 1) = stepS k (runE k l i).1 (l.getD i default) := by show (if _ then _ else _) = _; rw [if_pos hz]
    have hst := fun (h : (runE k l (i + 1)).2 ≠ 0) => runE_stop h l.length (by omega)
    have hsn : runL k l (i + 1) = runL k l i ++ [(runE k l (i + 1)).1] := by unfold runL; rw [List.range_succ, List.map_append]; rfl
    have hln : (runL k l i).length = i + 1 := by simp [runL]
    have h2s := stepS_ok k hk (runE k l i).1 (l.getD i default)
    rw [← hn] at h2s
    generalize hL2 : runL k l (i + 1) = L2 at *
    generalize runL k l i = L at *
    generalize hr2 : runE k l (i + 1) = r2 at *
    generalize runE k l i = r at *
    (repeat (first | refine XK.n ?_ | refine XK.a ?_ | refine XK.b ?_))
    rw [fl]
    (repeat (first | refine XK.n ?_ | refine XK.a ?_ | refine XK.b ?_)); refine XK.region ?_; refine XL.g ?_
    refine XL.callKA hE rfl rfl rfl rfl trivial rfl rfl (h2s) ?_
    refine XL.g ?_; refine XL.fin ?_; (repeat (first | refine XK.n ?_ | refine XK.a ?_ | refine XK.b ?_))
    (repeat (first | refine XK.n ?_ | refine XK.a ?_ | refine XK.b ?_)); refine XK.cond rfl (fun h5 => ?_) (fun h5 => ?_) <;> (try simp at h5)
    · rw [hst h5, if_pos h5]
      (repeat (first | refine XK.n ?_ | refine XK.a ?_ | refine XK.b ?_))
      refine XK.outL rfl rfl rfl ⟨⟨rfl, rfl⟩, rfl⟩
    · (repeat (first | refine XK.n ?_ | refine XK.a ?_ | refine XK.b ?_))
      refine XK.inv ⟨i + 1, ⟨hlt, by rw [hr2]; exact h5⟩, ?_, by omega⟩
      rw [hr2, hL2, hsn, len_snoc]
      exact Weak.trans (Weak.stamp (k := 207) (t := 0) hN rfl rfl) (Weak.of hN rfl rfl rfl frI ⟨frI, frI, ⟨rfl, rfl, rfl⟩, rfl, row_snoc stC L r2.1 _ rfl⟩)
  · have hie : i = l.length := by omega
    subst hie
    rw [if_neg (by simpa using hz)]
    generalize runL k l l.length = L at *
    refine XK.weak (Weak.frozen (k := 207) hN rfl rfl) ?_
    (repeat (first | refine XK.n ?_ | refine XK.a ?_ | refine XK.b ?_))
    (first | refine XK.out rfl rfl rfl ?_ | refine XK.outN rfl rfl rfl ?_)
    rfl
end Go.Proofs.YtlhmgphgnedlkaaGreat
end
section
/- Contracts: helpers of the laws of top27w09. -/
namespace Go.Proofs.YtlhmgphgnedlkaaGreat
open Go.Eng
set_option maxRecDepth 10000
def smallW (k : K) (left right : List Pt) (l : List Int) : Bool := left.all small24B && right.all small24B && (smallQ k 12 && decide ((left.length : Int) ≤ 6) && decide ((right.length : Int) ≤ 6) && decide ((l.length : Int) ≤ 40))
theorem all_no {α : Type} [Inhabited α] {f : α → Bool} {l : List α} {i : Nat} (hi : i < l.length) (h : f (l.getD i default) = false) : l.all f = false := by
  rw [Bool.eq_false_iff]
  intro h2
  have := List.all_eq_true.1 h2 _ (getD_memW hi)
  rw [h] at this; cases this
theorem wsmall_ok (k : K) (left right : List Pt) (l : List Int) : Does Tryz.prog 6 [kV k, ptsV left, ptsV right, intsV l] (.c (.bool (smallW k left right l))) := by
  unfold smallW
  refine Does.mk (fun _ => false) TT_ok Tryz.func6 rfl (by kernel_rfl) Tryz.ntmps6 rfl rfl fun E hT hE hN hR => ?_
  have hm := mixO hE
  refine XK.fact (Sat.rs_len (j := 1) rfl) fun hlen => ?_
  refine XK.fact (Sat.rs_len (j := 2) rfl) fun hlen2 => ?_
  have hm1 := hlen.1
  have hm2 := hlen2.1
  clear hlen hlen2
  (repeat (first | refine XK.n ?_ | refine XK.a ?_ | refine XK.b ?_))
  refine XK.loop (ι := Nat) (fun j => ST.of [(1, ptsV left), (2, ptsV right), (3, intsV l), (4, .ptr 4 0), (9, .c (.int .i64 j))] [(4, .cells 27 (kC k))] 1000 52 (fun _ => false))
    (fun j => j ≤ left.length ∧ ∀ i, i < j → small24B (left.getD i default) = true) (fun j => left.length - j) 0 ⟨Nat.zero_le _, fun i hi => absurd hi (Nat.not_lt_zero _)⟩ (Weak.of hN rfl rfl rfl frI frI) fun j hj => ?_
  obtain ⟨hj, hb⟩ := hj
  (repeat (first | refine XK.n ?_ | refine XK.a ?_ | refine XK.b ?_)); refine XK.cond rfl (fun hlt => ?_) (fun hlt => ?_) <;> (try simp at hlt)
  · have fx : left.getD (j : Int).toNat default = left.getD j default := rfl
    have cs := small24_ok (left.getD j default)
    have hno := all_no (f := small24B) hlt
    have hbn : small24B (left.getD j default) = true → ∀ i, i < j + 1 → small24B (left.getD i default) = true := fun h i hi => by
      by_cases e : i = j
      · subst e; exact h
      · exact hb i (by omega)
    (repeat (first | refine XK.n ?_ | refine XK.a ?_ | refine XK.b ?_))
    (repeat (first | refine XK.n ?_ | refine XK.a ?_ | refine XK.b ?_)); refine XK.region ?_; refine XL.g ?_
    rw [fx]
    refine XL.callLA hE rfl rfl rfl rfl trivial rfl (cs) rfl ?_
    refine XL.g ?_; refine XL.fin ?_; (repeat (first | refine XK.n ?_ | refine XK.a ?_ | refine XK.b ?_))
    (repeat (first | refine XK.n ?_ | refine XK.a ?_ | refine XK.b ?_)); refine XK.cond rfl (fun h1 => ?_) (fun h1 => ?_)
    · rw [hno (by simpa using h1), Bool.false_and, Bool.false_and]
      (repeat (first | refine XK.n ?_ | refine XK.a ?_ | refine XK.b ?_))
      (first | refine XK.out rfl rfl rfl ?_ | refine XK.outN rfl rfl rfl ?_)
      rfl
    · (repeat (first | refine XK.n ?_ | refine XK.a ?_ | refine XK.b ?_))
      exact XK.inv ⟨j + 1, ⟨hlt, hbn (by simpa using h1)⟩, (Weak.of hN rfl rfl rfl frI frI), by omega⟩
  have hje : j = left.length := by omega
  subst hje
  rw [all_at.2 hb, Bool.true_and]
  clear hb hj hlt
  (repeat (first | refine XK.n ?_ | refine XK.a ?_ | refine XK.b ?_))
  refine XK.loop (ι := Nat) (fun j => ST.of [(1, ptsV left), (2, ptsV right), (3, intsV l), (4, .ptr 4 0), (10, .c (.int .i64 j))] [(4, .cells 27 (kC k))] 2000 52 (fun _ => false))
    (fun j => j ≤ right.length ∧ ∀ i, i < j → small24B (right.getD i default) = true) (fun j => right.length - j) 0 ⟨Nat.zero_le _, fun i hi => absurd hi (Nat.not_lt_zero _)⟩ (Weak.of hN rfl rfl rfl frI frI) fun j hj => ?_
  obtain ⟨hj, hb⟩ := hj
  (repeat (first | refine XK.n ?_ | refine XK.a ?_ | refine XK.b ?_)); refine XK.cond rfl (fun hlt => ?_) (fun hlt => ?_) <;> (try simp at hlt)
  · have fx : right.getD (j : Int).toNat default = right.getD j default := rfl
    have cs := small24_ok (right.getD j default)
    have hno := all_no (f := small24B) hlt
    have hbn : small24B (right.getD j default) = true → ∀ i, i < j + 1 → small24B (right.getD i default) = true := fun h i hi => by
      by_cases e : i = j
      · subst e; exact h
      · exact hb i (by omega)
    (repeat (first | refine XK.n ?_ | refine XK.a ?_ | refine XK.b ?_))
    (repeat (first | refine XK.n ?_ | refine XK.a ?_ | refine XK.b ?_)); refine XK.region ?_; refine XL.g ?_
    rw [fx]
    refine XL.callLA hE rfl rfl rfl rfl trivial rfl (cs) rfl ?_
    refine XL.g ?_; refine XL.fin ?_; (repeat (first | refine XK.n ?_ | refine XK.a ?_ | refine XK.b ?_))
    (repeat (first | refine XK.n ?_ | refine XK.a ?_ | refine XK.b ?_)); refine XK.cond rfl (fun h1 => ?_) (fun h1 => ?_)
    · rw [hno (by simpa using h1), Bool.false_and]
      (repeat (first | refine XK.n ?_ | refine XK.a ?_ | refine XK.b ?_))
      (first | refine XK.out rfl rfl rfl ?_ | refine XK.outN rfl rfl rfl ?_)
      rfl
    · (repeat (first | refine XK.n ?_ | refine XK.a ?_ | refine XK.b ?_))
      exact XK.inv ⟨j + 1, ⟨hlt, hbn (by simpa using h1)⟩, (Weak.of hN rfl rfl rfl frI frI), by omega⟩
  have hje : j = right.length := by omega
  subst hje
  rw [all_at.2 hb, Bool.true_and]
  (repeat (first | refine XK.n ?_ | refine XK.a ?_ | refine XK.b ?_))
  (repeat (first | refine XK.n ?_ | refine XK.a ?_ | refine XK.b ?_)); refine XK.region ?_; refine XL.g ?_
  refine XL.callLA hE rfl rfl rfl rfl trivial rfl (smallQ_ok k 12) rfl ?_
  refine XL.g ?_; refine XL.fin ?_; (repeat (first | refine XK.n ?_ | refine XK.a ?_ | refine XK.b ?_))
  (first | refine XK.out rfl rfl rfl ?_ | refine XK.outN rfl rfl rfl ?_)
  rfl
end Go.Proofs.YtlhmgphgnedlkaaGreat
end
section
/- The head of the laws of top27w09: it returns true. -/
namespace Go.Proofs.YtlhmgphgnedlkaaGreat
open Go.Eng
set_option maxRecDepth 10000
def dutyM (act after : Int) : Cl := ⟨1, 0, act, 1, [], after, 0, false, true, -1, -1, (0, 1), -1, -1, false⟩
theorem mduty_ok (act after : Int) (h1 : inK .i64 act) (h2 : inK .i64 after) : Does Tryz.prog 26 [.c (.int .i64 act), .c (.int .i64 after)] (.agg (clC (dutyM act after))) := by
  refine Does.weaken (res := ?x) ?_ ?_
  rotate_left
  refine Does.mk (fun _ => false) TT_ok Tryz.func26 rfl (by kernel_rfl) Tryz.ntmps26 rfl rfl fun E hT hE hN hR => ?_
  have hm := mixO hE
  (repeat (first | refine XK.n ?_ | refine XK.a ?_ | refine XK.b ?_))
  (first | refine XK.out rfl rfl rfl ?_ | refine XK.outN rfl rfl rfl ?_)
  rfl
  · refine AvS.agg ⟨AvS.refl _, AvS.refl _, AvS.refl _, AvS.refl _, AvS.nil, AvSL.refl _⟩
def mgActs : List Act := [⟨1, 0, 0, -1, -1, (0, 1)⟩, ⟨1, 0, 0, -1, -1, (0, 1)⟩, ⟨1, 1, 0, -1, -1, (0, 1)⟩]
def mgK : K := { parties := 2, holders := [0, 1], units := [], acts := mgActs, clauses := [dutyM 0 3, dutyM 1 2], days := 9, off := [] }
theorem mgK_W : kW mgK := by
  simp [kW, mgK, mgActs, dutyM, inK, actW, clW, qW]
def mgRow : AV := .rs 16 2 (rowOf (clC (dutyM 0 3) ++ clC (dutyM 1 2)) 16)
theorem mdeal_ok : Does Tryz.prog 25 [.c (.int .i64 9), mgRow] (kV mgK) := by
  refine Does.weaken (res := ?x) ?_ ?_
  rotate_left
  refine Does.mk (fun _ => false) TT_ok Tryz.func25 rfl (by kernel_rfl) Tryz.ntmps25 rfl rfl fun E hT hE hN hR => ?_
  have hm := mixO hE
  (repeat (first | refine XK.n ?_ | refine XK.a ?_ | refine XK.b ?_))
  (first | refine XK.out rfl rfl rfl ?_ | refine XK.outN rfl rfl rfl ?_)
  rfl
  · refine AvS.agg ⟨AvS.refl _, AvS.rs (fun i hi => ?_), AvS.nil, AvS.rs (fun i hi => ?_), AvS.rs (fun i hi => ?_), AvS.refl _, AvS.nil, trivial⟩
    · rcases i with _ | _ | i <;> first | exact AvSL.refl _ | omega
    · rcases i with _ | _ | _ | i <;> first | exact AvSL.refl _ | omega
    · rcases i with _ | _ | i <;> first | exact AvSL.refl _ | omega
def rwI (i : Int) : AV := .rs 1 1 (rowOf [.c (.int .i64 i)] 1)
theorem rwI_is (i : Int) : AvS (rwI i) (intsV [i]) := AvS.rs (fun j hj => by cases Nat.lt_one_iff.1 hj; exact AvSL.refl _)
def rwC (kind i days : Int) : List AV := [.c (.int .i64 kind), rwI i, .c (.int .i64 0), .c (.int .i64 0), .c (.int .i64 0), .c (.int .i64 0), .c (.slice none 0 0), .c (.int .i64 0), .c (.int .i64 0), .c (.bool false), .c (.bool false), .c (.int .i64 0), .c (.int .i64 0), .c (.int .i64 0), .c (.int .i64 0), .c (.int .i64 0), .c (.int .i64 0), .c (.bool false), .c (.int .i64 days)]
def mgP (kind i days : Int) : Pt := ⟨kind, [i], default, days⟩
theorem rwC_is (kind i days : Int) : AvSL (rwC kind i days) (ptC (mgP kind i days)) :=
  ⟨AvS.refl _, rwI_is _, AvS.refl _, AvS.refl _, AvS.refl _, AvS.refl _, AvS.nil, AvS.refl _, AvS.refl _, AvS.refl _, AvS.refl _, AvS.refl _, AvS.refl _, AvS.refl _, AvS.refl _, AvS.refl _, AvS.refl _, AvS.refl _, AvS.refl _, trivial⟩
def rwL (kind i days : Int) : AV := .rs 19 1 (rowOf (rwC kind i days) 19)
theorem rwL_is (kind i days : Int) : AvS (rwL kind i days) (ptsV [mgP kind i days]) := AvS.rs (fun j hj => by cases Nat.lt_one_iff.1 hj; exact rwC_is kind i days)
theorem mgP_ok (kind i days : Int) (h1 : inK .i64 kind) (h2 : inK .i64 i) (h3 : inK .i64 days) : ptOk (mgP kind i days) :=
  ⟨⟨h1, by simpa [mgP] using h2, zClW, h3⟩, by simp [mgP], by show ([] : List Cnd).length ≤ _; simp⟩
theorem mg_long : ptOk (mgP 5 0 5) := mgP_ok 5 0 5 (by simp [inK]) (by simp [inK]) (by simp [inK])
theorem mg_waive : ptOk (mgP 3 1 0) := mgP_ok 3 1 0 (by simp [inK]) (by simp [inK]) (by simp [inK])
def mgL : List Pt := [mgP 5 0 5, mgP 3 1 0]
theorem mg1 : mergeR mgK [mgP 5 0 5] [mgP 3 1 0] = (mgL, (0, 0), 0) := by
  have h : (mergeR mgK [mgP 5 0 5] [mgP 3 1 0]).2.2 = 0 := by decide +kernel
  unfold mergeR at h ⊢
  split
  · rename_i h1; rw [if_pos h1] at h; exact absurd h h1
  · rename_i h1
    rw [if_neg h1] at h
    split
    · rename_i h2; rw [if_pos h2] at h; exact absurd h h2
    · rename_i h2
      rw [if_neg h2] at h
      split
      · rename_i h3; rw [if_pos h3] at h; cases h
      · rename_i h3
        rw [if_neg h3] at h
        split
        · rename_i h4; rw [h4] at h; cases h
        · rfl
theorem mg2 : (appAllR mgK mgL).2 = 0 ∧ (appAllR mgK mgL).1.clauses.length = 2 ∧ ((appAllR mgK mgL).1.clauses.getD 0 default).after = 5 ∧ ((appAllR mgK mgL).1.clauses.getD 1 default).waived = true := by decide +kernel
theorem mg3 : (vrunR mgK [-1]).2 = 0 ∧ (vrunR mgK [-1]).1.length = 2 := by decide +kernel
theorem mg4 : (migrateR mgK (mgP 5 0 5) ((vrunR mgK [-1]).1.getD 1 default)).2 = 0 ∧ (migrateR mgK (mgP 5 0 5) ((vrunR mgK [-1]).1.getD 1 default)).1.marks.length = 2 ∧ ((migrateR mgK (mgP 5 0 5) ((vrunR mgK [-1]).1.getD 1 default)).1.marks.getD 0 default).left = 4 := by decide +kernel
theorem merged_ok : Does Tryz.prog 5 [] (.c (.bool true)) := by
  have c1 := (merge_ok mgK mgK_W [mgP 5 0 5] [mgP 3 1 0] (oneOk mg_long) (oneOk mg_waive)).argS (args' := [kV mgK, rwL 5 0 5, rwL 3 1 0]) ⟨AvS.refl _, rwL_is _ _ _, rwL_is _ _ _, trivial⟩
  have c2 := appAll_ok mgK mgK_W mgL (twoOk mg_long mg_waive)
  have c3 := (vrun_ok mgK mgK_W [-1]).argS (args' := [kV mgK, rwI (-1)]) ⟨AvS.refl _, rwI_is _, trivial⟩
  have c4 := (migrate_ok mgK mgK_W (mgP 5 0 5) mg_long.1 mg_long.2.1 mg_long.2.2 ((vrunR mgK [-1]).1.getD 1 default)).argS (args' := [kV mgK, .agg (rwC 5 0 5), stV ((vrunR mgK [-1]).1.getD 1 default)]) ⟨AvS.refl _, AvS.agg (rwC_is 5 0 5), AvS.refl _, trivial⟩
  have h2 := mg2
  have h3 := mg3
  have h4 := mg4
  rw [mg1] at c1
  generalize appAllR mgK mgL = A at *
  generalize vrunR mgK [-1] = V at *
  generalize migrateR mgK (mgP 5 0 5) (V.1.getD 1 default) = G at *
  obtain ⟨a, ea⟩ := A
  obtain ⟨v, ev⟩ := V
  obtain ⟨g, eg⟩ := G
  dsimp only at *
  obtain ⟨rfl, a1, a2, a3⟩ := h2
  obtain ⟨rfl, v1⟩ := h3
  obtain ⟨rfl, g1, g2⟩ := h4
  refine Does.mk (fun _ => false) TT_ok Tryz.func5 rfl (by kernel_rfl) Tryz.ntmps5 rfl rfl fun E hT hE hN hR => ?_
  have hm := mixO hE
  (repeat (first | refine XK.n ?_ | refine XK.a ?_ | refine XK.b ?_))
  (repeat (first | refine XK.n ?_ | refine XK.a ?_ | refine XK.b ?_)); refine XK.region ?_; refine XL.g ?_
  refine XL.callKA hE rfl rfl rfl rfl trivial rfl rfl (mduty_ok 0 3 (by simp [inK]) (by simp [inK])) ?_
  refine XL.g ?_
  refine XL.callKA hE rfl rfl rfl rfl trivial rfl rfl (mduty_ok 1 2 (by simp [inK]) (by simp [inK])) ?_
  refine XL.g ?_
  refine XL.callKA hE rfl rfl rfl rfl trivial rfl rfl (mdeal_ok) ?_
  refine XL.g ?_; refine XL.fin ?_; (repeat (first | refine XK.n ?_ | refine XK.a ?_ | refine XK.b ?_))
  (repeat (first | refine XK.n ?_ | refine XK.a ?_ | refine XK.b ?_))
  refine XK.weak (st' := ST.of [(1, .ptr 104 0), (2, .ptr 208 0), (3, .ptr 312 0)] [(104, .cells 27 (kC mgK)), (208, .cells 50 (rwC 5 0 5)), (312, .cells 50 (rwC 3 1 0))] 1000 103 (fun _ => false)) (Weak.of hN rfl rfl rfl frI frI) ?_
  (repeat (first | refine XK.n ?_ | refine XK.a ?_ | refine XK.b ?_)); refine XK.region ?_; refine XL.g ?_
  refine XL.callKA hE rfl rfl rfl rfl trivial rfl rfl (c1) ?_
  refine XL.g ?_; refine XL.fin ?_; (repeat (first | refine XK.n ?_ | refine XK.a ?_ | refine XK.b ?_))
  (repeat (first | refine XK.n ?_ | refine XK.a ?_ | refine XK.b ?_)); refine XK.region ?_; refine XL.g ?_
  refine XL.callKA hE rfl rfl rfl rfl trivial rfl rfl (c2) ?_
  refine XL.g ?_; refine XL.fin ?_; (repeat (first | refine XK.n ?_ | refine XK.a ?_ | refine XK.b ?_))
  (repeat (first | refine XK.n ?_ | refine XK.a ?_ | refine XK.b ?_)); refine XK.region ?_; refine XL.g ?_
  refine XL.callKA hE rfl rfl rfl rfl trivial rfl rfl (c3) ?_
  refine XL.g ?_; refine XL.fin ?_; (repeat (first | refine XK.n ?_ | refine XK.a ?_ | refine XK.b ?_))
  have hml : mgL.length = 2 := rfl
  (repeat (first | refine XK.n ?_ | refine XK.a ?_ | refine XK.b ?_))
  (repeat (first | refine XK.n ?_ | refine XK.a ?_ | refine XK.b ?_)); refine XK.cond rfl (fun h5 => ?_) (fun h5 => ?_)
  · exfalso
    simp [v1, hml] at h5
  clear h5
  have fv : v.getD (Int.toNat 1) default = v.getD 1 default := rfl
  (repeat (first | refine XK.n ?_ | refine XK.a ?_ | refine XK.b ?_))
  (repeat (first | refine XK.n ?_ | refine XK.a ?_ | refine XK.b ?_)); refine XK.drawn hm ?_; refine XD.goA hT rfl rfl rfl rfl ?_
  rw [fv]
  refine XD.callKA hE rfl rfl rfl rfl trivial rfl rfl (c4) ?_
  refine XD.goA hT rfl rfl rfl rfl ?_; refine XD.fin (by kernel_rfl) ?_; (repeat (first | refine XK.n ?_ | refine XK.a ?_ | refine XK.b ?_))
  have fa : a.clauses.getD (Int.toNat 0) default = a.clauses.getD 0 default := rfl
  have fb : a.clauses.getD (Int.toNat 1) default = a.clauses.getD 1 default := rfl
  have fg : g.marks.getD (Int.toNat 0) default = g.marks.getD 0 default := rfl
  (repeat (first | refine XK.n ?_ | refine XK.a ?_ | refine XK.b ?_))
  (first | refine XK.out rfl rfl rfl ?_ | refine XK.outN rfl rfl rfl ?_)
  rw [fa, fb, fg, a1, a2, a3, g2]
  rfl
end Go.Proofs.YtlhmgphgnedlkaaGreat
end
section
/- The law TopMergeKeeps: plain. -/
namespace Go.Proofs.YtlhmgphgnedlkaaGreat
open Go.Eng
set_option maxRecDepth 10000
theorem merge_law {k : K} {left right : List Pt} (hl : ptsOk left) (hr : ptsOk right) (h : (mergeR k left right).2.2 = 0) :
    (kValid k).1 = 0 ∧ (mergeR k left right).1.length ≤ 60 ∧ ptsOk (mergeR k left right).1 ∧ (allTo k (mergeR k left right).1 (mergeR k left right).1.length).2 = 0 := by
  by_cases h1 : (appAllR k left).2 = 0
  · by_cases h2 : (appAllR k right).2 = 0
    · obtain ⟨hv, l60, oka, -⟩ := appAll_zero2 h1
      obtain ⟨-, r60, okb, -⟩ := appAll_zero2 h2
      have n1 : ¬ (appAllR k left).2 ≠ 0 := by simpa using h1
      have n2 : ¬ (appAllR k right).2 ≠ 0 := by simpa using h2
      unfold mergeR at h ⊢
      rw [if_neg n1, if_neg n2] at h ⊢
      by_cases h3 : 60 < left.length + right.length ∨ 400 < k.clauses.length + addsN left left.length + addsN right right.length
      · rw [if_pos h3] at h; cases h
      · rw [if_neg h3] at h ⊢
        cases hc : confR k left right with
        | some x => rw [hc] at h; cases h
        | none =>
          dsimp only
          have hP := merge_PV hv oka okb (by omega)
          refine ⟨hv, by rw [mergL_len]; omega, fun p hp => ?_, (allTo_ok hv (Nat.le_refl _) hP).ok⟩
          have hps : ∀ {l : List Pt}, (allTo k l l.length).2 = 0 → ∀ q ∈ l, ptS q := fun {l} h q hq => by
            obtain ⟨i, hi, rfl⟩ := List.mem_iff_getElem.1 hq
            obtain ⟨_, hp⟩ := allTo_all hv (Nat.le_refl _) h
            have := hp i hi
            rw [show l.getD i default = l[i] by simp [List.getD, hi]] at this
            obtain ⟨⟨b1, b2, b3, b4⟩, _⟩ := allTo_all hv (show i ≤ l.length by omega) (allTo_before h (by omega))
            have hle : (allTo k l i).1.clauses.length ≤ 400 := ((kValid_iff _).1 b2).2.2.1
            exact PV_small (by omega) this
          have e1 := addsN_le left left.length
          rcases List.mem_append.1 hp with hp | hp
          · obtain ⟨q, hq, rfl⟩ := List.mem_map.1 hp
            exact renOk (hl q hq) (hps oka q hq) ⟨by omega, by omega⟩
          · obtain ⟨q, hq, rfl⟩ := List.mem_map.1 hp
            exact renOk (hr q hq) (hps okb q hq) ⟨by omega, by omega⟩
    · exfalso
      have n1 : ¬ (appAllR k left).2 ≠ 0 := by simpa using h1
      unfold mergeR at h
      rw [if_neg n1, if_pos h2] at h
      exact h2 h
  · exfalso
    unfold mergeR at h
    rw [if_pos h1] at h
    exact h1 h
structure StepF (k : K) (M : List Pt) (s0 : St) (i : Nat) : Prop where
  ap : applyR (allTo k M i).1 (M.getD i default) = ((allTo k M (i + 1)).1, 0)
  mg : migrateR (allTo k M i).1 (M.getD i default) (stMig k M s0 i) = (stMig k M s0 (i + 1), 0)
  va : validS (allTo k M (i + 1)).1 (stMig k M s0 (i + 1)) = true
  eq : stMig k M s0 (i + 1) = ⟨(stMig k M s0 i).day, (stMig k M s0 i).holders, (stMig k M s0 i).used, (stMig k M s0 (i + 1)).marks⟩
  len : (stMig k M s0 i).marks.length ≤ (stMig k M s0 (i + 1)).marks.length ∧ (stMig k M s0 i).marks.length ≤ 400
  lh : (stMig k M s0 i).holders.length ≤ 12
  lu : (stMig k M s0 i).used.length ≤ 60
  mrk : ∀ q, q < (stMig k M s0 i).marks.length → (endedM ((stMig k M s0 i).marks.getD q default) = true → (stMig k M s0 (i + 1)).marks.getD q default = (stMig k M s0 i).marks.getD q default) ∧
    (((stMig k M s0 (i + 1)).marks.getD q default).status = 4 → ((stMig k M s0 i).marks.getD q default).status = 4) ∧
    (runsM ((stMig k M s0 i).marks.getD q default) = true → ¬ ((M.getD i default).kind = 2 ∧ namedB (M.getD i default) q = true) → ((stMig k M s0 (i + 1)).marks.getD q default).got = ((stMig k M s0 i).marks.getD q default).got ∧ ((stMig k M s0 (i + 1)).marks.getD q default).bearer = ((stMig k M s0 i).marks.getD q default).bearer ∧
      (runsM ((stMig k M s0 (i + 1)).marks.getD q default) = true → ((stMig k M s0 (i + 1)).marks.getD q default).paused = ((stMig k M s0 i).marks.getD q default).paused) ∧ (runsM ((stMig k M s0 (i + 1)).marks.getD q default) = false → namedB (M.getD i default) q = true))
end Go.Proofs.YtlhmgphgnedlkaaGreat
end
section
/- Contracts: package version: the amendments that count, one after the other (for InForce). -/
namespace Go.Proofs.YtlhmgphgnedlkaaGreat
open Go.Eng
set_option maxRecDepth 10000
abbrev InS := (K × List Int) × Bool
def numsO (L : List Int) : Ob := .vec 3 1 (2 * L.length) L.length (fun i => [.c (.int .i64 (L.getD i default))])
def inO (s : InS) : List Ob := [.cells 27 (kC s.1.1), .cells 22 [.vec 3 (2 * s.1.2.length)], numsO s.1.2]
def inN (s : InS) : List (Nat × Ob) := [(1, .cells 27 (kC s.1.1)), (2, .cells 22 [.vec 3 (2 * s.1.2.length)]), (3, numsO s.1.2)]
def csI (day : Int) : List AV := frL 51 [(6, .rptr [.c (.int .i64 day)]), (12, .ptr 1 0), (13, .ptr 2 0)]
def amAt (l : List Am) (i : Nat) : Am := l.getD (ordAt l i) default
theorem countI_ok (l : List Am) (known : Int) (hl : l.length ≤ 1000000) (day : Int) (L b : Nat) (mk : LoopState → Option Code → Array Value → Obj) (jmp : Code) (mkE : Array Value → Obj) (st : Nat → InS) (h0 : (st 0).2 = false)
    (hN0 : ∀ i, i < l.length → known < (amAt l i).known → st (i + 1) = st i) (hS : ∀ i, (st i).2 = true → ∀ m, i ≤ m → st m = st i)
    (hY : ∀ i, i < l.length → (amAt l i).known ≤ known → (st i).2 = false →
      DoesR Tryz.prog L [amV (amAt l i)] (.lrec (mk .ready none) b (csI day) :: inO (st i)) (.c (.bool (!(st (i + 1)).2))) (.lrec (if (st (i + 1)).2 = false then mk .ready none else mk .done (some jmp)) b (csI day) :: inO (st (i + 1))))
    (hE : (if (st l.length).2 = false then mk .ready none else mk .done (some jmp)) = mkE) :
    DoesM Tryz.prog 77 [.fn (.yield L) [] [], .rptr [amsV l], .rptr [.c (.int .i64 known)]] (.lrec (mk .ready none) b (csI day) :: inO (st 0)) (.tup []) (.lrec mkE b (csI day) :: inO (st l.length)) := by
  subst hE
  refine DoesM.mk (fun _ => false) 100 TT_ok Tryz.func77 rfl (by kernel_rfl) Tryz.ntmps77 rfl rfl rfl fun E hT hE hN hR => ?_
  have hm := mixO hE
  (repeat (first | refine XK.n ?_ | refine XK.a ?_ | refine XK.b ?_)); refine XK.region ?_; refine XL.g ?_
  refine XL.callKA hE rfl rfl rfl rfl trivial rfl rfl (order_ok l hl) ?_
  refine XL.g ?_; refine XL.fin ?_; (repeat (first | refine XK.n ?_ | refine XK.a ?_ | refine XK.b ?_))
  have hol := ordI_len l
  refine XK.loop (ι := Nat) (fun i => ST.of [(0, .fn (.yield L) [] []), (1, .rptr [amsV l]), (2, .rptr [.c (.int .i64 known)]), (7, intsV (ordI l)), (8, .c (.int .i64 l.length)), (9, .c (.int .i64 i))]
      ((0, .lrec (mk .ready none) b (csI day)) :: inN (st i)) 1000 30 (fun _ => false))
    (fun i => i ≤ l.length ∧ (st i).2 = false) (fun i => l.length - i) 0 ⟨Nat.zero_le _, h0⟩
    (Weak.of hN rfl rfl rfl (by (repeat' (first | exact rfl | exact AvIs.refl _ | exact trivial | exact fun _ _ => rfl | exact fun _ _ => ⟨rfl, AvIs.refl _⟩ | exact cI (by omega) | exact (cI (by omega)) | refine ⟨?_, ?_⟩))) frI) fun i hi => ?_
  obtain ⟨hi, hst⟩ := hi
  (repeat (first | refine XK.n ?_ | refine XK.a ?_ | refine XK.b ?_)); refine XK.cond rfl (fun hlt => ?_) (fun hlt => ?_) <;> (try simp at hlt)
  · have hY := hY i hlt
    have hN0 := hN0 i hlt
    have hor := ordI_at l hlt
    have hop : ordAt l i < l.length := by
      unfold ordAt
      have h1 : i < (ordL l).length := by rw [ordL_len]; exact hlt
      rw [List.getD_eq_getElem?_getD, List.getElem?_eq_getElem h1]
      exact ordL_lt (List.getElem_mem h1)
    have fx : (ordI l).getD (i : Int).toNat default = (ordAt l i : Nat) := hor
    have fa : l.getD ((ordAt l i : Nat) : Int).toNat default = amAt l i := rfl
    (repeat (first | refine XK.n ?_ | refine XK.a ?_ | refine XK.b ?_))
    rw [fx]
    refine XK.drawn hm ?_
    refine XD.goA hT rfl rfl rfl rfl ?_
    rw [fa]
    have hN0 : (decide ((amAt l i).known ≤ known)) = false → st (i + 1) = st i := fun h => hN0 (by simpa using h)
    have hY : (decide ((amAt l i).known ≤ known)) = true → _ := fun h => hY (by simpa using h) hst
    generalize hg : decide ((amAt l i).known ≤ known) = gd at *
    refine XD.yieldMG [0, 1, 2, 3] (.c (.bool false)) hE rfl rfl rfl rfl rfl rfl (fun hgd => ?_) rfl (fun hgd => ?_) (fun hgd => hY hgd) rfl ?_ rfl (fun hgd => ?_) rfl rfl rfl (fun hgd => ?_)
    · subst hgd
      refine XD.goA hT rfl rfl rfl rfl ?_; refine XD.fin (by kernel_rfl) ?_; (repeat (first | refine XK.n ?_ | refine XK.a ?_ | refine XK.b ?_))
      (repeat (first | refine XK.n ?_ | refine XK.a ?_ | refine XK.b ?_)); refine XK.cond rfl (fun hb => ?_) (fun hb => ?_)
      · cases hb
      · (repeat (first | refine XK.n ?_ | refine XK.a ?_ | refine XK.b ?_))
        refine XK.inv ⟨i + 1, ⟨hlt, by rw [hN0 rfl]; exact hst⟩, ?_, by omega⟩
        rw [hN0 rfl]
        exact (Weak.of hN rfl rfl rfl frI frI)
    · simp only [AllP, impG, hgd]; simp
    · (repeat' (first | exact rfl | exact AvIs.refl _ | exact trivial | exact fun _ _ => rfl | exact fun _ _ => ⟨rfl, AvIs.refl _⟩ | refine ⟨?_, ?_⟩))
    · (repeat' (first | exact rfl | exact AvIs.refl _ | exact trivial | exact fun _ _ => rfl | exact fun _ _ => ⟨rfl, AvIs.refl _⟩ | refine ⟨?_, ?_⟩))
    · subst hgd
      refine XD.goA hT rfl rfl rfl rfl ?_; refine XD.fin (by kernel_rfl) ?_; (repeat (first | refine XK.n ?_ | refine XK.a ?_ | refine XK.b ?_))
      (repeat (first | refine XK.n ?_ | refine XK.a ?_ | refine XK.b ?_)); refine XK.cond rfl (fun hb => ?_) (fun hb => ?_)
      · have h7 : (st (i + 1)).2 = true := by simpa using hb
        have hlast := hS (i + 1) h7 l.length hlt
        rw [hlast, h7, if_neg (by simp)]
        (repeat (first | refine XK.n ?_ | refine XK.a ?_ | refine XK.b ?_))
        (first | refine XK.outR [0, 1, 2, 3] hN rfl rfl rfl ?_ rfl rfl ?_ | refine XK.outRN [0, 1, 2, 3] hN rfl rfl rfl ?_ rfl rfl ?_)
        · (repeat' (first | exact rfl | exact AvIs.refl _ | exact trivial | exact fun _ _ => rfl | exact fun _ _ => ⟨rfl, AvIs.refl _⟩ | refine ⟨?_, ?_⟩))
        · (repeat' (first | exact rfl | exact AvIs.refl _ | exact trivial | exact fun _ _ => rfl | exact fun _ _ => ⟨rfl, AvIs.refl _⟩ | refine ⟨?_, ?_⟩))
      · have h7 : (st (i + 1)).2 = false := by simpa using hb
        rw [if_pos h7]
        (repeat (first | refine XK.n ?_ | refine XK.a ?_ | refine XK.b ?_))
        exact XK.inv ⟨i + 1, ⟨hlt, h7⟩, (Weak.of hN rfl rfl rfl frI frI), by omega⟩
  · have hie : i = l.length := by omega
    subst hie
    rw [if_pos hst]
    (repeat (first | refine XK.n ?_ | refine XK.a ?_ | refine XK.b ?_))
    (first | refine XK.outR [0, 1, 2, 3] hN rfl rfl rfl ?_ rfl rfl ?_ | refine XK.outRN [0, 1, 2, 3] hN rfl rfl rfl ?_ rfl rfl ?_)
    · (repeat' (first | exact rfl | exact AvIs.refl _ | exact trivial | exact fun _ _ => rfl | exact fun _ _ => ⟨rfl, AvIs.refl _⟩ | refine ⟨?_, ?_⟩))
    · (repeat' (first | exact rfl | exact AvIs.refl _ | exact trivial | exact fun _ _ => rfl | exact fun _ _ => ⟨rfl, AvIs.refl _⟩ | refine ⟨?_, ?_⟩))
end Go.Proofs.YtlhmgphgnedlkaaGreat
end
section
/- Contracts: package version: InForce. -/
namespace Go.Proofs.YtlhmgphgnedlkaaGreat
open Go.Eng
set_option maxRecDepth 10000
noncomputable def stepA (s : K × List Int) (a : Am) : K × List Int := if (applyR s.1 a.patch).2 = 0 then ((applyR s.1 a.patch).1, s.2 ++ [a.number]) else s
noncomputable def stI (l : List Am) (k : K) (day known : Int) : Nat → InS
  | 0 => ((k, []), false)
  | i + 1 => if (stI l k day known i).2 = true then stI l k day known i else if known < (amAt l i).known then stI l k day known i else if day < (amAt l i).day then ((stI l k day known i).1, true) else (stepA (stI l k day known i).1 (amAt l i), false)
noncomputable def inForceR (k : K) (l : List Am) (day known : Int) : (K × List Int) × Int := if checkV k l ≠ 0 then ((zeroK, []), checkV k l) else ((stI l k day known l.length).1, 0)
def amOk (a : Am) : Prop := amW a ∧ a.patch.clauses.length ≤ 1000000 ∧ a.patch.new.start.length ≤ 1000000
def amsOk (l : List Am) : Prop := ∀ a ∈ l, amOk a
theorem amAt_mem {l : List Am} {i : Nat} (hi : i < l.length) : amAt l i ∈ l := by
  have h1 : i < (ordL l).length := by rw [ordL_len]; exact hi
  have h2 : ordAt l i < l.length := by
    unfold ordAt
    rw [List.getD_eq_getElem?_getD, List.getElem?_eq_getElem h1]
    exact ordL_lt (List.getElem_mem h1)
  unfold amAt
  rw [List.getD_eq_getElem?_getD, List.getElem?_eq_getElem h2]
  exact List.getElem_mem h2
theorem stI_stop {l : List Am} {k : K} {day known : Int} {i : Nat} (h : (stI l k day known i).2 = true) : ∀ m, i ≤ m → stI l k day known m = stI l k day known i := by
  intro m hm
  induction m with
  | zero => have : i = 0 := by omega
            rw [this]
  | succ m ih =>
    by_cases h1 : i = m + 1
    · rw [h1]
    · have h2 := ih (by omega)
      rw [stI, if_pos (by rw [h2]; exact h), h2]
theorem stepA_W {s : K × List Int} (h : kW s.1) {a : Am} (ha : amOk a) : kW (stepA s a).1 := by
  unfold stepA
  split
  · exact applyR_W h ha.1.2.2.2
  · exact h
theorem stI_W {l : List Am} (hl : amsOk l) {k : K} (hk : kW k) {day known : Int} : ∀ i, i ≤ l.length → kW (stI l k day known i).1.1
  | 0, _ => hk
  | i + 1, hi => by
    have ih := stI_W hl hk (day := day) (known := known) i (by omega)
    rw [stI]
    split
    · exact ih
    · split
      · exact ih
      · split
        · exact ih
        · exact stepA_W ih (hl _ (amAt_mem (by omega)))
theorem stI_len (l : List Am) (k : K) (day known : Int) : ∀ i, (stI l k day known i).1.2.length ≤ i
  | 0 => Nat.le_refl _
  | i + 1 => by
    have ih := stI_len l k day known i
    rw [stI]
    split
    · omega
    · split
      · omega
      · split
        · show (stI l k day known i).1.2.length ≤ _; omega
        · show (stepA _ _).2.length ≤ _
          unfold stepA
          split
          · simp; omega
          · omega
theorem ints_appV (L : List Int) (x : Int) (h : Nat → List AV) (hx : h 0 = [.c (.int .i64 x)]) : ∀ j, j < L.length + 1 → [AV.c (.int .i64 ((L ++ [x]).getD j default))] = catF L.length (fun i => [AV.c (.int .i64 (L.getD i default))]) h j := by
  intro j hj
  unfold catF
  by_cases h1 : j < L.length
  · have : Nat.blt j L.length = true := by simpa using h1
    rw [this, cond_true]
    simp [List.getD, List.getElem?_append_left h1]
  · have : Nat.blt j L.length = false := by
      cases hb : Nat.blt j L.length with
      | false => rfl
      | true => simp at hb; exact absurd hb h1
    have e : j = L.length := by omega
    rw [this, cond_false, e, Nat.sub_self, hx]
    simp [List.getD]
theorem inForce_ok0 (k : K) (hk : kW k) (l : List Am) (hl : amsOk l) (day known : Int) : Does Tryz.prog 22 [kV k, amsV l, .c (.int .i64 day), .c (.int .i64 known)] (.tup [kE ((inForceR k l day known).1.1, (inForceR k l day known).2), intsV (inForceR k l day known).1.2, .c (.int .i64 (inForceR k l day known).2)]) := by
  refine Does.mk (fun _ => false) TT_ok Tryz.func22 rfl (by kernel_rfl) Tryz.ntmps22 rfl rfl fun E hT hE hN hR => ?_
  have hm := mixO hE
  (repeat (first | refine XK.n ?_ | refine XK.a ?_ | refine XK.b ?_)); refine XK.region ?_; refine XL.g ?_
  refine XL.callLA hE rfl rfl rfl rfl trivial rfl (checkV_ok k hk l) rfl ?_
  refine XL.g ?_; refine XL.fin ?_; (repeat (first | refine XK.n ?_ | refine XK.a ?_ | refine XK.b ?_))
  (repeat (first | refine XK.n ?_ | refine XK.a ?_ | refine XK.b ?_)); refine XK.cond rfl (fun h1 => ?_) (fun h1 => ?_) <;> (try simp at h1)
  · (repeat (first | refine XK.n ?_ | refine XK.a ?_ | refine XK.b ?_))
    (first | refine XK.outL rfl rfl rfl ?_ | refine XK.outLN rfl rfl rfl ?_)
    rw [inForceR, if_pos h1]
    unfold kE
    rw [if_neg h1]
    exact ⟨rfl, ⟨rfl, rfl⟩, rfl⟩
  have hv : (kValid k).1 = 0 := by
    by_cases h : (kValid k).1 = 0
    · exact h
    · rw [checkV, if_pos h] at h1; cases h1
  have hll : l.length ≤ 60 := by
    by_cases h : 60 < l.length
    · rw [checkV, if_neg (by simpa using hv), if_pos h] at h1; cases h1
    · omega
  rw [inForceR, if_neg (by rw [h1]; simp)]
  (repeat (first | refine XK.n ?_ | refine XK.a ?_ | refine XK.b ?_)); refine XK.region ?_; refine XL.g ?_
  refine XL.callKA hE rfl rfl rfl rfl trivial rfl rfl (copied_ok k hv hk) ?_
  refine XL.g ?_; refine XL.fin ?_; (repeat (first | refine XK.n ?_ | refine XK.a ?_ | refine XK.b ?_))
  (repeat (first | refine XK.n ?_ | refine XK.a ?_ | refine XK.b ?_)); refine XK.region ?_; refine XL.g ?_
  refine XL.callKA hE rfl rfl rfl rfl trivial rfl rfl (counting_ok l known) ?_
  refine XL.g ?_; refine XL.fin ?_; (repeat (first | refine XK.n ?_ | refine XK.a ?_ | refine XK.b ?_))
  generalize hsE : stI l k day known l.length = sE
  have hsE : sE = stI l k day known l.length := hsE.symm
  refine XK.weak (Weak.trans (Weak.frozenC (k := 6) hN rfl rfl rfl) (Weak.trans (Weak.ghostC (c := 217) (k := 218) (e := 3) (sz := 1) (f := fun _ => []) rfl rfl rfl)
    (Weak.of (L := [(6, .rptr [.c (.int .i64 day)]), (8, .ptr 8 0), (12, .ptr 165 0), (13, .ptr 217 0), (28, (.fn (.func 77) [] [.rptr [amsV l], .rptr [.c (.int .i64 known)]]))])
      (O := [(165, .cells 27 (kC k)), (217, .cells 22 [.vec 218 0]), (218, numsO []), (8, .cells 27 [.c (.int .i64 0), .c (.slice none 0 0), .c (.slice none 0 0), .c (.slice none 0 0), .c (.slice none 0 0), .c (.int .i64 0), .c (.slice none 0 0)])]) (nx := 2000) (nt := 51) (md := fun _ => false) hN rfl rfl rfl frI (by (repeat' (first | exact rfl | exact AvIs.refl _ | exact trivial | exact fun _ _ => rfl | exact fun _ _ => ⟨rfl, AvIs.refl _⟩ | exact cI (by omega) | exact (fun i hi => absurd hi (Nat.not_lt_zero _)) | refine ⟨?_, ?_⟩)))))) ?_
  refine XK.rangeFunc 900 [165, 217, 218] (frL 51 [(6, .rptr [.c (.int .i64 day)]), (12, .ptr 165 0), (13, .ptr 217 0)])
    (ST.of [(8, .ptr 8 0), (12, .ptr 165 0), (13, .ptr 217 0)] [(165, .cells 27 (kC sE.1.1)), (217, .cells 22 [.vec 218 (2 * sE.1.2.length)]), (218, numsO sE.1.2), (8, .cells 27 [.c (.int .i64 0), .c (.slice none 0 0), .c (.slice none 0 0), .c (.slice none 0 0), .c (.slice none 0 0), .c (.int .i64 0), .c (.slice none 0 0)])] 3000 51 (fun _ => false))
    (res := .tup []) (args' := [.rptr [amsV l], .rptr [.c (.int .i64 known)]]) (s := if sE.2 = false then .ready else .done) (pend := if sE.2 = false then none else some (.exit 0)) (O' := inO sE) (O := inO ((k, []), false)) hR rfl trivial rfl (frL_length _ _) (frL_is frI) (fun L D fn => ?_) rfl frI rfl rfl frI rfl rfl (by split <;> simp) (fun L D fn cs => (Weak.of hN rfl rfl rfl frI frI)) ?_
  · rw [hsE, hE]
    refine countI_ok l known (by omega) day L L (recOf fn _ _ _ D) (.exit 0) _ (stI l k day known) rfl (fun i hi h => ?_) (fun i h m hm => stI_stop h m hm) (fun i hi hkn h0 => ?_) ?_
    · rw [stI]
      split
      · rfl
      · rfl
    rotate_left
    · split <;> rfl
    have hst : stI l k day known (i + 1) = if day < (amAt l i).day then ((stI l k day known i).1, true) else (stepA (stI l k day known i).1 (amAt l i), false) := by
      rw [stI, if_neg (by rw [h0]; simp), if_neg (by omega)]
    have hW := stI_W hl hk (day := day) (known := known) i (by omega)
    have hlen := stI_len l k day known i
    have hao := hl _ (amAt_mem hi)
    rw [hst]
    generalize stI l k day known i = s at *
    generalize amAt l i = a at *
    obtain ⟨⟨now, nums⟩, ov⟩ := s
    simp only at h0 hlen hW
    subst h0
    clear hsE hst
    refine DoesR.mkT TT_ok (fun _ => false) 100 (ST.of [(6, .rptr [.c (.int .i64 day)]), (12, .ptr 1 0), (13, .ptr 2 0), (14, .ptr 114 0)]
      ((0, .lrec (recOf fn _ _ _ D .ready none) L (csI day)) :: inN ((now, nums), false) ++ [(114, .cells 68 (amC a))]) 1000 51 (fun _ => false)) rfl ?_ (Nat.le_refl 3) (fun E hT hE hN hR => ?_) rfl (fun E hT hE hN hR => ?_)
    · intro x hx
      simp only [List.mem_toArray, List.mem_singleton] at hx
      subst hx
      show 29 < (frL 51 _).length
      rw [frL_length]
      omega
    · have hm := mixO hE
      (repeat (first | refine XK.n ?_ | refine XK.a ?_ | refine XK.b ?_))
      exact XK.nil ⟨rfl, (Weak.of hN rfl rfl rfl frI frI)⟩
    · have hm := mixO hE
      (repeat (first | refine XK.n ?_ | refine XK.a ?_ | refine XK.b ?_)); refine XK.cond rfl (fun h6 => ?_) (fun h6 => ?_) <;> (try simp at h6)
      · rw [if_pos h6]
        (repeat (first | refine XK.n ?_ | refine XK.a ?_ | refine XK.b ?_))
        refine XK.exitQ ?_
        (refine XK.outX [0, 1, 2, 3] hN rfl rfl rfl ?_ ?_ ?_)
        · (repeat' (first | exact rfl | exact AvIs.refl _ | exact trivial | exact fun _ _ => rfl | exact fun _ _ => ⟨rfl, AvIs.refl _⟩ | refine ⟨?_, ?_⟩))
        · rfl
        · rfl
      · rw [if_neg (by omega)]
        have ap := apply_ok now hW a.patch hao.1.2.2.2 hao.2.1 hao.2.2
        (repeat (first | refine XK.n ?_ | refine XK.a ?_ | refine XK.b ?_)); refine XK.region ?_; refine XL.g ?_
        refine XL.callKA hE rfl rfl rfl rfl trivial rfl rfl (ap) ?_
        refine XL.g ?_; refine XL.fin ?_; (repeat (first | refine XK.n ?_ | refine XK.a ?_ | refine XK.b ?_))
        have hsa : stepA (now, nums) a = if (applyR now a.patch).2 = 0 then ((applyR now a.patch).1, nums ++ [a.number]) else (now, nums) := rfl
        rw [hsa]
        generalize applyR now a.patch = r at *
        (repeat (first | refine XK.n ?_ | refine XK.a ?_ | refine XK.b ?_)); refine XK.cond rfl (fun h7 => ?_) (fun h7 => ?_) <;> (try simp at h7)
        · rw [if_pos h7]
          refine XK.weak (Weak.trans (Weak.steal 500 (k := 3) (s := 2 * nums.length) (f' := fun _ => []) hN rfl rfl rfl) (Weak.of (L := [(12, .ptr 1 0), (13, .ptr 2 0), (14, .ptr 114 0), (15, .ptr 1066 0)])
            (O := [(0, .lrec (recOf fn _ _ _ D .busy none) L (csI day)), (1, .cells 27 (kC now)), (2, .cells 22 [.vec 500 0]), (3, .vec 3 1 (2 * nums.length + 1) 0 (fun _ => [])),
              (500, .vec 3 1 0 nums.length (fun i => [.c (.int .i64 (nums.getD i default))])), (114, .cells 68 (amC a)), (1066, .cells 27 (kC r.1))]) (nx := 3000) (nt := 51) (md := fun _ => false) hN rfl rfl rfl frI ⟨⟨rfl, rfl, rfl⟩, frI, ⟨rfl, congrArg (fun x => [x]) (stealG_self 3 (2 * nums.length) 500)⟩, frI, frI, frI, frI⟩)) ?_
          (repeat (first | refine XK.n ?_ | refine XK.a ?_ | refine XK.b ?_))
          refine XK.nilY (Weak.give (k := 3) (q := 500) (2 * (nums.length + 1)) hN rfl rfl rfl rfl (by show 2 * nums.length + 1 < _; omega)) ?_
          (first | refine XK.outY [0, 1, 2, 3] hN rfl rfl rfl ?_ ?_ ?_ | refine XK.outYN [0, 1, 2, 3] hN rfl rfl rfl ?_ ?_ ?_)
          · exact ⟨⟨rfl, rfl, rfl⟩, frI, ⟨rfl, by simp⟩, ⟨rfl, rfl, by simp⟩, by simp, ints_appV nums a.number _ rfl⟩
          · rfl
          · rfl
        · rw [if_neg h7]
          (repeat (first | refine XK.n ?_ | refine XK.a ?_ | refine XK.b ?_))
          (first | refine XK.outY [0, 1, 2, 3] hN rfl rfl rfl ?_ ?_ ?_ | refine XK.outYN [0, 1, 2, 3] hN rfl rfl rfl ?_ ?_ ?_)
          · (repeat' (first | exact rfl | exact AvIs.refl _ | exact trivial | exact fun _ _ => rfl | exact fun _ _ => ⟨rfl, AvIs.refl _⟩ | refine ⟨?_, ?_⟩))
          · rfl
          · rfl
  · have hkE : kE (sE.1.1, (0 : Int)) = kV sE.1.1 := if_pos rfl
    rw [hkE]
    refine (show ∀ kk, kk = sE.2 → _ from fun kk hkk => ?_) sE.2 rfl
    cases kk with
    | false =>
      rw [if_pos hkk.symm]
      refine XK.weak (Weak.trans (Weak.stamp (k := 218) (t := 0) hN rfl rfl) (Weak.trans (Weak.of (L := [(8, .ptr 8 0), (12, .ptr 165 0), (13, .ptr 217 0)])
        (O := [(217, .cells 22 [.vec 218 0]), (218, .vec 3 1 0 sE.1.2.length (fun i => [.c (.int .i64 (sE.1.2.getD i default))])), (165, .cells 27 (kC sE.1.1)), (8, .cells 27 [.c (.int .i64 0), .c (.slice none 0 0), .c (.slice none 0 0), .c (.slice none 0 0), .c (.slice none 0 0), .c (.int .i64 0), .c (.slice none 0 0)])]) (nx := 4000) (nt := 51) (md := fun _ => false) hN rfl rfl rfl frI ⟨⟨rfl, congrArg (fun x => [x]) (stampG_self 218 (2 * sE.1.2.length) 0)⟩, frI, frI, frI⟩)
        (Weak.trans (Weak.frozen (k := 218) hN rfl rfl) (Weak.of (L := [(8, .ptr 8 0), (12, .ptr 165 0), (13, .ptr 217 0)])
          (O := [(217, .cells 22 [intsV sE.1.2]), (165, .cells 27 (kC sE.1.1)), (8, .cells 27 [.c (.int .i64 0), .c (.slice none 0 0), .c (.slice none 0 0), .c (.slice none 0 0), .c (.slice none 0 0), .c (.int .i64 0), .c (.slice none 0 0)])]) (nx := 4000) (nt := 51) (md := fun _ => false) hN rfl rfl rfl frI frI)))) ?_
      (repeat (first | refine XK.n ?_ | refine XK.a ?_ | refine XK.b ?_))
      (first | refine XK.out rfl rfl rfl ?_ | refine XK.outN rfl rfl rfl ?_)
      rfl
    | true =>
      rw [if_neg (by rw [← hkk]; simp)]
      refine XK.exit rfl ?_
      refine XK.weak (Weak.trans (Weak.stamp (k := 218) (t := 0) hN rfl rfl) (Weak.trans (Weak.of (L := [(8, .ptr 8 0), (12, .ptr 165 0), (13, .ptr 217 0)])
        (O := [(217, .cells 22 [.vec 218 0]), (218, .vec 3 1 0 sE.1.2.length (fun i => [.c (.int .i64 (sE.1.2.getD i default))])), (165, .cells 27 (kC sE.1.1)), (8, .cells 27 [.c (.int .i64 0), .c (.slice none 0 0), .c (.slice none 0 0), .c (.slice none 0 0), .c (.slice none 0 0), .c (.int .i64 0), .c (.slice none 0 0)])]) (nx := 4000) (nt := 51) (md := fun _ => false) hN rfl rfl rfl frI ⟨⟨rfl, congrArg (fun x => [x]) (stampG_self 218 (2 * sE.1.2.length) 0)⟩, frI, frI, frI⟩)
        (Weak.trans (Weak.frozen (k := 218) hN rfl rfl) (Weak.of (L := [(8, .ptr 8 0), (12, .ptr 165 0), (13, .ptr 217 0)])
          (O := [(217, .cells 22 [intsV sE.1.2]), (165, .cells 27 (kC sE.1.1)), (8, .cells 27 [.c (.int .i64 0), .c (.slice none 0 0), .c (.slice none 0 0), .c (.slice none 0 0), .c (.slice none 0 0), .c (.int .i64 0), .c (.slice none 0 0)])]) (nx := 4000) (nt := 51) (md := fun _ => false) hN rfl rfl rfl frI frI)))) ?_
      (repeat (first | refine XK.n ?_ | refine XK.a ?_ | refine XK.b ?_))
      (first | refine XK.out rfl rfl rfl ?_ | refine XK.outN rfl rfl rfl ?_)
      rfl
theorem inForceR_err {k : K} {l : List Am} {day known : Int} (h : (inForceR k l day known).2 ≠ 0) : (inForceR k l day known).1 = (zeroK, []) := by
  unfold inForceR at h ⊢
  split
  · rfl
  · rename_i h1; rw [if_neg h1] at h; exact absurd rfl h
theorem inForce_ok (k : K) (hk : kW k) (l : List Am) (hl : amsOk l) (day known : Int) : Does Tryz.prog 22 [kV k, amsV l, .c (.int .i64 day), .c (.int .i64 known)] (.tup [kV (inForceR k l day known).1.1, intsV (inForceR k l day known).1.2, .c (.int .i64 (inForceR k l day known).2)]) :=
  (inForce_ok0 k hk l hl day known).weaken (AvS.tupS ⟨kE_is (fun h => by rw [inForceR_err h]), AvS.refl _, AvS.refl _, trivial⟩)
theorem ordAt_get {l : List Am} {i : Nat} (hi : i < l.length) : ∃ h : i < (ordL l).length, ordAt l i = (ordL l)[i] := by
  have h1 : i < (ordL l).length := by rw [ordL_len]; exact hi
  refine ⟨h1, ?_⟩
  unfold ordAt
  rw [List.getD_eq_getElem?_getD, List.getElem?_eq_getElem h1]
  rfl
end Go.Proofs.YtlhmgphgnedlkaaGreat
end
section
/- Plain laws of the contract in force. -/
namespace Go.Proofs.YtlhmgphgnedlkaaGreat
open Go.Eng
set_option maxRecDepth 10000
noncomputable def inF (day known : Int) : K × List Int → List Am → K × List Int
  | s, [] => s
  | s, a :: l => if known < a.known then inF day known s l else if day < a.day then s else inF day known (stepA s a) l
theorem seqA_len (l : List Am) : (seqA l).length = l.length := by rw [seqA, List.length_map, ordL_len]
theorem seqA_at (l : List Am) {i : Nat} (hi : i < l.length) : (seqA l)[i]? = some (amAt l i) := by
  obtain ⟨h, e⟩ := ordAt_get hi
  rw [seqA, List.getElem?_map, List.getElem?_eq_getElem h, Option.map_some, ← e]
  rfl
theorem seqA_drop (l : List Am) {i : Nat} (hi : i < l.length) : (seqA l).drop i = amAt l i :: (seqA l).drop (i + 1) := by
  have h : i < (seqA l).length := by rw [seqA_len]; exact hi
  rw [List.drop_eq_getElem_cons h]
  have := seqA_at l hi
  rw [List.getElem?_eq_getElem h] at this
  injection this with this
  rw [this]
theorem stI_fold (l : List Am) (k : K) (day known : Int) : ∀ i, i ≤ l.length → (if (stI l k day known i).2 = true then (stI l k day known i).1 else inF day known (stI l k day known i).1 ((seqA l).drop i)) = inF day known (k, []) (seqA l)
  | 0, _ => by simp [stI]
  | i + 1, hi => by
    have ih := stI_fold l k day known i (by omega)
    rw [← ih]
    rw [stI]
    by_cases h1 : (stI l k day known i).2 = true
    · rw [if_pos h1, if_pos h1, if_pos h1]
    · rw [if_neg h1, if_neg h1, seqA_drop l (show i < l.length by omega), inF]
      by_cases h2 : known < (amAt l i).known
      · rw [if_pos h2, if_pos h2, if_neg h1]
      · rw [if_neg h2, if_neg h2]
        by_cases h3 : day < (amAt l i).day
        · rw [if_pos h3, if_pos h3]; rfl
        · rw [if_neg h3, if_neg h3]; rfl
theorem inForceR_seq (k : K) (l : List Am) (day known : Int) : inForceR k l day known = if checkV k l ≠ 0 then ((zeroK, []), checkV k l) else (inF day known (k, []) (seqA l), 0) := by
  have h := stI_fold l k day known l.length (Nat.le_refl _)
  rw [List.drop_eq_nil_of_le (by rw [seqA_len]; exact Nat.le_refl _)] at h
  have h' : (stI l k day known l.length).1 = inF day known (k, []) (seqA l) := by
    rw [← h]; split <;> rfl
  unfold inForceR
  rw [h']
def counts (day known : Int) (a : Am) : Bool := decide (a.known ≤ known) && decide (a.day ≤ day)
theorem dnLe_day {a b : Am} (h : dnLe a b = true) : a.day ≤ b.day := by
  simp only [dnLe, Bool.or_eq_true, Bool.and_eq_true, decide_eq_true_eq, beq_iff_eq] at h; omega
theorem inF_eq {day known : Int} : ∀ {l : List Am} {s : K × List Int}, l.Pairwise (fun a b => a.day ≤ b.day) → inF day known s l = (l.filter (counts day known)).foldl stepA s
  | [], s, _ => rfl
  | a :: l, s, h => by
    obtain ⟨h1, h2⟩ := List.pairwise_cons.1 h
    rw [inF]
    by_cases hk : known < a.known
    · rw [if_pos hk, inF_eq h2, List.filter_cons_of_neg]
      simp only [counts, Bool.and_eq_true, decide_eq_true_eq]; omega
    · rw [if_neg hk]
      by_cases hd : day < a.day
      · rw [if_pos hd, List.filter_cons_of_neg (by simp only [counts, Bool.and_eq_true, decide_eq_true_eq]; omega)]
        have : l.filter (counts day known) = [] := List.filter_eq_nil_iff.2 fun b hb => by
          have := h1 b hb
          simp only [counts, Bool.and_eq_true, decide_eq_true_eq]; omega
        rw [this]; rfl
      · rw [if_neg hd, inF_eq h2, List.filter_cons_of_pos (by simp only [counts, Bool.and_eq_true, decide_eq_true_eq]; omega)]
        rfl
theorem seqA_days (l : List Am) : (seqA l).Pairwise (fun a b => a.day ≤ b.day) := (seqA_sorted l).imp dnLe_day
noncomputable def forceF (k : K) (l : List Am) (day known : Int) : K × List Int := ((seqA l).filter (counts day known)).foldl stepA (k, [])
theorem inForceR_eq (k : K) (l : List Am) (day known : Int) : inForceR k l day known = if checkV k l ≠ 0 then ((zeroK, []), checkV k l) else (forceF k l day known, 0) := by
  rw [inForceR_seq, inF_eq (seqA_days l)]; rfl
end Go.Proofs.YtlhmgphgnedlkaaGreat
end
