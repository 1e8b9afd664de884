import Derived.Test.YtlhmgphgnedlkaaGreatZz13
import Derived.Test.YtlhmgphgnedlkaaGreatZz23
import Derived.Test.YtlhmgphgnedlkaaGreatZz21
import Derived.Test.YtlhmgphgnedlkaaGreatZz22
set_option linter.unusedSimpArgs false
set_option linter.unusedVariables false
section
/- Contracts: package merge: conflict. -/
namespace Go.Proofs.YtlhmgphgnedlkaaGreat
open Go.Eng
set_option maxRecDepth 10000
theorem PV_small {k : K} {p : Pt} {m : Nat} (hm : m ≤ 400) (h : PV k p m) : (∀ x ∈ p.clauses, smI x) ∧ (∀ x ∈ p.new.start, smI x.clause) := by
  obtain ⟨⟨e, he, hf⟩, p1, p2⟩ := h
  have hf' := hf
  unfold fitsB at hf
  simp only [Bool.and_eq_true] at hf
  refine ⟨fun x hx => ?_, fun s hs => ?_⟩
  · have := incB_facts hf.1.1.2 x hx
    unfold smI
    omega
  · by_cases h1 : p.kind = 1
    · have := refB_iff.1 (refsB_iff.1 (p1 h1).2.2 s hs)
      unfold smI
      omega
    · by_cases h2 : p.kind = 2
      · have := refB_iff.1 (refsB_iff.1 (p2 h2).2 s hs)
        unfold smI
        omega
      · have hz := hf.1.2
        rw [Bool.or_eq_true] at hz
        have he : e.renewed = false := by
          unfold efOf at he
          rw [if_neg h1, if_neg h2] at he
          split at he
          · injection he with he; rw [← he]
          · split at he
            · injection he with he; rw [← he]
            · split at he
              · injection he with he; rw [← he]
              · cases he
        rcases hz with hz | hz
        · rw [he] at hz; cases hz
        · rw [zeroCl_start hz] at hs; cases hs
def ptS (p : Pt) : Prop := (∀ x ∈ p.clauses, smI x) ∧ (∀ x ∈ p.new.start, smI x.clause)
theorem shI_i64 {n d x : Int} (hd : 0 ≤ d ∧ d ≤ 1000000) (h : smI x) : inK .i64 (shI n d x) := by
  obtain ⟨h1, h2⟩ := h
  show -9223372036854775808 ≤ shI n d x ∧ shI n d x ≤ 9223372036854775807
  unfold shI
  split <;> omega
theorem renOk {p : Pt} {n d : Int} (h : ptOk p) (hs : ptS p) (hd : 0 ≤ d ∧ d ≤ 1000000) : ptOk (renR p n d) := by
  obtain ⟨⟨a1, a2, a3, a4⟩, b1, b2⟩ := h
  refine ⟨⟨a1, ?_, ?_, a4⟩, by simpa [renR] using b1, by simpa [renR, shCl] using b2⟩
  · intro z hz
    obtain ⟨x, hx, rfl⟩ := List.mem_map.1 hz
    exact shI_i64 hd (hs.1 x hx)
  · have hst : ∀ s ∈ p.new.start.map (shC n d), cndW s := by
      intro s hs'
      obtain ⟨t, ht, rfl⟩ := List.mem_map.1 hs'
      obtain ⟨c1, c2, c3, c4, c5, -⟩ := a3
      exact ⟨shI_i64 hd (hs.2 t ht), (c5 t ht).2⟩
    obtain ⟨c1, c2, c3, c4, c5, c6⟩ := a3
    exact ⟨c1, c2, c3, c4, hst, c6⟩
def rgtL (right : List Pt) (n a : Nat) : List Pt := right.map (fun q => renR q n a)
theorem rgtL_at {right : List Pt} {n a j : Nat} (h : j < right.length) : (rgtL right n a).getD j default = renR (right.getD j default) n a := map_at _ h
theorem rgtL_len (right : List Pt) (n a : Nat) : (rgtL right n a).length = right.length := List.length_map _
noncomputable def prsR (k : K) (left right : List Pt) (i j : Nat) : K := (allTo (allTo k left i).1 (rgtL right k.clauses.length (addsN left i)) j).1
noncomputable def confB (k : K) (left right : List Pt) (i j : Nat) : Bool := commR (prsR k left right i j) (left.getD i default) (renR (right.getD j default) k.clauses.length (addsN left i))
noncomputable def confI (k : K) (left right : List Pt) (i : Nat) : Option (Nat × Nat) := ((List.range right.length).find? (fun j => !confB k left right i j)).map (fun j => (i, j))
noncomputable def confR (k : K) (left right : List Pt) : Option (Nat × Nat) := (List.range left.length).findSome? (confI k left right)
theorem confI_none {k : K} {left right : List Pt} {i : Nat} (h : ∀ j, j < right.length → confB k left right i j = true) : confI k left right i = none := by
  unfold confI
  rw [List.find?_eq_none.2]
  · rfl
  · intro j hj
    rw [h j (List.mem_range.1 hj)]
    simp
theorem confI_some {k : K} {left right : List Pt} {i j : Nat} (hj : j < right.length) (h : ∀ j', j' < j → confB k left right i j' = true) (h2 : confB k left right i j = false) : confI k left right i = some (i, j) := by
  unfold confI
  rw [find_range hj (by rw [h2]; rfl) (fun j' hj' => by rw [h j' hj']; rfl)]
  rfl
theorem findSome_range {α : Type} {f : Nat → Option α} {x : α} : ∀ {n i : Nat}, i < n → (∀ j, j < i → f j = none) → f i = some x → (List.range n).findSome? f = some x := by
  intro n i hi h1 h2
  have e : n = i + (1 + (n - i - 1)) := by omega
  rw [e, List.range_add, List.findSome?_append, List.findSome?_eq_none_iff.2 fun j hj => h1 j (List.mem_range.1 hj), List.range_add]
  simp [h2]
theorem confR_some {k : K} {left right : List Pt} {i j : Nat} (hi : i < left.length) (hb : ∀ i', i' < i → ∀ j, j < right.length → confB k left right i' j = true) (h : confI k left right i = some (i, j)) : confR k left right = some (i, j) :=
  findSome_range hi (fun i' hi' => confI_none (hb i' hi')) h
theorem confR_none {k : K} {left right : List Pt} (hb : ∀ i', i' < left.length → ∀ j, j < right.length → confB k left right i' j = true) : confR k left right = none := by
  unfold confR
  exact List.findSome?_eq_none_iff.2 fun i hi => confI_none (hb i (List.mem_range.1 hi))
theorem comm_next {k : K} {p q : Pt} (h : commR k p q = true) : (applyR k q).2 = 0 := by
  unfold commR at h
  split at h
  · cases h
  · split at h
    · cases h
    · rename_i h2
      have h2 : (allTo k [q, p] 2).2 = 0 := by simpa using h2
      have h1 := allTo_before h2 (show 1 ≤ 2 by omega)
      rw [allTo, if_neg (by simp [allTo])] at h1
      exact h1
def oneV (p : Pt) : AV := .rs 19 1 (rowOf (ptC p) 19)
theorem one_is (p : Pt) : AvS (oneV p) (ptsV [p]) := AvS.rs (fun i hi => by cases Nat.lt_one_iff.1 hi; exact AvSL.refl _)
theorem oneOk {p : Pt} (hp : ptOk p) : ptsOk [p] := fun x hx => by
  have h : x = p := by simpa using hx
  rw [h]; exact hp
theorem applied1_ok (k : K) (hk : kW k) (p : Pt) (hp : ptOk p) : Does Tryz.prog 44 [kV k, oneV p] (.tup [kV (applyR k p).1, .c (.int .i64 (applyR k p).2)]) := by
  have c := (applied_ok k hk [p] (oneOk hp) (by simp)).argS (args' := [kV k, oneV p]) ⟨AvS.refl _, one_is p, trivial⟩
  have e : allTo k [p] [p].length = applyR k p := by
    show allTo k [p] (0 + 1) = _
    rw [allTo, if_neg (by simp [allTo])]
    rfl
  rwa [e] at c
theorem added_take (l : List Pt) (i : Nat) (hi : i ≤ l.length) (hl : l.length ≤ 1000000) : Does Tryz.prog 29 [.rs 19 i (fun j => ptC (l.getD j default))] (.c (.int .i64 (addsN l i))) := by
  have hlen : (l.take i).length = i := by rw [List.length_take]; omega
  have c := added_ok (l.take i) (by omega)
  have e : addsN (l.take i) (l.take i).length = addsN l i := by
    unfold addsN
    rw [List.take_length]
  rw [e] at c
  refine c.argS (args' := [.rs 19 i (fun j => ptC (l.getD j default))]) ⟨?_, trivial⟩
  show AvS _ (.rs 19 (l.take i).length _)
  rw [hlen]
  refine AvS.rs fun j hj => ?_
  have : (l.take i).getD j default = l.getD j default := by simp [List.getD, List.getElem?_take, hj]
  rw [this]
  exact AvSL.refl _
theorem prsR_W {k : K} (hk : kW k) {left right : List Pt} (hl : ptsOk left) (hr : ptsOk right) (hs : ∀ q ∈ right, ptS q) (hn : left.length ≤ 1000000) {i j : Nat} (hi : i ≤ left.length) (hj : j ≤ right.length) : kW (prsR k left right i j) := by
  refine allTo_W (allTo_W hk (fun p hp => (hl p hp).1) hi) (fun p hp => ?_) (by rw [rgtL_len]; exact hj)
  obtain ⟨q, hq, rfl⟩ := List.mem_map.1 hp
  have := addsN_le left i
  exact (renOk (hr q hq) (hs q hq) ⟨by omega, by omega⟩).1
set_option maxHeartbeats 2000000 in
theorem conflict_ok (k : K) (hk : kW k) (left right : List Pt) (hl : ptsOk left) (hr : ptsOk right) (hs : ∀ q ∈ right, ptS q) (hn : left.length ≤ 1000000) (hn2 : right.length ≤ 1000000) (ho : (allTo k left left.length).2 = 0) (hc : k.clauses.length ≤ 400) :
    Does Tryz.prog 30 [kV k, ptsV left, ptsV right] (.tup [(match confR k left right with | some (i, j) => .agg [.c (.int .i64 i), .c (.int .i64 j)] | none => .agg [.c (.int .i64 0), .c (.int .i64 0)]), .c (.bool (confR k left right).isSome)]) := by
  refine Does.mk (fun _ => false) TT_ok Tryz.func30 rfl (by kernel_rfl) Tryz.ntmps30 rfl rfl fun E hT hE hN hR => ?_
  have hm := mixO hE
  (repeat (first | refine XK.n ?_ | refine XK.a ?_ | refine XK.b ?_))
  refine XK.loop (ι := Nat) (fun i => ST.of [(1, ptsV left), (2, ptsV right), (6, .vptr 6 0 1 0 0), (8, .c (.int .i64 k.clauses.length)), (9, .ptr 165 0), (24, ptsV left), (25, .c (.int .i64 left.length)), (26, .c (.int .i64 i))] [(6, .vec 31 1 0 2 (fun _ => [.c (.int .i64 0)])), (165, .cells 27 (kC (allTo k left i).1))] 1000 78 (fun _ => false))
    (fun i => i ≤ left.length ∧ ∀ i', i' < i → ∀ j, j < right.length → confB k left right i' j = true) (fun i => left.length - i) 0 ⟨Nat.zero_le _, fun i' hi' => absurd hi' (Nat.not_lt_zero _)⟩ (Weak.of hN rfl rfl rfl frI (by (repeat' (first | exact rfl | exact AvIs.refl _ | exact trivial | exact fun _ _ => rfl | exact fun _ _ => ⟨rfl, AvIs.refl _⟩ | exact cI (by omega) | exact (fun i hi => by rcases i with _ | _ | i <;> first | rfl | omega) | refine ⟨?_, ?_⟩)))) fun i hi => ?_
  obtain ⟨hi, hb⟩ := hi
  (repeat (first | refine XK.n ?_ | refine XK.a ?_ | refine XK.b ?_)); refine XK.cond rfl (fun hlt => ?_) (fun hlt => ?_) <;> (try simp at hlt)
  · have fx : left.getD (i : Int).toNat default = left.getD i default := rfl
    have ca := added_take left i hi (by omega)
    have hle := addsN_le left i
    have hfW := allTo_W hk (fun p hp => (hl p hp).1) hi
    have hoi := allTo_before ho hi
    have hoi1 := allTo_before ho (show i + 1 ≤ left.length by omega)
    have hst := allTo_step hoi
    have hpo := hl _ (getD_memW hlt)
    have hprW := fun j (hj : j ≤ right.length) => prsR_W hk hl hr hs hn (i := i) hi hj
    have hpr : ∀ j, prsR k left right i j = (allTo (allTo k left i).1 (rgtL right k.clauses.length (addsN left i)) j).1 := fun j => rfl
    have hcB : ∀ j, confB k left right i j = commR (prsR k left right i j) (left.getD i default) (renR (right.getD j default) k.clauses.length (addsN left i)) := fun j => rfl
    have hp0 : prsR k left right i 0 = (allTo k left i).1 := rfl
    (repeat (first | refine XK.n ?_ | refine XK.a ?_ | refine XK.b ?_))
    rw [fx]
    (repeat (first | refine XK.n ?_ | refine XK.a ?_ | refine XK.b ?_)); refine XK.region ?_; refine XL.g ?_
    refine XL.callLA hE rfl rfl rfl rfl trivial rfl (ca) rfl ?_
    refine XL.g ?_; refine XL.fin ?_; (repeat (first | refine XK.n ?_ | refine XK.a ?_ | refine XK.b ?_))
    (repeat (first | refine XK.n ?_ | refine XK.a ?_ | refine XK.b ?_))
    refine XK.loop (ι := Nat) (fun j => ST.of [(1, ptsV left), (2, ptsV right), (6, .vptr 6 0 1 0 0), (8, .c (.int .i64 k.clauses.length)), (9, .ptr 165 0), (10, .c (.int .i64 i)), (11, .ptr 1089 0), (12, .c (.int .i64 (addsN left i))), (13, .ptr 1247 0), (24, ptsV left), (25, .c (.int .i64 left.length)), (26, .c (.int .i64 i)), (36, ptsV right), (37, .c (.int .i64 right.length)), (38, .c (.int .i64 j))]
      [(6, .vec 31 1 0 2 (fun _ => [.c (.int .i64 0)])), (165, .cells 27 (kC (allTo k left i).1)), (1089, .cells 50 (ptC (left.getD i default))), (1247, .cells 27 (kC (prsR k left right i j)))] 3000 78 (fun _ => false))
      (fun j => j ≤ right.length ∧ (∀ j', j' < j → confB k left right i j' = true) ∧ (allTo (allTo k left i).1 (rgtL right k.clauses.length (addsN left i)) j).2 = 0) (fun j => right.length - j) 0 ⟨Nat.zero_le _, fun j' hj' => absurd hj' (Nat.not_lt_zero _), rfl⟩ (Weak.of hN rfl rfl rfl frI frI) fun j hj => ?_
    obtain ⟨hj, hbj, hzj⟩ := hj
    (repeat (first | refine XK.n ?_ | refine XK.a ?_ | refine XK.b ?_)); refine XK.cond rfl (fun hlj => ?_) (fun hlj => ?_) <;> (try simp at hlj)
    · have fy : right.getD (j : Int).toNat default = right.getD j default := rfl
      have hqo := hr _ (getD_memW hlj)
      have hqs := hs _ (getD_memW hlj)
      have hro := renOk (n := k.clauses.length) (d := addsN left i) hqo hqs ⟨by omega, by omega⟩
      have cr := renum_ok (right.getD j default) k.clauses.length (addsN left i) hqo.2.1 hqo.2.2 hqs.1 hqs.2 ⟨by omega, by omega⟩
      have cm := comm_ok (prsR k left right i j) (hprW j hj) (left.getD i default) (renR (right.getD j default) k.clauses.length (addsN left i)) hpo hro
      have c1 := applied1_ok (prsR k left right i j) (hprW j hj) (renR (right.getD j default) k.clauses.length (addsN left i)) hro
      have hnx := fun h => comm_next (k := prsR k left right i j) (p := left.getD i default) (q := renR (right.getD j default) k.clauses.length (addsN left i)) h
      have hcf := fun h => confR_some hlt hb (confI_some hlj hbj h)
      have hsj := allTo_step hzj
      rw [rgtL_at hlj, ← hpr j] at hsj
      have hp1 : prsR k left right i (j + 1) = (applyR (prsR k left right i j) (renR (right.getD j default) k.clauses.length (addsN left i))).1 := by rw [hpr (j + 1), hsj]
      have hz1 : (allTo (allTo k left i).1 (rgtL right k.clauses.length (addsN left i)) (j + 1)).2 = (applyR (prsR k left right i j) (renR (right.getD j default) k.clauses.length (addsN left i))).2 := by rw [hsj]
      rw [hcB j] at hcf
      have hbn : commR (prsR k left right i j) (left.getD i default) (renR (right.getD j default) k.clauses.length (addsN left i)) = true → ∀ j', j' < j + 1 → confB k left right i j' = true := fun h j' hj' => by
        by_cases e : j' = j
        · subst e; rw [hcB]; exact h
        · exact hbj j' (by omega)
      generalize hq : renR (right.getD j default) k.clauses.length (addsN left i) = q at *
      generalize hpj : prsR k left right i j = pj at *
      generalize commR pj (left.getD i default) q = b at *
      generalize hap : applyR pj q = r at *
      (repeat (first | refine XK.n ?_ | refine XK.a ?_ | refine XK.b ?_))
      rw [fy]
      (repeat (first | refine XK.n ?_ | refine XK.a ?_ | refine XK.b ?_)); refine XK.region ?_; refine XL.g ?_
      refine XL.callKA hE rfl rfl rfl rfl trivial rfl rfl (cr) ?_
      refine XL.g ?_; refine XL.fin ?_; (repeat (first | refine XK.n ?_ | refine XK.a ?_ | refine XK.b ?_))
      (repeat (first | refine XK.n ?_ | refine XK.a ?_ | refine XK.b ?_)); refine XK.region ?_; refine XL.g ?_
      refine XL.callLA hE rfl rfl rfl rfl trivial rfl (cm) rfl ?_
      refine XL.g ?_; refine XL.fin ?_; (repeat (first | refine XK.n ?_ | refine XK.a ?_ | refine XK.b ?_))
      (repeat (first | refine XK.n ?_ | refine XK.a ?_ | refine XK.b ?_)); refine XK.cond rfl (fun h5 => ?_) (fun h5 => ?_)
      · have h5 : b = false := by simpa using h5
        rw [hcf h5]
        (repeat (first | refine XK.n ?_ | refine XK.a ?_ | refine XK.b ?_))
        (first | refine XK.out rfl rfl rfl ?_ | refine XK.outN rfl rfl rfl ?_)
        rfl
      have h5 : b = true := by simpa using h5
      have hr0 := hnx h5
      (repeat (first | refine XK.n ?_ | refine XK.a ?_ | refine XK.b ?_))
      (repeat (first | refine XK.n ?_ | refine XK.a ?_ | refine XK.b ?_)); refine XK.region ?_; refine XL.g ?_
      refine XL.callKA hE rfl rfl rfl rfl trivial rfl rfl (c1) ?_
      refine XL.g ?_; refine XL.fin ?_; (repeat (first | refine XK.n ?_ | refine XK.a ?_ | refine XK.b ?_))
      (repeat (first | refine XK.n ?_ | refine XK.a ?_ | refine XK.b ?_)); refine XK.cond rfl (fun h6 => ?_) (fun h6 => ?_)
      · exact absurd hr0 (by simpa using h6)
      clear h6
      (repeat (first | refine XK.n ?_ | refine XK.a ?_ | refine XK.b ?_))
      refine XK.inv ⟨j + 1, ⟨hlj, hbn h5, by rw [hz1]; exact hr0⟩, ?_, by omega⟩
      rw [hp1]
      exact (Weak.of hN rfl rfl rfl frI frI)
    have hje : j = right.length := by omega
    subst hje
    have c2 := applied1_ok (allTo k left i).1 hfW (left.getD i default) hpo
    rw [← hst] at c2
    refine XK.weak (st' := ST.of [(1, ptsV left), (2, ptsV right), (6, .vptr 6 0 1 0 0), (8, .c (.int .i64 k.clauses.length)), (9, .ptr 165 0), (11, .ptr 1089 0), (24, ptsV left), (25, .c (.int .i64 left.length)), (26, .c (.int .i64 i))]
      [(6, .vec 31 1 0 2 (fun _ => [.c (.int .i64 0)])), (165, .cells 27 (kC (allTo k left i).1)), (1089, .cells 50 (ptC (left.getD i default)))] 5000 78 (fun _ => false)) (Weak.of hN rfl rfl rfl frI frI) ?_
    generalize hr1 : allTo k left (i + 1) = r at *
    (repeat (first | refine XK.n ?_ | refine XK.a ?_ | refine XK.b ?_))
    (repeat (first | refine XK.n ?_ | refine XK.a ?_ | refine XK.b ?_)); refine XK.region ?_; refine XL.g ?_
    refine XL.callKA hE rfl rfl rfl rfl trivial rfl rfl (c2) ?_
    refine XL.g ?_; refine XL.fin ?_; (repeat (first | refine XK.n ?_ | refine XK.a ?_ | refine XK.b ?_))
    (repeat (first | refine XK.n ?_ | refine XK.a ?_ | refine XK.b ?_)); refine XK.cond rfl (fun h6 => ?_) (fun h6 => ?_)
    · exact absurd hoi1 (by simpa using h6)
    clear h6
    (repeat (first | refine XK.n ?_ | refine XK.a ?_ | refine XK.b ?_))
    refine XK.inv ⟨i + 1, ⟨hlt, fun i' hi' => ?_⟩, ?_, by omega⟩
    · by_cases e : i' = i
      · subst e; exact hbj
      · exact hb i' (by omega)
    · rw [hr1]
      exact (Weak.of hN rfl rfl rfl frI frI)
  · have hie : i = left.length := by omega
    subst hie
    rw [confR_none hb]
    (repeat (first | refine XK.n ?_ | refine XK.a ?_ | refine XK.b ?_))
    (first | refine XK.out rfl rfl rfl ?_ | refine XK.outN rfl rfl rfl ?_)
    rfl
end Go.Proofs.YtlhmgphgnedlkaaGreat
end
section
/- Contracts: package merge: Merge. -/
namespace Go.Proofs.YtlhmgphgnedlkaaGreat
open Go.Eng
set_option maxRecDepth 10000
noncomputable def mergeR (k : K) (left right : List Pt) : List Pt × (Int × Int) × Int :=
  if (appAllR k left).2 ≠ 0 then ([], (0, 0), (appAllR k left).2) else if (appAllR k right).2 ≠ 0 then ([], (0, 0), (appAllR k right).2)
  else if 60 < left.length + right.length ∨ 400 < k.clauses.length + addsN left left.length + addsN right right.length then ([], (0, 0), 3)
  else match confR k left right with
    | some (i, j) => ([], ((i : Int), (j : Int)), 16)
    | none => (mergL k.clauses.length left right, (0, 0), 0)
theorem appAll_zero2 {k : K} {l : List Pt} (h : (appAllR k l).2 = 0) : (kValid k).1 = 0 ∧ l.length ≤ 60 ∧ (allTo k l l.length).2 = 0 ∧ appAllR k l = allTo k l l.length := by
  unfold appAllR at h ⊢
  split at h
  · cases h
  · rename_i h1
    split at h
    · cases h
    · rename_i h2
      rw [if_neg h1, if_neg h2]
      exact ⟨by simpa using h1, by omega, h, rfl⟩
theorem row_app {α : Type} [Inhabited α] (f : α → List AV) (M : List α) (i : Nat) (h : Nat → List AV) (hx : h 0 = f (M.getD i default)) : ∀ j, j < i + 1 → f (M.getD j default) = catF i (fun i => f (M.getD i default)) h j := by
  intro j hj
  unfold catF
  by_cases h1 : j < i
  · have : Nat.blt j i = true := by simpa using h1
    rw [this, cond_true]
  · have : Nat.blt j i = false := by
      cases hb : Nat.blt j i with
      | false => rfl
      | true => simp at hb; exact absurd hb h1
    have e : j = i := by omega
    rw [this, cond_false, e, Nat.sub_self, hx]
def arr2 (x : Int × Int) : AV := .agg [.c (.int .i64 x.1), .c (.int .i64 x.2)]
set_option maxHeartbeats 2000000 in
theorem merge_ok (k : K) (hk : kW k) (left right : List Pt) (hl : ptsOk left) (hr : ptsOk right) :
    Does Tryz.prog 7 [kV k, ptsV left, ptsV right] (.tup [ptsV (mergeR k left right).1, arr2 (mergeR k left right).2.1, .c (.int .i64 (mergeR k left right).2.2)]) := by
  have ca := appAll_ok k hk left hl
  have cb := appAll_ok k hk right hr
  have za := fun h => appAll_zero2 (k := k) (l := left) h
  have zb := fun h => appAll_zero2 (k := k) (l := right) h
  unfold mergeR
  generalize appAllR k left = A at *
  generalize appAllR k right = B at *
  refine Does.mk (fun _ => false) TT_ok Tryz.func7 rfl (by kernel_rfl) Tryz.ntmps7 rfl rfl fun E hT hE hN hR => ?_
  have hm := mixO hE
  (repeat (first | refine XK.n ?_ | refine XK.a ?_ | refine XK.b ?_))
  refine XK.loop (ι := Nat) (fun i => ST.of [(1, ptsV left), (2, ptsV right), (3, .ptr 3 0), (7, .vptr 7 0 1 0 0), (24, .agg [ptsV left, ptsV right]), (25, .c (.int .i64 i))] [(3, .cells 27 (kC k)), (7, .vec 31 1 0 2 (fun _ => [.c (.int .i64 0)]))] 1000 98 (fun _ => false))
    (fun i => i ≤ 2 ∧ (0 < i → A.2 = 0) ∧ (1 < i → B.2 = 0)) (fun i => 2 - i) 0 ⟨by omega, fun h => absurd h (by omega), fun h => absurd h (by omega)⟩ (Weak.of hN rfl rfl rfl frI (by (repeat' (first | exact rfl | exact AvIs.refl _ | exact trivial | exact fun _ _ => rfl | exact fun _ _ => ⟨rfl, AvIs.refl _⟩ | exact cI (by omega) | exact (fun i hi => by rcases i with _ | _ | i <;> first | rfl | omega) | refine ⟨?_, ?_⟩)))) fun i hi => ?_
  obtain ⟨hi, h1, h2⟩ := hi
  have hc : i = 0 ∨ i = 1 ∨ i = 2 := by omega
  rcases hc with rfl | rfl | rfl
  · (repeat (first | refine XK.n ?_ | refine XK.a ?_ | refine XK.b ?_)); refine XK.cond rfl (fun h3 => ?_) (fun h3 => ?_)
    · clear h3
      (repeat (first | refine XK.n ?_ | refine XK.a ?_ | refine XK.b ?_))
      (repeat (first | refine XK.n ?_ | refine XK.a ?_ | refine XK.b ?_)); refine XK.region ?_; refine XL.g ?_
      refine XL.callKA hE rfl rfl rfl rfl trivial rfl rfl (ca) ?_
      refine XL.g ?_; refine XL.fin ?_; (repeat (first | refine XK.n ?_ | refine XK.a ?_ | refine XK.b ?_))
      (repeat (first | refine XK.n ?_ | refine XK.a ?_ | refine XK.b ?_)); refine XK.cond rfl (fun h4 => ?_) (fun h4 => ?_) <;> (try simp at h4)
      · rw [if_pos h4]
        (repeat (first | refine XK.n ?_ | refine XK.a ?_ | refine XK.b ?_))
        refine XK.outL rfl rfl rfl ⟨⟨rfl, rfl⟩, rfl, rfl⟩
      · (repeat (first | refine XK.n ?_ | refine XK.a ?_ | refine XK.b ?_))
        exact XK.inv ⟨1, ⟨by omega, fun _ => h4, fun h => absurd h (by omega)⟩, (Weak.of hN rfl rfl rfl frI frI), by omega⟩
    · exact absurd h3 (by simp)
  · (repeat (first | refine XK.n ?_ | refine XK.a ?_ | refine XK.b ?_)); refine XK.cond rfl (fun h3 => ?_) (fun h3 => ?_)
    · clear h3
      have h1 := h1 (by omega)
      (repeat (first | refine XK.n ?_ | refine XK.a ?_ | refine XK.b ?_))
      (repeat (first | refine XK.n ?_ | refine XK.a ?_ | refine XK.b ?_)); refine XK.region ?_; refine XL.g ?_
      refine XL.callKA hE rfl rfl rfl rfl trivial rfl rfl (cb) ?_
      refine XL.g ?_; refine XL.fin ?_; (repeat (first | refine XK.n ?_ | refine XK.a ?_ | refine XK.b ?_))
      (repeat (first | refine XK.n ?_ | refine XK.a ?_ | refine XK.b ?_)); refine XK.cond rfl (fun h4 => ?_) (fun h4 => ?_) <;> (try simp at h4)
      · rw [if_neg (by simpa using h1), if_pos h4]
        (repeat (first | refine XK.n ?_ | refine XK.a ?_ | refine XK.b ?_))
        refine XK.outL rfl rfl rfl ⟨⟨rfl, rfl⟩, rfl, rfl⟩
      · (repeat (first | refine XK.n ?_ | refine XK.a ?_ | refine XK.b ?_))
        exact XK.inv ⟨2, ⟨by omega, fun _ => h1, fun _ => h4⟩, (Weak.of hN rfl rfl rfl frI frI), by omega⟩
    · exact absurd h3 (by simp)
  have h1 := h1 (by omega)
  have h2 := h2 (by omega)
  obtain ⟨hv, l60, oka, -⟩ := za h1
  obtain ⟨-, r60, okb, -⟩ := zb h2
  rw [if_neg (by simpa using h1), if_neg (by simpa using h2)]
  have hF := (show kOk k from ⟨hk, hv⟩).facts
  have hnc := hF.nc
  (repeat (first | refine XK.n ?_ | refine XK.a ?_ | refine XK.b ?_)); refine XK.cond rfl (fun h3 => ?_) (fun h3 => ?_)
  · exact absurd h3 (by simp)
  clear h3
  have d1 := added_ok left (by omega)
  have d2 := added_ok right (by omega)
  have e1 := addsN_le left left.length
  have e2 := addsN_le right right.length
  have hps : ∀ {l : List Pt}, (allTo k l l.length).2 = 0 → ∀ q ∈ l, ptS q := fun {l} h q hq => by
    obtain ⟨i, hi, rfl⟩ := List.mem_iff_getElem.1 hq
    obtain ⟨⟨_, _, a3, _⟩, hp⟩ := allTo_all hv (Nat.le_refl _) h
    have := hp i hi
    rw [show l.getD i default = l[i] by simp [List.getD, hi]] at this
    obtain ⟨⟨b1, b2, b3, b4⟩, _⟩ := allTo_all hv (show i ≤ l.length by omega) (allTo_before h (by omega))
    have hle : (allTo k l i).1.clauses.length ≤ 400 := by
      have := (kValid_iff _).1 b2
      exact this.2.2.1
    exact PV_small (by omega) this
  have sl := hps oka
  have sr := hps okb
  clear hps
  have cf := conflict_ok k hk left right hl hr sr (by omega) (by omega) oka hnc
  (repeat (first | refine XK.n ?_ | refine XK.a ?_ | refine XK.b ?_))
  (repeat (first | refine XK.n ?_ | refine XK.a ?_ | refine XK.b ?_)); refine XK.drawn hm ?_; refine XD.goA hT rfl rfl rfl rfl ?_
  refine XD.callLA hE rfl rfl rfl rfl trivial rfl (d1) rfl ?_
  refine XD.goA hT rfl rfl rfl rfl ?_; refine XD.fin (by kernel_rfl) ?_; (repeat (first | refine XK.n ?_ | refine XK.a ?_ | refine XK.b ?_))
  (repeat (first | refine XK.n ?_ | refine XK.a ?_ | refine XK.b ?_)); refine XK.region ?_; refine XL.g ?_
  refine XL.callGA hE rfl rfl rfl rfl rfl rfl rfl rfl (d2) rfl ?_
  refine XL.g ?_; refine XL.fin ?_; (repeat (first | refine XK.n ?_ | refine XK.a ?_ | refine XK.b ?_))
  (repeat (first | refine XK.n ?_ | refine XK.a ?_ | refine XK.b ?_)); refine XK.cond rfl (fun h4 => ?_) (fun h4 => ?_)
  · have h4 : 60 < left.length + right.length ∨ 400 < k.clauses.length + addsN left left.length + addsN right right.length := by
      simp only [Bool.or_eq_true, decide_eq_true_eq] at h4
      omega
    rw [if_pos h4]
    (repeat (first | refine XK.n ?_ | refine XK.a ?_ | refine XK.b ?_))
    refine XK.outL rfl rfl rfl ⟨⟨rfl, rfl⟩, rfl, rfl⟩
  have h4 : ¬ (60 < left.length + right.length ∨ 400 < k.clauses.length + addsN left left.length + addsN right right.length) := by
    simp only [Bool.or_eq_false_iff, decide_eq_false_iff_not] at h4
    omega
  rw [if_neg h4]
  cases hcr : confR k left right with
  | some x =>
    obtain ⟨i, j⟩ := x
    rw [hcr] at cf
    dsimp only [Option.isSome] at cf ⊢
    (repeat (first | refine XK.n ?_ | refine XK.a ?_ | refine XK.b ?_))
    (repeat (first | refine XK.n ?_ | refine XK.a ?_ | refine XK.b ?_)); refine XK.region ?_; refine XL.g ?_
    refine XL.callKA hE rfl rfl rfl rfl trivial rfl rfl (cf) ?_
    refine XL.g ?_; refine XL.fin ?_; (repeat (first | refine XK.n ?_ | refine XK.a ?_ | refine XK.b ?_))
    (repeat (first | refine XK.n ?_ | refine XK.a ?_ | refine XK.b ?_)); refine XK.cond rfl (fun h5 => ?_) (fun h5 => ?_)
    · (repeat (first | refine XK.n ?_ | refine XK.a ?_ | refine XK.b ?_))
      refine XK.outL rfl rfl rfl ⟨⟨rfl, rfl⟩, rfl, rfl⟩
    · cases h5
  | none =>
    rw [hcr] at cf
    dsimp only [Option.isSome] at cf ⊢
    (repeat (first | refine XK.n ?_ | refine XK.a ?_ | refine XK.b ?_))
    (repeat (first | refine XK.n ?_ | refine XK.a ?_ | refine XK.b ?_)); refine XK.region ?_; refine XL.g ?_
    refine XL.callKA hE rfl rfl rfl rfl trivial rfl rfl (cf) ?_
    refine XL.g ?_; refine XL.fin ?_; (repeat (first | refine XK.n ?_ | refine XK.a ?_ | refine XK.b ?_))
    (repeat (first | refine XK.n ?_ | refine XK.a ?_ | refine XK.b ?_)); refine XK.cond rfl (fun h5 => ?_) (fun h5 => ?_)
    · cases h5
    clear h5
    (repeat (first | refine XK.n ?_ | refine XK.a ?_ | refine XK.b ?_))
    have hml := mergL_len k.clauses.length left right
    have hma := fun j (h : j < left.length) => mergL_left (n := k.clauses.length) (right := right) h
    have hmb := fun j (h : j < right.length) => mergL_right (n := k.clauses.length) (left := left) h
    generalize mergL k.clauses.length left right = M at *
    refine XK.loop (ι := Nat) (fun i => ST.of [(1, ptsV left), (2, ptsV right), (3, .ptr 3 0), (7, .vptr 7 0 1 0 0), (13, .c (.int .i64 k.clauses.length)), (14, .c (.int .i64 (addsN left left.length))), (17, .vec 700 0), (69, ptsV left), (70, .c (.int .i64 left.length)), (71, .c (.int .i64 i))]
      [(3, .cells 27 (kC k)), (7, .vec 31 1 0 2 (fun _ => [.c (.int .i64 0)])), (700, .vec 50 19 0 i (fun j => ptC (M.getD j default)))] 4000 98 (fun _ => false))
      (fun i => i ≤ left.length) (fun i => left.length - i) 0 (Nat.zero_le _)
      (Weak.trans (Weak.ghost (j := 17) (k := 700) (e := 50) (sz := 19) (f := fun _ => []) rfl rfl) (Weak.of hN rfl rfl rfl frI (by (repeat' (first | exact rfl | exact AvIs.refl _ | exact trivial | exact fun _ _ => rfl | exact fun _ _ => ⟨rfl, AvIs.refl _⟩ | exact cI (by omega) | exact (fun j hj => absurd hj (Nat.not_lt_zero _)) | refine ⟨?_, ?_⟩))))) fun i hi => ?_
    (repeat (first | refine XK.n ?_ | refine XK.a ?_ | refine XK.b ?_)); refine XK.cond rfl (fun hlt => ?_) (fun hlt => ?_) <;> (try simp at hlt)
    · have fx : left.getD (i : Int).toNat default = left.getD i default := rfl
      have hpo := hl _ (getD_memW hlt)
      have hpS := sl _ (getD_memW hlt)
      have cr := renum_ok (left.getD i default) k.clauses.length 0 hpo.2.1 hpo.2.2 hpS.1 hpS.2 ⟨by omega, by omega⟩
      rw [renR_zero, ← hma i hlt] at cr
      rw [← hma i hlt] at fx
      (repeat (first | refine XK.n ?_ | refine XK.a ?_ | refine XK.b ?_))
      rw [fx]
      (repeat (first | refine XK.n ?_ | refine XK.a ?_ | refine XK.b ?_)); refine XK.region ?_; refine XL.g ?_
      refine XL.callKA hE rfl rfl rfl rfl trivial rfl rfl (cr) ?_
      refine XL.g ?_; refine XL.fin ?_; (repeat (first | refine XK.n ?_ | refine XK.a ?_ | refine XK.b ?_))
      refine XK.inv ⟨i + 1, hlt, Weak.trans (Weak.stamp (k := 700) (t := 0) hN rfl rfl) (Weak.of hN rfl rfl rfl frI ⟨frI, frI, ⟨rfl, rfl, rfl⟩, rfl, row_app ptC M i _ rfl⟩), by omega⟩
    have hie : i = left.length := by omega
    subst hie
    clear hlt hi
    (repeat (first | refine XK.n ?_ | refine XK.a ?_ | refine XK.b ?_))
    refine XK.loop (ι := Nat) (fun i => ST.of [(2, ptsV right), (3, .ptr 3 0), (7, .vptr 7 0 1 0 0), (13, .c (.int .i64 k.clauses.length)), (14, .c (.int .i64 (addsN left left.length))), (17, .vec 700 0), (82, ptsV right), (83, .c (.int .i64 right.length)), (84, .c (.int .i64 i))]
      [(3, .cells 27 (kC k)), (7, .vec 31 1 0 2 (fun _ => [.c (.int .i64 0)])), (700, .vec 50 19 0 (left.length + i) (fun j => ptC (M.getD j default)))] 6000 98 (fun _ => false))
      (fun i => i ≤ right.length) (fun i => right.length - i) 0 (Nat.zero_le _) (Weak.of hN rfl rfl rfl frI frI) fun i hi => ?_
    (repeat (first | refine XK.n ?_ | refine XK.a ?_ | refine XK.b ?_)); refine XK.cond rfl (fun hlt => ?_) (fun hlt => ?_) <;> (try simp at hlt)
    · have fx : right.getD (i : Int).toNat default = right.getD i default := rfl
      have hpo := hr _ (getD_memW hlt)
      have hpS := sr _ (getD_memW hlt)
      have cr := renum_ok (right.getD i default) k.clauses.length (addsN left left.length) hpo.2.1 hpo.2.2 hpS.1 hpS.2 ⟨by omega, by omega⟩
      rw [← hmb i hlt] at cr
      (repeat (first | refine XK.n ?_ | refine XK.a ?_ | refine XK.b ?_))
      rw [fx]
      (repeat (first | refine XK.n ?_ | refine XK.a ?_ | refine XK.b ?_)); refine XK.region ?_; refine XL.g ?_
      refine XL.callKA hE rfl rfl rfl rfl trivial rfl rfl (cr) ?_
      refine XL.g ?_; refine XL.fin ?_; (repeat (first | refine XK.n ?_ | refine XK.a ?_ | refine XK.b ?_))
      refine XK.inv ⟨i + 1, hlt, Weak.trans (Weak.stamp (k := 700) (t := 0) hN rfl rfl) (Weak.of hN rfl rfl rfl frI ⟨frI, frI, ⟨rfl, rfl, rfl⟩, rfl, row_app ptC M (left.length + i) _ rfl⟩), by omega⟩
    have hie : i = right.length := by omega
    subst hie
    refine XK.weak (Weak.frozen (k := 700) hN rfl rfl) ?_
    (repeat (first | refine XK.n ?_ | refine XK.a ?_ | refine XK.b ?_))
    rw [← hml]
    (first | refine XK.out rfl rfl rfl ?_ | refine XK.outN rfl rfl rfl ?_)
    rfl
end Go.Proofs.YtlhmgphgnedlkaaGreat
end
section
/- Contracts: the references' comparisons (layer 24). -/
namespace Go.Proofs.YtlhmgphgnedlkaaGreat
open Go.Eng
set_option maxRecDepth 10000
def intB (a b : Int) : Bool := a == b
theorem intB_iff (a b : Int) : intB a b = true ↔ a = b := by simp [intB]
theorem ints24_ok (l m : List Int) (hl : l.length ≤ 1000000) : Does Tryz.prog 45 [intsV l, intsV m] (.c (.bool (listB intB l m))) := by
  refine Does.mk (fun _ => false) TT_ok Tryz.func45 rfl (by kernel_rfl) Tryz.ntmps45 rfl rfl fun E hT hE hN hR => ?_
  have hm := mixO hE
  (repeat (first | refine XK.n ?_ | refine XK.a ?_ | refine XK.b ?_)); refine XK.cond rfl (fun h1 => ?_) (fun h1 => ?_) <;> (try simp at h1)
  · (repeat (first | refine XK.n ?_ | refine XK.a ?_ | refine XK.b ?_))
    (first | refine XK.out rfl rfl rfl ?_ | refine XK.outN rfl rfl rfl ?_)
    exact cB (listB_no (.inl (by omega))).symm
  (repeat (first | refine XK.n ?_ | refine XK.a ?_ | refine XK.b ?_))
  refine XK.loop (ι := Nat) (fun i => ST.of [(0, intsV l), (1, intsV m), (5, .c (.int .i64 i))] [] 1000 26 (fun _ => false))
    (fun i => i ≤ l.length ∧ ∀ j, j < i → intB (l.getD j default) (m.getD j default) = true) (fun i => l.length - i) 0 ⟨Nat.zero_le _, fun j hj => absurd hj (Nat.not_lt_zero _)⟩ (Weak.of hN rfl rfl rfl frI frI) fun i hi => ?_
  obtain ⟨hi, hj⟩ := hi
  (repeat (first | refine XK.n ?_ | refine XK.a ?_ | refine XK.b ?_)); refine XK.cond rfl (fun hlt => ?_) (fun hlt => ?_) <;> (try simp at hlt)
  · have fx : l.getD (i : Int).toNat default = l.getD i default := rfl
    have fy : m.getD (i : Int).toNat default = m.getD i default := rfl
    (repeat (first | refine XK.n ?_ | refine XK.a ?_ | refine XK.b ?_))
    rw [fx, fy]
    (repeat (first | refine XK.n ?_ | refine XK.a ?_ | refine XK.b ?_)); refine XK.cond rfl (fun h2 => ?_) (fun h2 => ?_)
    · have h2 : l.getD i default ≠ m.getD i default := by simpa using h2
      (repeat (first | refine XK.n ?_ | refine XK.a ?_ | refine XK.b ?_))
      (first | refine XK.out rfl rfl rfl ?_ | refine XK.outN rfl rfl rfl ?_)
      exact cB (listB_no (.inr ⟨i, hlt, by simpa [intB] using h2⟩)).symm
    · have h2 : l.getD i default = m.getD i default := by simpa using h2
      (repeat (first | refine XK.n ?_ | refine XK.a ?_ | refine XK.b ?_))
      refine XK.inv ⟨i + 1, ⟨hlt, fun j hj' => ?_⟩, (Weak.of hN rfl rfl rfl frI frI), by omega⟩
      by_cases e : j = i
      · subst e; simpa [intB] using h2
      · exact hj j (by omega)
  · (repeat (first | refine XK.n ?_ | refine XK.a ?_ | refine XK.b ?_))
    (first | refine XK.out rfl rfl rfl ?_ | refine XK.outN rfl rfl rfl ?_)
    exact cB (listB_at.2 ⟨by omega, fun j hj' => hj j (by omega)⟩).symm
theorem cl_ext {a b : Cl} (h1 : a.kind = b.kind) (h2 : a.role = b.role) (h3 : a.act = b.act) (h4 : a.need = b.need) (h5 : a.start = b.start) (h6 : a.after = b.after) (h7 : a.grace = b.grace) (h8 : a.business = b.business) (h9 : a.final = b.final)
    (h10 : a.pause = b.pause) (h11 : a.resume = b.resume) (h12 : a.value = b.value) (h13 : a.unit = b.unit) (h14 : a.to = b.to) (h15 : a.waived = b.waived) : a = b := by
  cases a; cases b
  simp only at *
  subst h1 h2 h3 h4 h5 h6 h7 h8 h9 h10 h11 h12 h13 h14 h15
  rfl
theorem clause24_ok (a b : Cl) (hs : a.start.length ≤ 1000000) : Does Tryz.prog 73 [clV a, clV b] (.c (.bool (clB a b))) := by
  refine Does.mk (fun _ => false) TT_ok Tryz.func73 rfl (by kernel_rfl) Tryz.ntmps73 rfl rfl fun E hT hE hN hR => ?_
  have hm := mixO hE
  (repeat (first | refine XK.n ?_ | refine XK.a ?_ | refine XK.b ?_)); refine XK.cond rfl (fun h1 => ?_) (fun h1 => ?_)
  · (repeat (first | refine XK.n ?_ | refine XK.a ?_ | refine XK.b ?_))
    (first | refine XK.out rfl rfl rfl ?_ | refine XK.outN rfl rfl rfl ?_)
    refine cB (Eq.symm ?_)
    rw [Bool.eq_false_iff]
    intro h
    rw [clB_iff] at h
    subst h
    simp at h1
  simp only [Bool.or_eq_false_iff, bne_eq_false_iff_eq] at h1
  obtain ⟨⟨⟨⟨⟨⟨⟨f1, f2⟩, f3⟩, f4⟩, f5⟩, f6⟩, f7⟩, f8⟩ := h1
  (repeat (first | refine XK.n ?_ | refine XK.a ?_ | refine XK.b ?_)); refine XK.cond rfl (fun h1 => ?_) (fun h1 => ?_)
  · (repeat (first | refine XK.n ?_ | refine XK.a ?_ | refine XK.b ?_))
    (first | refine XK.out rfl rfl rfl ?_ | refine XK.outN rfl rfl rfl ?_)
    refine cB (Eq.symm ?_)
    rw [Bool.eq_false_iff]
    intro h
    rw [clB_iff] at h
    subst h
    simp at h1
  have g := h1
  simp only [Bool.or_eq_false_iff, bne_eq_false_iff_eq, Bool.not_eq_false', Bool.and_eq_true, beq_iff_eq] at g
  obtain ⟨⟨⟨⟨⟨⟨g1, g2⟩, g3⟩, g4⟩, g5⟩, g6⟩, g7⟩ := g
  have e1 : a.start.length = b.start.length := by omega
  clear h1
  (repeat (first | refine XK.n ?_ | refine XK.a ?_ | refine XK.b ?_))
  refine XK.loop (ι := Nat) (fun i => ST.of [(2, .rptr (clC a)), (3, .rptr (clC b)), (5, .c (.int .i64 i))] [] 1000 127 (fun _ => false))
    (fun i => i ≤ a.start.length ∧ ∀ j, j < i → cndB (a.start.getD j default) (b.start.getD j default) = true) (fun i => a.start.length - i) 0 ⟨Nat.zero_le _, fun j hj => absurd hj (Nat.not_lt_zero _)⟩ (Weak.trans (Weak.frozenC (k := 2) hN rfl rfl rfl) (Weak.trans (Weak.frozenC (k := 3) hN rfl rfl rfl) (Weak.of hN rfl rfl rfl frI frI))) fun i hi => ?_
  obtain ⟨hi, hj⟩ := hi
  (repeat (first | refine XK.n ?_ | refine XK.a ?_ | refine XK.b ?_)); refine XK.cond rfl (fun hlt => ?_) (fun hlt => ?_) <;> (try simp at hlt)
  · have fx : a.start.getD (i : Int).toNat default = a.start.getD i default := rfl
    have fy : b.start.getD (i : Int).toNat default = b.start.getD i default := rfl
    have hb : cndB (a.start.getD i default) (b.start.getD i default) = ((a.start.getD i default).clause == (b.start.getD i default).clause && (a.start.getD i default).is == (b.start.getD i default).is) := rfl
    (repeat (first | refine XK.n ?_ | refine XK.a ?_ | refine XK.b ?_))
    rw [fx, fy]
    (repeat (first | refine XK.n ?_ | refine XK.a ?_ | refine XK.b ?_)); refine XK.cond rfl (fun h2 => ?_) (fun h2 => ?_)
    · (repeat (first | refine XK.n ?_ | refine XK.a ?_ | refine XK.b ?_))
      (first | refine XK.out rfl rfl rfl ?_ | refine XK.outN rfl rfl rfl ?_)
      refine cB (Eq.symm ?_)
      rw [Bool.eq_false_iff]
      intro h
      rw [clB_iff] at h
      subst h
      rw [← hb, (cndB_iff _ _).2 rfl] at h2
      cases h2
    · (repeat (first | refine XK.n ?_ | refine XK.a ?_ | refine XK.b ?_))
      refine XK.inv ⟨i + 1, ⟨hlt, fun j hj' => ?_⟩, (Weak.of hN rfl rfl rfl frI frI), by omega⟩
      by_cases e : j = i
      · subst e; rw [hb]; simpa using h2
      · exact hj j (by omega)
  · have hs : listB cndB a.start b.start = true := listB_at.2 ⟨e1, fun j hj' => hj j (by omega)⟩
    (repeat (first | refine XK.n ?_ | refine XK.a ?_ | refine XK.b ?_))
    (first | refine XK.out rfl rfl rfl ?_ | refine XK.outN rfl rfl rfl ?_)
    refine cB (Eq.symm ((clB_iff _ _).2 ?_))
    have e15 := (listB_iff cndB_iff).1 hs
    exact cl_ext f1 f2 f3 f4 e15 f5 f6 (by simpa using f7) (by simpa using f8) g1 g2 (Prod.ext g3.1 g3.2) g4 g5 (by simpa using g6)
end Go.Proofs.YtlhmgphgnedlkaaGreat
end
section
/- Contracts: the references' comparison of clauses (layer 24). -/
namespace Go.Proofs.YtlhmgphgnedlkaaGreat
open Go.Eng
set_option maxRecDepth 10000
theorem clauses24_ok (l m : List Cl) (hl : l.length ≤ 1000000) (hs : ∀ i, i < l.length → (l.getD i default).start.length ≤ 1000000) : Does Tryz.prog 46 [clsV l, clsV m] (.c (.bool (listB clB l m))) := by
  refine Does.mk (fun _ => false) TT_ok Tryz.func46 rfl (by kernel_rfl) Tryz.ntmps46 rfl rfl fun E hT hE hN hR => ?_
  have hm := mixO hE
  (repeat (first | refine XK.n ?_ | refine XK.a ?_ | refine XK.b ?_)); refine XK.cond rfl (fun h1 => ?_) (fun h1 => ?_) <;> (try simp at h1)
  · (repeat (first | refine XK.n ?_ | refine XK.a ?_ | refine XK.b ?_))
    (first | refine XK.out rfl rfl rfl ?_ | refine XK.outN rfl rfl rfl ?_)
    exact cB (listB_no (.inl (by omega))).symm
  have e1 : l.length = m.length := by omega
  (repeat (first | refine XK.n ?_ | refine XK.a ?_ | refine XK.b ?_))
  refine XK.loop (ι := Nat) (fun i => ST.of [(0, clsV l), (1, clsV m), (5, .c (.int .i64 i))] [] 1000 27 (fun _ => false))
    (fun i => i ≤ l.length ∧ ∀ j, j < i → clB (l.getD j default) (m.getD j default) = true) (fun i => l.length - i) 0 ⟨Nat.zero_le _, fun j hj => absurd hj (Nat.not_lt_zero _)⟩ (Weak.of hN rfl rfl rfl frI frI) fun i hi => ?_
  obtain ⟨hi, hj⟩ := hi
  (repeat (first | refine XK.n ?_ | refine XK.a ?_ | refine XK.b ?_)); refine XK.cond rfl (fun hlt => ?_) (fun hlt => ?_) <;> (try simp at hlt)
  · have fx : l.getD (i : Int).toNat default = l.getD i default := rfl
    have fy : m.getD (i : Int).toNat default = m.getD i default := rfl
    have cl := clause24_ok (l.getD i default) (m.getD i default) (hs i hlt)
    (repeat (first | refine XK.n ?_ | refine XK.a ?_ | refine XK.b ?_))
    (repeat (first | refine XK.n ?_ | refine XK.a ?_ | refine XK.b ?_)); refine XK.drawn hm ?_; refine XD.goA hT rfl rfl rfl rfl ?_
    rw [fx, fy]
    refine XD.callLA hE rfl rfl rfl rfl trivial rfl (cl) rfl ?_
    refine XD.goA hT rfl rfl rfl rfl ?_; refine XD.fin (by kernel_rfl) ?_; (repeat (first | refine XK.n ?_ | refine XK.a ?_ | refine XK.b ?_))
    (repeat (first | refine XK.n ?_ | refine XK.a ?_ | refine XK.b ?_)); refine XK.cond rfl (fun h2 => ?_) (fun h2 => ?_)
    · (repeat (first | refine XK.n ?_ | refine XK.a ?_ | refine XK.b ?_))
      (first | refine XK.out rfl rfl rfl ?_ | refine XK.outN rfl rfl rfl ?_)
      have h2 : clB (l.getD i default) (m.getD i default) = false := by simpa using h2
      exact cB (listB_no (.inr ⟨i, hlt, h2⟩)).symm
    · have h2 : clB (l.getD i default) (m.getD i default) = true := by simpa using h2
      (repeat (first | refine XK.n ?_ | refine XK.a ?_ | refine XK.b ?_))
      refine XK.inv ⟨i + 1, ⟨hlt, fun j hj' => ?_⟩, (Weak.of hN rfl rfl rfl frI frI), by omega⟩
      by_cases e : j = i
      · subst e; exact h2
      · exact hj j (by omega)
  · (repeat (first | refine XK.n ?_ | refine XK.a ?_ | refine XK.b ?_))
    (first | refine XK.out rfl rfl rfl ?_ | refine XK.outN rfl rfl rfl ?_)
    exact cB (listB_at.2 ⟨e1, fun j hj' => hj j (by omega)⟩).symm
end Go.Proofs.YtlhmgphgnedlkaaGreat
end
section
/- Contracts: the references' comparison of contracts (layer 24). -/
namespace Go.Proofs.YtlhmgphgnedlkaaGreat
open Go.Eng
set_option maxRecDepth 10000
def unitB (a b : U) : Bool := a.name == b.name && (a.kind == b.kind && (a.base == b.base && (a.fac.1 == b.fac.1 && a.fac.2 == b.fac.2)))
theorem unitB_iff (a b : U) : unitB a b = true ↔ a = b := by
  obtain ⟨a1, a2, a3, a4, a5⟩ := a
  obtain ⟨b1, b2, b3, b4, b5⟩ := b
  simp only [unitB, Bool.and_eq_true, beq_iff_eq, U.mk.injEq, Prod.mk.injEq, Go.MapKept.bytes_beq]
def actEq (a b : Act) : Bool := a.kind == b.kind && (a.role == b.role && (a.give == b.give && (a.to == b.to && (a.unit == b.unit && (a.lot.1 == b.lot.1 && a.lot.2 == b.lot.2)))))
theorem actEq_iff (a b : Act) : actEq a b = true ↔ a = b := by
  obtain ⟨a1, a2, a3, a4, a5, a6, a7⟩ := a
  obtain ⟨b1, b2, b3, b4, b5, b6, b7⟩ := b
  simp only [actEq, Bool.and_eq_true, beq_iff_eq, Act.mk.injEq, Prod.mk.injEq]
def sameR (a b : K) : Bool := a.parties == b.parties && a.days == b.days && listB intB a.holders b.holders && listB intB a.off b.off && listB unitB a.units b.units && listB actEq a.acts b.acts && listB clB a.clauses b.clauses
theorem sameR_iff (a b : K) : sameR a b = true ↔ a = b := by
  cases a; cases b
  simp only [sameR, Bool.and_eq_true, beq_iff_eq, listB_iff intB_iff, listB_iff unitB_iff, listB_iff actEq_iff, listB_iff clB_iff, K.mk.injEq]
  constructor <;> (intro h; simp only [h, and_self])
structure KB (k : K) : Prop where
  h : k.holders.length ≤ 1000000
  o : k.off.length ≤ 1000000
  u : k.units.length ≤ 1000000
  a : k.acts.length ≤ 1000000
  c : k.clauses.length ≤ 1000000
  s : ∀ i, i < k.clauses.length → (k.clauses.getD i default).start.length ≤ 1000000
theorem same24_ok (a b : K) (hb : KB a) : Does Tryz.prog 17 [kV a, kV b] (.c (.bool (sameR a b))) := by
  obtain ⟨b1, b2, b3, b4, b5, b6⟩ := hb
  refine Does.mk (fun _ => false) TT_ok Tryz.func17 rfl (by kernel_rfl) Tryz.ntmps17 rfl rfl fun E hT hE hN hR => ?_
  have hm := mixO hE
  (repeat (first | refine XK.n ?_ | refine XK.a ?_ | refine XK.b ?_)); refine XK.region ?_; refine XL.g ?_
  refine XL.callGA hE rfl rfl rfl rfl rfl rfl rfl rfl (ints24_ok a.holders b.holders b1) rfl ?_
  refine XL.g ?_
  refine XL.callGA hE rfl rfl rfl rfl rfl rfl rfl rfl (ints24_ok a.off b.off b2) rfl ?_
  refine XL.g ?_; refine XL.fin ?_; (repeat (first | refine XK.n ?_ | refine XK.a ?_ | refine XK.b ?_))
  (repeat (first | refine XK.n ?_ | refine XK.a ?_ | refine XK.b ?_)); refine XK.cond rfl (fun h1 => ?_) (fun h1 => ?_)
  · (repeat (first | refine XK.n ?_ | refine XK.a ?_ | refine XK.b ?_))
    (first | refine XK.out rfl rfl rfl ?_ | refine XK.outN rfl rfl rfl ?_)
    refine cB (Eq.symm ?_)
    rw [Bool.eq_false_iff]
    intro h
    rw [sameR_iff] at h
    subst h
    rw [(listB_iff intB_iff).2 rfl, (listB_iff intB_iff).2 rfl] at h1
    simp at h1
  simp only [Bool.or_eq_false_iff, bne_eq_false_iff_eq, Bool.not_eq_false'] at h1
  obtain ⟨⟨⟨⟨⟨e1, e2⟩, e3⟩, e4⟩, e5⟩, e6⟩ := h1
  (repeat (first | refine XK.n ?_ | refine XK.a ?_ | refine XK.b ?_))
  refine XK.loop (ι := Nat) (fun i => ST.of [(2, .rptr (kC a)), (3, .rptr (kC b)), (5, .c (.int .i64 i))] [] 1000 94 (fun _ => false))
    (fun i => i ≤ a.units.length ∧ ∀ j, j < i → unitB (a.units.getD j default) (b.units.getD j default) = true) (fun i => a.units.length - i) 0 ⟨Nat.zero_le _, fun j hj => absurd hj (Nat.not_lt_zero _)⟩ (Weak.trans (Weak.frozenC (k := 2) hN rfl rfl rfl) (Weak.trans (Weak.frozenC (k := 3) hN rfl rfl rfl) (Weak.of hN rfl rfl rfl frI frI))) fun i hi => ?_
  obtain ⟨hi, hj⟩ := hi
  (repeat (first | refine XK.n ?_ | refine XK.a ?_ | refine XK.b ?_)); refine XK.cond rfl (fun hlt => ?_) (fun hlt => ?_) <;> (try simp at hlt)
  · have fx : a.units.getD (i : Int).toNat default = a.units.getD i default := rfl
    have fy : b.units.getD (i : Int).toNat default = b.units.getD i default := rfl
    (repeat (first | refine XK.n ?_ | refine XK.a ?_ | refine XK.b ?_))
    rw [fx, fy]
    (repeat (first | refine XK.n ?_ | refine XK.a ?_ | refine XK.b ?_)); refine XK.cond rfl (fun h2 => ?_) (fun h2 => ?_)
    · (repeat (first | refine XK.n ?_ | refine XK.a ?_ | refine XK.b ?_))
      (first | refine XK.out rfl rfl rfl ?_ | refine XK.outN rfl rfl rfl ?_)
      refine cB (Eq.symm ?_)
      rw [Bool.eq_false_iff]
      intro h
      rw [sameR_iff] at h
      subst h
      have : unitB (a.units.getD i default) (a.units.getD i default) = true := (unitB_iff _ _).2 rfl
      simp only [unitB] at this
      rw [this] at h2
      cases h2
    · have h2 : unitB (a.units.getD i default) (b.units.getD i default) = true := by simpa [unitB] using h2
      (repeat (first | refine XK.n ?_ | refine XK.a ?_ | refine XK.b ?_))
      refine XK.inv ⟨i + 1, ⟨hlt, fun j hj' => ?_⟩, (Weak.of hN rfl rfl rfl frI frI), by omega⟩
      by_cases e : j = i
      · subst e; exact h2
      · exact hj j (by omega)
  have hu : listB unitB a.units b.units = true := listB_at.2 ⟨by omega, fun j hj' => hj j (by omega)⟩
  clear hj hi hlt
  (repeat (first | refine XK.n ?_ | refine XK.a ?_ | refine XK.b ?_))
  refine XK.loop (ι := Nat) (fun i => ST.of [(2, .rptr (kC a)), (3, .rptr (kC b)), (6, .c (.int .i64 i))] [] 2000 94 (fun _ => false))
    (fun i => i ≤ a.acts.length ∧ ∀ j, j < i → actEq (a.acts.getD j default) (b.acts.getD j default) = true) (fun i => a.acts.length - i) 0 ⟨Nat.zero_le _, fun j hj => absurd hj (Nat.not_lt_zero _)⟩ (Weak.of hN rfl rfl rfl frI frI) fun i hi => ?_
  obtain ⟨hi, hj⟩ := hi
  (repeat (first | refine XK.n ?_ | refine XK.a ?_ | refine XK.b ?_)); refine XK.cond rfl (fun hlt => ?_) (fun hlt => ?_) <;> (try simp at hlt)
  · have fx : a.acts.getD (i : Int).toNat default = a.acts.getD i default := rfl
    have fy : b.acts.getD (i : Int).toNat default = b.acts.getD i default := rfl
    (repeat (first | refine XK.n ?_ | refine XK.a ?_ | refine XK.b ?_))
    rw [fx, fy]
    (repeat (first | refine XK.n ?_ | refine XK.a ?_ | refine XK.b ?_)); refine XK.cond rfl (fun h2 => ?_) (fun h2 => ?_)
    · (repeat (first | refine XK.n ?_ | refine XK.a ?_ | refine XK.b ?_))
      (first | refine XK.out rfl rfl rfl ?_ | refine XK.outN rfl rfl rfl ?_)
      refine cB (Eq.symm ?_)
      rw [Bool.eq_false_iff]
      intro h
      rw [sameR_iff] at h
      subst h
      have : actEq (a.acts.getD i default) (a.acts.getD i default) = true := (actEq_iff _ _).2 rfl
      simp only [actEq] at this
      rw [this] at h2
      cases h2
    · have h2 : actEq (a.acts.getD i default) (b.acts.getD i default) = true := by simpa [actEq] using h2
      (repeat (first | refine XK.n ?_ | refine XK.a ?_ | refine XK.b ?_))
      refine XK.inv ⟨i + 1, ⟨hlt, fun j hj' => ?_⟩, (Weak.of hN rfl rfl rfl frI frI), by omega⟩
      by_cases e : j = i
      · subst e; exact h2
      · exact hj j (by omega)
  have ha : listB actEq a.acts b.acts = true := listB_at.2 ⟨by omega, fun j hj' => hj j (by omega)⟩
  clear hj hi hlt
  (repeat (first | refine XK.n ?_ | refine XK.a ?_ | refine XK.b ?_))
  have cc := clauses24_ok a.clauses b.clauses b5 b6
  (repeat (first | refine XK.n ?_ | refine XK.a ?_ | refine XK.b ?_)); refine XK.region ?_; refine XL.g ?_
  refine XL.callLA hE rfl rfl rfl rfl trivial rfl (cc) rfl ?_
  refine XL.g ?_; refine XL.fin ?_; (repeat (first | refine XK.n ?_ | refine XK.a ?_ | refine XK.b ?_))
  (first | refine XK.out rfl rfl rfl ?_ | refine XK.outN rfl rfl rfl ?_)
  refine cB (Eq.symm ?_)
  unfold sameR
  rw [hu, ha, e1, e2, e3, e4]
  simp
end Go.Proofs.YtlhmgphgnedlkaaGreat
end
section
/- Contracts: package migrate: the iterator over stages. -/
namespace Go.Proofs.YtlhmgphgnedlkaaGreat
open Go.Eng
set_option maxRecDepth 10000
theorem stagesC_ok (k : K) (l : List Am) (tr : List Int) : Does Tryz.prog 54 [kV k, amsV l, intsV tr] (.fn (.func 80) [] [.rptr (kC k), .rptr [amsV l], .rptr [intsV tr]]) := by
  refine Does.mk (fun _ => false) TT_ok Tryz.func54 rfl (by kernel_rfl) Tryz.ntmps54 rfl rfl fun E hT hE hN hR => ?_
  have hm := mixO hE
  (repeat (first | refine XK.n ?_ | refine XK.a ?_ | refine XK.b ?_))
  refine XK.weak (Weak.trans (Weak.frozenC (k := 3) hN rfl rfl rfl) (Weak.trans (Weak.frozenC (k := 4) hN rfl rfl rfl) (Weak.frozenC (k := 5) hN rfl rfl rfl))) ?_
  (first | refine XK.out rfl rfl rfl ?_ | refine XK.outN rfl rfl rfl ?_)
  rfl
def consA (l : List Am) (known : Int) (i : Nat) : List Am := ((seqA l).take i).filter (fun a => decide (a.known ≤ known))
noncomputable def runR (k : K) (l : List Am) (known : Int) (tr : List Int) : (List K × List St) × Int :=
  if (startS k).2 ≠ 0 then (([], []), 1) else if 60 < l.length ∨ 4000 < tr.length then (([], []), 3)
  else if (stgTo k (consA l known l.length) tr tr.length).2 ≠ 0 then (([], []), (stgTo k (consA l known l.length) tr tr.length).2)
  else (((List.range (tr.length + 1)).map (fun i => (stgTo k (consA l known l.length) tr i).1.1), (List.range (tr.length + 1)).map (fun i => (stgTo k (consA l known l.length) tr i).1.2)), 0)
end Go.Proofs.YtlhmgphgnedlkaaGreat
end
section
/- Contracts: package migrate: Run. -/
namespace Go.Proofs.YtlhmgphgnedlkaaGreat
open Go.Eng
set_option maxRecDepth 10000
theorem seqA_getD {l : List Am} {i : Nat} (hi : i < l.length) : (seqA l).getD i default = l.getD (ordAt l i) default := by
  have h1 : i < (ordL l).length := by rw [ordL_len]; exact hi
  unfold seqA ordAt
  simp [List.getD, h1]
theorem seqA_length (l : List Am) : (seqA l).length = l.length := by rw [seqA, List.length_map, ordL_len]
theorem ordAt_in {l : List Am} {i : Nat} (hi : i < l.length) : ordAt l i < l.length := by
  have h1 : i < (ordL l).length := by rw [ordL_len]; exact hi
  unfold ordAt
  rw [List.getD_eq_getElem?_getD, List.getElem?_eq_getElem h1]
  exact ordL_lt (List.getElem_mem h1)
theorem consA_succ {l : List Am} {known : Int} {i : Nat} (hi : i < l.length) : consA l known (i + 1) = if (l.getD (ordAt l i) default).known ≤ known then consA l known i ++ [l.getD (ordAt l i) default] else consA l known i := by
  have h1 : i < (seqA l).length := by rw [seqA_length]; exact hi
  have h2 : (seqA l)[i] = l.getD (ordAt l i) default := by
    have := seqA_getD hi
    rwa [List.getD_eq_getElem?_getD, List.getElem?_eq_getElem h1] at this
  unfold consA
  rw [List.take_add_one, List.getElem?_eq_getElem h1, h2, List.filter_append]
  by_cases h : (l.getD (ordAt l i) default).known ≤ known
  · rw [if_pos h, show (some (l.getD (ordAt l i) default)).toList = [l.getD (ordAt l i) default] from rfl, List.filter_cons_of_pos (by simpa using h)]; rfl
  · rw [if_neg h, show (some (l.getD (ordAt l i) default)).toList = [l.getD (ordAt l i) default] from rfl, List.filter_cons_of_neg (by simpa using h)]; exact List.append_nil _
theorem consA_len (l : List Am) (known : Int) (i : Nat) : (consA l known i).length ≤ l.length := by
  have := List.length_filter_le (fun a : Am => decide (a.known ≤ known)) ((seqA l).take i)
  rw [List.length_take, seqA_length] at this
  unfold consA
  omega
theorem consA_gd {l : List Am} (h : amGd l) (known : Int) (i : Nat) : amGd (consA l known i) := fun a ha =>
  h a ((seqA_perm l).mem_iff.1 (List.mem_of_mem_take (List.mem_filter.1 ha).1))
theorem row_snoc {α : Type} [Inhabited α] (f : α → List AV) (L : List α) (x : α) (h : Nat → List AV) (hx : h 0 = f x) : ∀ j, j < L.length + 1 → f ((L ++ [x]).getD j default) = catF L.length (fun i => f (L.getD i default)) h j := by
  intro j hj
  unfold catF
  by_cases h1 : j < L.length
  · have : Nat.blt j L.length = true := by simpa using h1
    rw [this, cond_true]
    simp [List.getD, List.getElem?_append_left h1]
  · have : Nat.blt j L.length = false := by
      cases hb : Nat.blt j L.length with
      | false => rfl
      | true => simp at hb; exact absurd hb h1
    have e : j = L.length := by omega
    rw [this, cond_false, e, Nat.sub_self, hx]
    simp [List.getD]
theorem len_snoc {α : Type} (L : List α) (x : α) : (L ++ [x]).length = L.length + 1 := by simp
noncomputable def rnS (k : K) (l : List Am) (tr : List Int) : Nat → RnS
  | 0 => (0, [], [])
  | i + 1 => if (rnS k l tr i).1 ≠ 0 then rnS k l tr i else if (stgTo k l tr i).2 ≠ 0 then ((stgTo k l tr i).2, (rnS k l tr i).2) else (0, (rnS k l tr i).2.1 ++ [(stgTo k l tr i).1.1], (rnS k l tr i).2.2 ++ [(stgTo k l tr i).1.2])
theorem stg_before {k : K} {l : List Am} {tr : List Int} {i : Nat} (h : (stgTo k l tr i).2 = 0) : ∀ j, j ≤ i → (stgTo k l tr j).2 = 0 := fun j hj => by
  by_cases h0 : (stgTo k l tr j).2 = 0
  · exact h0
  · rw [stg_stop h0 i hj] at h; exact absurd h h0
theorem rnS_good {k : K} {l : List Am} {tr : List Int} : ∀ i, (∀ j, j < i → (stgTo k l tr j).2 = 0) → rnS k l tr i = (0, (List.range i).map (fun j => (stgTo k l tr j).1.1), (List.range i).map (fun j => (stgTo k l tr j).1.2))
  | 0, _ => rfl
  | i + 1, h => by
    rw [rnS, rnS_good i fun j hj => h j (by omega), if_neg (by simp), if_neg (by simpa using h i (by omega)), List.range_succ, List.map_append, List.map_append]
    rfl
theorem rnS_bad {k : K} {l : List Am} {tr : List Int} : ∀ i, (stgTo k l tr i).2 ≠ 0 → (rnS k l tr (i + 1)).1 = (stgTo k l tr i).2
  | 0, h => by rw [rnS, if_neg (by simp [rnS]), if_pos h]
  | i + 1, h => by
    by_cases h0 : (stgTo k l tr i).2 = 0
    · have hb := stg_before h0
      rw [rnS, rnS_good (i + 1) fun j hj => hb j (by omega), if_neg (by simp), if_pos h]
    · have hs := stg_stop h0 (i + 1) (by omega)
      rw [rnS, if_pos (by rw [rnS_bad i h0]; exact h0), rnS_bad i h0, hs]
theorem rnS_stop {k : K} {l : List Am} {tr : List Int} {i : Nat} (h : (rnS k l tr i).1 ≠ 0) : ∀ m, i ≤ m → rnS k l tr m = rnS k l tr i := by
  intro m hm
  induction m with
  | zero => have : i = 0 := by omega
            rw [this]
  | succ m ih =>
    by_cases h1 : i = m + 1
    · rw [h1]
    · have h2 := ih (by omega)
      rw [rnS, if_pos (by rw [h2]; exact h), h2]
def ksV (l : List K) : AV := rowL kC 7 l
def stsV (l : List St) : AV := rowL stC 4 l
theorem runErr_ok (k : K) (hk : kW k) (l : List Am) (known : Int) (tr : List Int) (h : (startS k).2 ≠ 0) : Does Tryz.prog 23 [kV k, amsV l, .c (.int .i64 known), intsV tr] (.tup [.c (.slice none 0 0), .c (.slice none 0 0), .c (.int .i64 1)]) := by
  have hs := startS_ok k hk
  generalize startS k = s at *
  refine Does.mk (fun _ => false) TT_ok Tryz.func23 rfl (by kernel_rfl) Tryz.ntmps23 rfl rfl fun E hT hE hN hR => ?_
  have hm := mixO hE
  (repeat (first | refine XK.n ?_ | refine XK.a ?_ | refine XK.b ?_))
  (repeat (first | refine XK.n ?_ | refine XK.a ?_ | refine XK.b ?_)); refine XK.region ?_; refine XL.g ?_
  refine XL.callKA hE rfl rfl rfl rfl trivial rfl rfl (hs) ?_
  refine XL.g ?_; refine XL.fin ?_; (repeat (first | refine XK.n ?_ | refine XK.a ?_ | refine XK.b ?_))
  (repeat (first | refine XK.n ?_ | refine XK.a ?_ | refine XK.b ?_)); refine XK.cond rfl (fun h1 => ?_) (fun h1 => ?_) <;> (try simp at h1)
  · (repeat (first | refine XK.n ?_ | refine XK.a ?_ | refine XK.b ?_))
    (first | refine XK.out rfl rfl rfl ?_ | refine XK.outN rfl rfl rfl ?_)
    rfl
  · exact absurd h1 h
end Go.Proofs.YtlhmgphgnedlkaaGreat
end
