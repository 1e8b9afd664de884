import Derived.Test.YtlhmgphgnedlkaaGreatZz13
import Derived.Test.YtlhmgphgnedlkaaGreatZz26
import Derived.Test.YtlhmgphgnedlkaaGreatZz12
section
/- Contracts: package trace: Outcomes, Outcome, Holder. -/
namespace Go.Proofs.YtlhmgphgnedlkaaGreat
open Go.Eng
set_option maxRecDepth 10000
theorem stepErr_mono {k : K} {l : List Int} : ∀ m i, i ≤ m → stepErr k l m = 0 → stepErr k l i = 0 := by
  intro m i h h0
  by_cases h1 : stepErr k l i = 0
  · exact h1
  · rw [stepErr_low h1 m h] at h0; exact absurd h0 h1
theorem checkR_ok {k : K} {l : List Int} (hw : kW k) (h : checkR k l = 0) : kOk k ∧ stepsOk k l ∧ l.length ≤ 4000 ∧ stepErr k l l.length = 0 := by
  unfold checkR at h
  split at h
  · cases h
  · rename_i h1
    split at h
    · cases h
    · refine ⟨⟨hw, by simpa using h1⟩, fun i hi => ?_, by omega, h⟩
      have h2 := stepErr_mono l.length (i + 1) hi h
      have h3 := stepErr_mono l.length i (by omega) h
      simp only [stepErr, h3, ne_eq, not_true_eq_false, if_false] at h2
      split at h2
      · cases h2
      · rename_i h4
        simp only [Bool.or_eq_true, decide_eq_true_eq, not_or] at h4
        omega
def holdTo (k : K) (l : List Int) (role : Int) : Nat → Int × (Nat → Bool)
  | 0 => (k.holders.getD role.toNat default, fun _ => false)
  | n + 1 =>
    if l.getD n default = -1 ∨ (holdTo k l role n).2 (l.getD n default).toNat = true then holdTo k l role n
    else (if (acAt k (l.getD n default).toNat).kind ≠ 1 ∧ (acAt k (l.getD n default).toNat).give = role then (acAt k (l.getD n default).toNat).to else (holdTo k l role n).1,
      fun j => if j = (l.getD n default).toNat then true else (holdTo k l role n).2 j)
noncomputable def holderR (k : K) (l : List Int) (role after : Int) : Int × Int :=
  if checkR k l ≠ 0 then (0, checkR k l)
  else if role < 0 ∨ (k.holders.length : Int) ≤ role ∨ after < 0 ∨ (l.length : Int) < after then (0, 1)
  else ((holdTo k l role after.toNat).1, 0)
def happO (k : K) (h : Nat → Bool) : Ob := .vec 4 1 0 k.acts.length (fun i => [.c (.bool (h i))])
theorem holder_ok (k : K) (hk : kW k) (l : List Int) (role after : Int) : Does Tryz.prog 112 [kV k, intsV l, .c (.int .i64 role), .c (.int .i64 after)] (.tup [.c (.int .i64 (holderR k l role after).1), .c (.int .i64 (holderR k l role after).2)]) := by
  refine Does.mk (fun _ => false) TT_ok Tryz.func112 rfl (by kernel_rfl) Tryz.ntmps112 rfl rfl fun E hT hE hN hR => ?_
  have hm := mixO hE
  (repeat (first | refine XK.n ?_ | refine XK.a ?_ | refine XK.b ?_)); refine XK.region ?_; refine XL.g ?_
  refine XL.callLA hE rfl rfl rfl rfl trivial rfl (check_ok k hk l) rfl ?_
  refine XL.g ?_; refine XL.fin ?_; (repeat (first | refine XK.n ?_ | refine XK.a ?_ | refine XK.b ?_))
  (repeat (first | refine XK.n ?_ | refine XK.a ?_ | refine XK.b ?_)); refine XK.cond rfl (fun h1 => ?_) (fun h1 => ?_)
  · have h1 : checkR k l ≠ 0 := by simpa using h1
    (repeat (first | refine XK.n ?_ | refine XK.a ?_ | refine XK.b ?_))
    (first | refine XK.out rfl rfl rfl ?_ | refine XK.outN rfl rfl rfl ?_)
    rw [holderR, if_pos h1]
  · have h1 : checkR k l = 0 := by simpa using h1
    obtain ⟨h2, h3, h4, -⟩ := checkR_ok hk h1
    have hf := h2.facts
    (repeat (first | refine XK.n ?_ | refine XK.a ?_ | refine XK.b ?_)); refine XK.cond rfl (fun h5 => ?_) (fun h5 => ?_)
    · have h5 : role < 0 ∨ (k.holders.length : Int) ≤ role ∨ after < 0 ∨ (l.length : Int) < after := by
        simp only [Bool.or_eq_true, decide_eq_true_eq] at h5
        omega
      (repeat (first | refine XK.n ?_ | refine XK.a ?_ | refine XK.b ?_))
      (first | refine XK.out rfl rfl rfl ?_ | refine XK.outN rfl rfl rfl ?_)
      rw [holderR, if_neg (by simpa using h1), if_pos h5]
    · have h5 : ¬ (role < 0 ∨ (k.holders.length : Int) ≤ role ∨ after < 0 ∨ (l.length : Int) < after) := by
        simp only [Bool.or_eq_false_iff, decide_eq_false_iff_not] at h5
        omega
      obtain ⟨n, rfl⟩ := Int.eq_ofNat_of_zero_le (show 0 ≤ after by omega)
      have hR : holderR k l role n = ((holdTo k l role n).1, 0) := by rw [holderR, if_neg (by simpa using h1), if_neg h5]; rfl
      rw [hR]
      have hna := hf.na
      (repeat (first | refine XK.n ?_ | refine XK.a ?_ | refine XK.b ?_))
      refine XK.loop (ι := Nat) (fun i => ST.of [(2, .c (.int .i64 role)), (4, .ptr 4 0), (11, .c (.int .i64 (holdTo k l role i).1)), (12, .vec 484 0), (52, .rs 1 n (fun i => iC (l.getD i default))), (53, .c (.int .i64 n)), (54, .c (.int .i64 i))] [(4, .cells 27 (kC k)), (484, happO k (holdTo k l role i).2)] 1000 87 (fun _ => false))
        (fun i => i ≤ n) (fun i => n - i) 0 (Nat.zero_le _)
        (Weak.of hN rfl rfl rfl frI frI) fun i hi => ?_
      (repeat (first | refine XK.n ?_ | refine XK.a ?_ | refine XK.b ?_)); refine XK.cond rfl (fun hlt => ?_) (fun hlt => ?_) <;> (try simp at hlt)
      · have hs := h3 i (by omega)
        have fx : l.getD (i : Int).toNat default = l.getD i default := rfl
        have hst : holdTo k l role (i + 1) = if l.getD i default = -1 ∨ (holdTo k l role i).2 (l.getD i default).toNat = true then holdTo k l role i
          else (if (acAt k (l.getD i default).toNat).kind ≠ 1 ∧ (acAt k (l.getD i default).toNat).give = role then (acAt k (l.getD i default).toNat).to else (holdTo k l role i).1, fun j => if j = (l.getD i default).toNat then true else (holdTo k l role i).2 j) := rfl
        generalize holdTo k l role i = q at hst ⊢
        (repeat (first | refine XK.n ?_ | refine XK.a ?_ | refine XK.b ?_))
        rw [fx]
        generalize l.getD i default = s at hs hst ⊢
        (repeat (first | refine XK.n ?_ | refine XK.a ?_ | refine XK.b ?_)); refine XK.cond rfl (fun h6 => ?_) (fun h6 => ?_)
        · have h6 : s = -1 ∨ q.2 s.toNat = true := by simpa using h6
          rw [if_pos h6] at hst
          (repeat (first | refine XK.n ?_ | refine XK.a ?_ | refine XK.b ?_))
          exact XK.inv ⟨i + 1, hlt, Weak.of hN rfl rfl rfl (by rw [hst]; (repeat' (first | exact rfl | exact AvIs.refl _ | exact trivial | exact fun _ _ => rfl | exact fun _ _ => ⟨rfl, AvIs.refl _⟩ | refine ⟨?_, ?_⟩))) (by rw [hst]; (repeat' (first | exact rfl | exact AvIs.refl _ | exact trivial | exact fun _ _ => rfl | exact fun _ _ => ⟨rfl, AvIs.refl _⟩ | refine ⟨?_, ?_⟩))), by omega⟩
        · have h6 : ¬ (s = -1 ∨ q.2 s.toNat = true) := by simpa using h6
          rw [if_neg h6] at hst
          have hs2 : 0 ≤ s ∧ s < k.acts.length := hs.resolve_left fun e => h6 (.inl e)
          have fa : k.acts.getD s.toNat default = acAt k s.toNat := rfl
          have hrow : ∀ j, j < k.acts.length → [AV.c (.bool (if j = s.toNat then true else q.2 j))] = setRowF (fun i => [AV.c (.bool (q.2 i))]) s.toNat 0 [AV.c (.bool true)] j := by
            intro j hj
            by_cases hji : j = s.toNat
            · subst hji; simp [setRowF, setL]
            · simp [setRowF, beq_false hji, hji]
          (repeat (first | refine XK.n ?_ | refine XK.a ?_ | refine XK.b ?_))
          rw [fa]
          (repeat (first | refine XK.n ?_ | refine XK.a ?_ | refine XK.b ?_)); refine XK.cond rfl (fun h7 => ?_) (fun h7 => ?_)
          · have h7 : (acAt k s.toNat).kind ≠ 1 ∧ (acAt k s.toNat).give = role := by simpa using h7
            rw [if_pos h7] at hst
            (repeat (first | refine XK.n ?_ | refine XK.a ?_ | refine XK.b ?_))
            exact XK.inv ⟨i + 1, hlt, Weak.of hN rfl rfl rfl (by rw [hst]; (repeat' (first | exact rfl | exact AvIs.refl _ | exact trivial | exact fun _ _ => rfl | exact fun _ _ => ⟨rfl, AvIs.refl _⟩ | refine ⟨?_, ?_⟩))) (by rw [hst]; exact ⟨frI, ⟨rfl, rfl, rfl⟩, rfl, hrow⟩), by omega⟩
          · have h7 : ¬ ((acAt k s.toNat).kind ≠ 1 ∧ (acAt k s.toNat).give = role) := by
              intro h
              simp [h.1, h.2] at h7
            rw [if_neg h7] at hst
            (repeat (first | refine XK.n ?_ | refine XK.a ?_ | refine XK.b ?_))
            exact XK.inv ⟨i + 1, hlt, Weak.of hN rfl rfl rfl (by rw [hst]; (repeat' (first | exact rfl | exact AvIs.refl _ | exact trivial | exact fun _ _ => rfl | exact fun _ _ => ⟨rfl, AvIs.refl _⟩ | refine ⟨?_, ?_⟩))) (by rw [hst]; exact ⟨frI, ⟨rfl, rfl, rfl⟩, rfl, hrow⟩), by omega⟩
      · have hie : i = n := by omega
        subst hie
        (repeat (first | refine XK.n ?_ | refine XK.a ?_ | refine XK.b ?_))
        (first | refine XK.out rfl rfl rfl ?_ | refine XK.outN rfl rfl rfl ?_)
        rfl
end Go.Proofs.YtlhmgphgnedlkaaGreat
end
section
/- Contracts: estoppellaw14: example, head. -/
namespace Go.Proofs.YtlhmgphgnedlkaaGreat
open Go.Eng
set_option maxRecDepth 10000
end Go.Proofs.YtlhmgphgnedlkaaGreat
end
section
/- The law TracePrefix: the walk. -/
namespace Go.Proofs.YtlhmgphgnedlkaaGreat
open Go.Eng
set_option maxRecDepth 10000
theorem holderR_at {k : K} {l : List Int} (h : checkR k l = 0) {i n : Nat} (hi : i < k.holders.length) (hn : n ≤ l.length) : holderR k l i n = ((holdTo k l i n).1, 0) := by
  rw [holderR, if_neg (by simpa using h), if_neg (by omega)]
  rfl
end Go.Proofs.YtlhmgphgnedlkaaGreat
end
section
/- Contracts: package quantity, conversions and sums. -/
namespace Go.Proofs.YtlhmgphgnedlkaaGreat
open Go.Eng
set_option maxRecDepth 10000
end Go.Proofs.YtlhmgphgnedlkaaGreat
end
section
/- Contracts: package quantity, sums. -/
namespace Go.Proofs.YtlhmgphgnedlkaaGreat
open Go.Eng
set_option maxRecDepth 10000
def setQ (f : Nat → Q) (i : Nat) (v : Q) : Nat → Q := fun j => if j = i then v else f j
def sumsV (n : Nat) (r : (Nat → Q) × Int) : AV := .tup [ratV (if r.2 = 0 then n else 0) r.1, .c (.int .i64 r.2)]
theorem fracR_W (neg : Bool) (n d : Nat) : qW (fracR neg n d).1 := by
  unfold fracR
  split
  · simp [qW, inK]
  · rename_i h
    simp only [not_or, Nat.not_lt] at h
    generalize n / n.gcd d = x at *
    generalize d / n.gcd d = y at *
    simp only [qW, inK]
    split <;> omega
theorem makeR_W (a b : Int) : qW (makeR a b).1 := by
  unfold makeR
  split
  · simp [qW, inK]
  · exact fracR_W _ _ _
theorem addR_W (a b : Q) : qW (addR a b).1 := by
  unfold addR
  split
  · exact makeR_W _ _
  · simp [qW, inK]
theorem sumsV_err {n : Nat} {r : (Nat → Q) × Int} {e : Int} (he : r.2 = e) (h : e ≠ 0) : AvIs (.tup [.c (.slice none 0 0), .c (.int .i64 e)]) (sumsV n r) := by
  subst he
  exact ⟨⟨rfl, if_neg h⟩, rfl⟩
theorem sumsV_ok {n : Nat} {r : (Nat → Q) × Int} {f : Nat → List AV} (h : r.2 = 0) (hf : ∀ i, f i = qc (r.1 i)) : AvIs (.tup [.rs 2 n f, .c (.int .i64 0)]) (sumsV n r) :=
  ⟨⟨rfl, by rw [if_pos h], fun i hi => (hf i).symm⟩, by show AV.c _ = AV.c _; rw [h]⟩
end Go.Proofs.YtlhmgphgnedlkaaGreat
end
section
/- What acts move: plain definitions. Contracts: tally.check, Given$1, Received$1, moves; trace.Course. -/
namespace Go.Proofs.YtlhmgphgnedlkaaGreat
open Go.Eng
set_option maxRecDepth 10000
structure TMv where
  unit : Int
  val : Q
  giver : Int
  recv : Int
def mvV (m : TMv) : AV := .agg [.c (.int .i64 m.unit), .c (.int .i64 m.val.1), .c (.int .i64 m.val.2), .c (.int .i64 m.giver), .c (.int .i64 m.recv)]
def mvAt (k : K) (l : List Int) (i : Nat) : Option TMv :=
  if l.getD i default = -1 ∨ (acAt k (l.getD i default).toNat).unit = -1 then none
  else some ⟨(acAt k (l.getD i default).toNat).unit, (acAt k (l.getD i default).toNat).lot, (followR k l i).hold (acAt k (l.getD i default).toNat).role.toNat,
    if (acAt k (l.getD i default).toNat).to ≠ -1 then (followR k l i).hold (acAt k (l.getD i default).toNat).to.toNat else -1⟩
abbrev Tl := (Nat → Q) × Int × Int
def tlStep (ch : TMv → Int) (party : Int) (q : Nat → Q) (m : TMv) : (Nat → Q) × Int :=
  if ch m ≠ party then (q, 0) else if (addR (q m.unit.toNat) m.val).2 ≠ 0 then (q, 2) else (setQ q m.unit.toNat (addR (q m.unit.toNat) m.val).1, 0)
def tlT (ch : TMv → Int) (party : Int) (mv : Nat → Option TMv) : Nat → Tl
  | 0 => (fun _ => (0, 1), 0, 0)
  | i + 1 => if (tlT ch party mv i).2.1 ≠ 0 then tlT ch party mv i else match mv i with
    | none => ((tlT ch party mv i).1, 0, (i : Int) + 1)
    | some m => ((tlStep ch party (tlT ch party mv i).1 m).1, (tlStep ch party (tlT ch party mv i).1 m).2, (i : Int) + 1)
theorem tlT_none {ch : TMv → Int} {party : Int} {mv : Nat → Option TMv} {i : Nat} (h : mv i = none) (h0 : (tlT ch party mv i).2.1 = 0) : tlT ch party mv (i + 1) = ((tlT ch party mv i).1, 0, (i : Int) + 1) := by
  simp only [tlT, h, h0, ne_eq, not_true_eq_false, if_false]
theorem tlT_some {ch : TMv → Int} {party : Int} {mv : Nat → Option TMv} {i : Nat} {m : TMv} (h : mv i = some m) (h0 : (tlT ch party mv i).2.1 = 0) : tlT ch party mv (i + 1) = ((tlStep ch party (tlT ch party mv i).1 m).1, (tlStep ch party (tlT ch party mv i).1 m).2, (i : Int) + 1) := by
  simp only [tlT, h, h0, ne_eq, not_true_eq_false, if_false]
theorem tlT_stop {ch : TMv → Int} {party : Int} {mv : Nat → Option TMv} {i : Nat} (h : (tlT ch party mv i).2.1 ≠ 0) : ∀ m, i ≤ m → tlT ch party mv m = tlT ch party mv i := by
  intro m hm
  induction m with
  | zero => have : i = 0 := by omega
            rw [this]
  | succ m ih =>
    by_cases h1 : i = m + 1
    · rw [h1]
    · have h2 := ih (by omega)
      simp only [tlT]
      rw [if_pos (by rw [h2]; exact h), h2]
theorem tlT_steps {ch : TMv → Int} {party : Int} {mv : Nat → Option TMv} : ∀ {i : Nat}, (tlT ch party mv i).2.1 = 0 → (tlT ch party mv i).2.2 = i
  | 0, _ => rfl
  | i + 1, h => by
    by_cases h0 : (tlT ch party mv i).2.1 = 0
    · cases hm : mv i with
      | none => rw [tlT_none hm h0]; rfl
      | some m => rw [tlT_some hm h0]; rfl
    · rw [tlT_stop h0 (i + 1) (by omega)] at h; exact absurd h h0
theorem stepS_W {ch : TMv → Int} {party : Int} {q : Nat → Q} {m : TMv} (h : ∀ u, qW (q u)) : ∀ u, qW ((tlStep ch party q m).1 u) := by
  intro u
  unfold tlStep
  split
  · exact h u
  · split
    · exact h u
    · simp only [setQ]
      split
      · exact addR_W _ _
      · exact h u
theorem tlT_W {ch : TMv → Int} {party : Int} {mv : Nat → Option TMv} : ∀ i u, qW ((tlT ch party mv i).1 u)
  | 0, u => ⟨by simp [tlT, inK], by simp [tlT, inK]⟩
  | i + 1, u => by
    have ih := tlT_W (ch := ch) (party := party) (mv := mv) i
    simp only [tlT]
    split
    · exact ih u
    · split
      · exact ih u
      · exact stepS_W ih u
theorem check17_ok (k : K) (hk : kW k) (l : List Int) : Does Tryz.prog 74 [kV k, intsV l] (.c (.int .i64 (checkR k l))) := by
  refine Does.mk (fun _ => false) TT_ok Tryz.func74 rfl (by kernel_rfl) Tryz.ntmps74 rfl rfl fun E hT hE hN hR => ?_
  have hm := mixO hE
  have h : (holderR k l 0 0).2 = checkR k l := by
    by_cases h1 : checkR k l = 0
    · have := (checkR_ok hk h1).1.facts.nh
      have h2 := holderR_at h1 (i := 0) (n := 0) (by omega) (by omega)
      simp only [Int.ofNat_zero] at h2
      rw [h2, h1]
    · rw [holderR, if_pos h1]
  (repeat (first | refine XK.n ?_ | refine XK.a ?_ | refine XK.b ?_)); refine XK.region ?_; refine XL.g ?_
  refine XL.callLA hE rfl rfl rfl rfl trivial rfl (holder_ok k hk l 0 0) rfl ?_
  refine XL.g ?_; refine XL.fin ?_; (repeat (first | refine XK.n ?_ | refine XK.a ?_ | refine XK.b ?_))
  (repeat (first | refine XK.n ?_ | refine XK.a ?_ | refine XK.b ?_))
  (first | refine XK.out rfl rfl rfl ?_ | refine XK.outN rfl rfl rfl ?_)
  rw [h]
theorem given1_ok (m : TMv) : Does Tryz.prog 48 [mvV m] (.c (.int .i64 m.giver)) := by
  refine Does.mk (fun _ => false) TT_ok Tryz.func48 rfl (by kernel_rfl) Tryz.ntmps48 rfl rfl fun E hT hE hN hR => ?_
  have hm := mixO hE
  (repeat (first | refine XK.n ?_ | refine XK.a ?_ | refine XK.b ?_))
  (first | refine XK.out rfl rfl rfl ?_ | refine XK.outN rfl rfl rfl ?_)
  rfl
theorem received1_ok (m : TMv) : Does Tryz.prog 49 [mvV m] (.c (.int .i64 m.recv)) := by
  refine Does.mk (fun _ => false) TT_ok Tryz.func49 rfl (by kernel_rfl) Tryz.ntmps49 rfl rfl fun E hT hE hN hR => ?_
  have hm := mixO hE
  (repeat (first | refine XK.n ?_ | refine XK.a ?_ | refine XK.b ?_))
  (first | refine XK.out rfl rfl rfl ?_ | refine XK.outN rfl rfl rfl ?_)
  rfl
theorem moves_ok (k : K) (l : List Int) : Does Tryz.prog 75 [kV k, intsV l] (.fn (.func 113) [] [.rptr (kC k), .rptr [intsV l]]) := by
  refine Does.mk (fun _ => false) TT_ok Tryz.func75 rfl (by kernel_rfl) Tryz.ntmps75 rfl rfl fun E hT hE hN hR => ?_
  have hm := mixO hE
  (repeat (first | refine XK.n ?_ | refine XK.a ?_ | refine XK.b ?_))
  refine XK.weak (Weak.trans (Weak.frozenC (k := 2) hN rfl rfl rfl) (Weak.frozenC (k := 3) hN rfl rfl rfl)) ?_
  (first | refine XK.out rfl rfl rfl ?_ | refine XK.outN rfl rfl rfl ?_)
  rfl
theorem course_ok (k : K) (l : List Int) : Does Tryz.prog 114 [kV k, intsV l] (.fn (.func 133) [] [.rptr (kC k), .rptr [intsV l]]) := by
  refine Does.mk (fun _ => false) TT_ok Tryz.func114 rfl (by kernel_rfl) Tryz.ntmps114 rfl rfl fun E hT hE hN hR => ?_
  have hm := mixO hE
  (repeat (first | refine XK.n ?_ | refine XK.a ?_ | refine XK.b ?_))
  refine XK.weak (Weak.trans (Weak.frozenC (k := 2) hN rfl rfl rfl) (Weak.frozenC (k := 3) hN rfl rfl rfl)) ?_
  (first | refine XK.out rfl rfl rfl ?_ | refine XK.outN rfl rfl rfl ?_)
  rfl
end Go.Proofs.YtlhmgphgnedlkaaGreat
end
section
/- Contracts: trace.Course, run by tally.moves. -/
namespace Go.Proofs.YtlhmgphgnedlkaaGreat
open Go.Eng
set_option maxRecDepth 10000
def ratsN (n : Nat) (q : Nat → Q) : Ob := .vec 46 2 0 n (fun i => [.c (.int .i64 (q i).1), .c (.int .i64 (q i).2)])
def tlCs (party : Int) (fid : Nat) (p : Nat) : List AV := frL 75 [(6, .rptr [.c (.int .i64 party)]), (7, .rptr [.fn (.func fid) [] []]), (8, .ptr (p + 2) 0), (9, .ptr (p + 3) 0), (11, .ptr p 0)]
def tlRec (mk : LoopState → Option Code → Array Value → Obj) (e : Int) : Array Value → Obj := if e = 0 then mk .ready none else mk .done (some .ret)
def o2 (n : Nat) (party : Int) (fid : Nat) (mk : LoopState → Option Code → Array Value → Obj) (b : Nat) (s : Tl) : List Ob :=
  [.cells 3 [.c (.int .i64 s.2.2)], .lrec (tlRec mk s.2.1) b (tlCs party fid 3), .cells 61 [.vec 4 0], ratsN n s.1, .cells 61 [.c (.slice none 0 0)], .cells 32 [.c (.int .i64 s.2.1)]]
def mvCs (k : K) (l : List Int) (L1 : Nat) : List AV := frL 64 [(1, .rptr (kC k)), (2, .rptr [intsV l]), (3, .rptr [.fn (.yield L1) [] []]), (4, .ptr 1 0)]
def rdN20 (k : K) (r : Rd) : List (Nat × Ob) := [(20, .cells 206 [.c (.int .i64 k.parties), intsV k.holders, unitsV k.units, actsV k.acts, clsV k.clauses, .c (.int .i64 k.days), intsV k.off,
  .c (.int .i64 r.steps), .c (.int .i64 r.day), .vec 21 0, .vec 22 0, freeV k, .mp 23, .vec 24 0, .vec 25 0]), (21, holdO k r), (22, hapO k r), (23, waitO r), (24, cntO k r), (25, outO k r)]
def o2N (n : Nat) (party : Int) (fid : Nat) (mk : LoopState → Option Code → Array Value → Obj) (b : Nat) (s : Tl) : List (Nat × Ob) :=
  [(1, .cells 3 [.c (.int .i64 s.2.2)]), (2, .lrec (tlRec mk s.2.1) b (tlCs party fid 3)), (3, .cells 61 [.vec 4 0]), (4, ratsN n s.1), (5, .cells 61 [.c (.slice none 0 0)]), (6, .cells 32 [.c (.int .i64 s.2.1)])]
theorem course1_ok (k : K) (hk : kW k) (l : List Int) (hc : checkR k l = 0) (party : Int) (fid : Nat) (L1 b : Nat) (mk : LoopState → Option Code → Array Value → Obj) (L b2 : Nat) (mk2 : LoopState → Option Code → Array Value → Obj) (st : Nat → Tl)
    (h0 : (st 0).2.1 = 0) (hS : ∀ i, (st i).2.1 ≠ 0 → ∀ m, i ≤ m → st m = st i)
    (hY : ∀ j, j < l.length → (st j).2.1 = 0 → DoesR Tryz.prog L [.vec 7 0, .vec 8 0]
      (.lrec (mk2 .ready none) b2 (mvCs k l L1) :: (o2 k.units.length party fid mk b (st j) ++ [holdO k (followR k l j), outO k (followR k l j)])) (.c (.bool (decide ((st (j + 1)).2.1 = 0))))
      (.lrec (if (st (j + 1)).2.1 = 0 then mk2 .ready none else mk2 .done (some .ret)) b2 (mvCs k l L1) :: (o2 k.units.length party fid mk b (st (j + 1)) ++ [holdO k (followR k l j), outO k (followR k l j)])))
    (hZ : (st l.length).2.1 = 0 → DoesR Tryz.prog L [.vec 7 0, .vec 8 0]
      (.lrec (mk2 .ready none) b2 (mvCs k l L1) :: (o2 k.units.length party fid mk b (st l.length) ++ [holdO k (followR k l l.length), outO k (followR k l l.length)])) (.c (.bool false))
      (.lrec (mk2 .done (some .ret)) b2 (mvCs k l L1) :: (o2 k.units.length party fid mk b (st l.length) ++ [holdO k (followR k l l.length), outO k (followR k l l.length)]))) :
    DoesM Tryz.prog 133 [.fn (.yield L) [] [], .rptr (kC k), .rptr [intsV l]] (.lrec (mk2 .ready none) b2 (mvCs k l L1) :: o2 k.units.length party fid mk b (st 0)) (.tup [])
      (.lrec (mk2 .done (some .ret)) b2 (mvCs k l L1) :: o2 k.units.length party fid mk b (st l.length)) := by
  refine DoesM.mk (fun _ => false) 100 TT_ok Tryz.func133 rfl (by kernel_rfl) Tryz.ntmps133 rfl rfl rfl fun E hT hE hN hR => ?_
  have hm := mixO hE
  obtain ⟨h2, h3, h4, -⟩ := checkR_ok hk hc
  have hF := h2.facts
  (repeat (first | refine XK.n ?_ | refine XK.a ?_ | refine XK.b ?_)); refine XK.region ?_; refine XL.g ?_
  refine XL.callLA hE rfl rfl rfl rfl trivial rfl (check_ok k hk l) rfl ?_
  rw [hc]
  refine XL.g ?_; refine XL.fin ?_; (repeat (first | refine XK.n ?_ | refine XK.a ?_ | refine XK.b ?_))
  (repeat (first | refine XK.n ?_ | refine XK.a ?_ | refine XK.b ?_)); refine XK.cond rfl (fun h1 => ?_) (fun h1 => ?_) <;> (try simp at h1)
  · (repeat (first | refine XK.n ?_ | refine XK.a ?_ | refine XK.b ?_)); refine XK.region ?_; refine XL.g ?_
    refine XL.callMA [20, 21, 22, 23, 24, 25] hE rfl rfl rfl rfl trivial (begin_ok k hF) rfl rfl rfl rfl rfl ?_
    refine XL.g ?_; refine XL.fin ?_; (repeat (first | refine XK.n ?_ | refine XK.a ?_ | refine XK.b ?_))
    have hb0 : beginR k = followR k l 0 := rfl
    rw [hb0]
    by_cases hl0 : 0 < l.length
    · have hY0 := hY 0 hl0 h0
      (repeat (first | refine XK.n ?_ | refine XK.a ?_ | refine XK.b ?_)); refine XK.drawn hm ?_; refine XD.goA hT rfl rfl rfl rfl ?_
      ((refine XD.yieldM [0, 1, 2, 3, 4, 5, 6, 21, 25] hE rfl rfl rfl rfl trivial (hY0) rfl ?_ rfl ?_ rfl rfl rfl ?_); (focus (repeat' (first | exact rfl | exact AvIs.refl _ | exact trivial | (intro i hi; rfl) | exact fun _ _ => ⟨rfl, AvIs.refl _⟩ | (intro i hi; rcases i with _ | _ | _ | _ | _ | _ | _ | i <;> first | rfl | exact absurd hi (by simp; done) | (simp at hi; omega)) | refine ⟨?_, ?_⟩))); (focus (repeat' (first | exact rfl | exact AvIs.refl _ | exact trivial | (intro i hi; rfl) | exact fun _ _ => ⟨rfl, AvIs.refl _⟩ | (intro i hi; rcases i with _ | _ | _ | _ | _ | _ | _ | i <;> first | rfl | exact absurd hi (by simp; done) | (simp at hi; omega)) | refine ⟨?_, ?_⟩))))
      refine XD.goA hT rfl rfl rfl rfl ?_; refine XD.fin (by kernel_rfl) ?_; (repeat (first | refine XK.n ?_ | refine XK.a ?_ | refine XK.b ?_))
      (repeat (first | refine XK.n ?_ | refine XK.a ?_ | refine XK.b ?_)); refine XK.cond rfl (fun h5 => ?_) (fun h5 => ?_)
      · have h5 : (st 1).2.1 ≠ 0 := by simpa using h5
        rw [if_neg h5, hS 1 h5 l.length hl0]
        (repeat (first | refine XK.n ?_ | refine XK.a ?_ | refine XK.b ?_))
        (first | refine XK.outR [0, 1, 2, 3, 4, 5, 6] hN rfl rfl rfl ?_ rfl rfl ?_ | refine XK.outRN [0, 1, 2, 3, 4, 5, 6] hN rfl rfl rfl ?_ rfl rfl ?_)
        · (repeat' (first | exact rfl | exact AvIs.refl _ | exact trivial | exact fun _ _ => rfl | exact fun _ _ => ⟨rfl, AvIs.refl _⟩ | refine ⟨?_, ?_⟩))
        · (repeat' (first | exact rfl | exact AvIs.refl _ | exact trivial | exact fun _ _ => rfl | exact fun _ _ => ⟨rfl, AvIs.refl _⟩ | refine ⟨?_, ?_⟩))
      · have h5 : (st 1).2.1 = 0 := by simpa using h5
        rw [if_pos h5]
        (repeat (first | refine XK.n ?_ | refine XK.a ?_ | refine XK.b ?_))
        refine XK.loop (ι := Nat) (fun i => ST.of [(0, .fn (.yield L) [] []), (4, .ptr 20 0), (24, intsV l), (25, .c (.int .i64 l.length)), (26, .c (.int .i64 i))]
          ((0, .lrec (mk2 .ready none) b2 (mvCs k l L1)) :: (o2N k.units.length party fid mk b (st (i + 1)) ++ rdN20 k (followR k l i))) 2000 45 (fun _ => false))
          (fun i => i < l.length ∧ (st (i + 1)).2.1 = 0) (fun i => l.length - i) 0 ⟨hl0, h5⟩
          (Weak.of hN rfl rfl rfl frI frI) fun i hi => ?_
        obtain ⟨hi, hst⟩ := hi
        (repeat (first | refine XK.n ?_ | refine XK.a ?_ | refine XK.b ?_)); refine XK.cond rfl (fun hlt => ?_) (fun hlt => ?_) <;> (try simp at hlt)
        · have hs := h3 i hi
          have hok := (followR_ok hF l i (by omega)).1
          (repeat (first | refine XK.n ?_ | refine XK.a ?_ | refine XK.b ?_)); refine XK.region ?_; refine XL.g ?_
          refine XL.callMA [20, 21, 22, 23, 24, 25] hE rfl rfl rfl rfl trivial (step_ok k hF (followR k l i) hok (l.getD i default) hs) rfl rfl rfl rfl rfl ?_
          refine XL.g ?_; refine XL.fin ?_; (repeat (first | refine XK.n ?_ | refine XK.a ?_ | refine XK.b ?_))
          have hfo : stepR k (followR k l i) (l.getD i default) = followR k l (i + 1) := rfl
          rw [hfo]
          by_cases hl1 : i + 1 < l.length
          · have hY1 := hY (i + 1) hl1 hst
            (repeat (first | refine XK.n ?_ | refine XK.a ?_ | refine XK.b ?_)); refine XK.drawn hm ?_; refine XD.goA hT rfl rfl rfl rfl ?_
            ((refine XD.yieldM [0, 1, 2, 3, 4, 5, 6, 21, 25] hE rfl rfl rfl rfl trivial (hY1) rfl ?_ rfl ?_ rfl rfl rfl ?_); (focus (repeat' (first | exact rfl | exact AvIs.refl _ | exact trivial | (intro i hi; rfl) | exact fun _ _ => ⟨rfl, AvIs.refl _⟩ | (intro i hi; rcases i with _ | _ | _ | _ | _ | _ | _ | i <;> first | rfl | exact absurd hi (by simp; done) | (simp at hi; omega)) | refine ⟨?_, ?_⟩))); (focus (repeat' (first | exact rfl | exact AvIs.refl _ | exact trivial | (intro i hi; rfl) | exact fun _ _ => ⟨rfl, AvIs.refl _⟩ | (intro i hi; rcases i with _ | _ | _ | _ | _ | _ | _ | i <;> first | rfl | exact absurd hi (by simp; done) | (simp at hi; omega)) | refine ⟨?_, ?_⟩))))
            refine XD.goA hT rfl rfl rfl rfl ?_; refine XD.fin (by kernel_rfl) ?_; (repeat (first | refine XK.n ?_ | refine XK.a ?_ | refine XK.b ?_))
            (repeat (first | refine XK.n ?_ | refine XK.a ?_ | refine XK.b ?_)); refine XK.cond rfl (fun h6 => ?_) (fun h6 => ?_)
            · have h6 : (st (i + 1 + 1)).2.1 ≠ 0 := by simpa using h6
              rw [if_neg h6, hS (i + 1 + 1) h6 l.length (by omega)]
              (repeat (first | refine XK.n ?_ | refine XK.a ?_ | refine XK.b ?_))
              (first | refine XK.outR [0, 1, 2, 3, 4, 5, 6] hN rfl rfl rfl ?_ rfl rfl ?_ | refine XK.outRN [0, 1, 2, 3, 4, 5, 6] hN rfl rfl rfl ?_ rfl rfl ?_)
              · (repeat' (first | exact rfl | exact AvIs.refl _ | exact trivial | exact fun _ _ => rfl | exact fun _ _ => ⟨rfl, AvIs.refl _⟩ | refine ⟨?_, ?_⟩))
              · (repeat' (first | exact rfl | exact AvIs.refl _ | exact trivial | exact fun _ _ => rfl | exact fun _ _ => ⟨rfl, AvIs.refl _⟩ | refine ⟨?_, ?_⟩))
            · have h6 : (st (i + 1 + 1)).2.1 = 0 := by simpa using h6
              rw [if_pos h6]
              (repeat (first | refine XK.n ?_ | refine XK.a ?_ | refine XK.b ?_))
              exact XK.inv ⟨i + 1, ⟨hl1, h6⟩, (Weak.of hN rfl rfl rfl frI frI), by omega⟩
          · have hie : i + 1 = l.length := by omega
            rw [hie] at hst ⊢
            have hZ1 := hZ hst
            (repeat (first | refine XK.n ?_ | refine XK.a ?_ | refine XK.b ?_)); refine XK.drawn hm ?_; refine XD.goA hT rfl rfl rfl rfl ?_
            ((refine XD.yieldM [0, 1, 2, 3, 4, 5, 6, 21, 25] hE rfl rfl rfl rfl trivial (hZ1) rfl ?_ rfl ?_ rfl rfl rfl ?_); (focus (repeat' (first | exact rfl | exact AvIs.refl _ | exact trivial | (intro i hi; rfl) | exact fun _ _ => ⟨rfl, AvIs.refl _⟩ | (intro i hi; rcases i with _ | _ | _ | _ | _ | _ | _ | i <;> first | rfl | exact absurd hi (by simp; done) | (simp at hi; omega)) | refine ⟨?_, ?_⟩))); (focus (repeat' (first | exact rfl | exact AvIs.refl _ | exact trivial | (intro i hi; rfl) | exact fun _ _ => ⟨rfl, AvIs.refl _⟩ | (intro i hi; rcases i with _ | _ | _ | _ | _ | _ | _ | i <;> first | rfl | exact absurd hi (by simp; done) | (simp at hi; omega)) | refine ⟨?_, ?_⟩))))
            refine XD.goA hT rfl rfl rfl rfl ?_; refine XD.fin (by kernel_rfl) ?_; (repeat (first | refine XK.n ?_ | refine XK.a ?_ | refine XK.b ?_))
            (repeat (first | refine XK.n ?_ | refine XK.a ?_ | refine XK.b ?_)); refine XK.cond rfl (fun h6 => ?_) (fun h6 => ?_) <;> (try simp at h6)
            (repeat (first | refine XK.n ?_ | refine XK.a ?_ | refine XK.b ?_))
            (first | refine XK.outR [0, 1, 2, 3, 4, 5, 6] hN rfl rfl rfl ?_ rfl rfl ?_ | refine XK.outRN [0, 1, 2, 3, 4, 5, 6] hN rfl rfl rfl ?_ rfl rfl ?_)
            · (repeat' (first | exact rfl | exact AvIs.refl _ | exact trivial | exact fun _ _ => rfl | exact fun _ _ => ⟨rfl, AvIs.refl _⟩ | refine ⟨?_, ?_⟩))
            · (repeat' (first | exact rfl | exact AvIs.refl _ | exact trivial | exact fun _ _ => rfl | exact fun _ _ => ⟨rfl, AvIs.refl _⟩ | refine ⟨?_, ?_⟩))
        · omega
    · have hl1 : l.length = 0 := by omega
      rw [hl1] at hZ ⊢
      have hZ1 := hZ h0
      (repeat (first | refine XK.n ?_ | refine XK.a ?_ | refine XK.b ?_)); refine XK.drawn hm ?_; refine XD.goA hT rfl rfl rfl rfl ?_
      ((refine XD.yieldM [0, 1, 2, 3, 4, 5, 6, 21, 25] hE rfl rfl rfl rfl trivial (hZ1) rfl ?_ rfl ?_ rfl rfl rfl ?_); (focus (repeat' (first | exact rfl | exact AvIs.refl _ | exact trivial | (intro i hi; rfl) | exact fun _ _ => ⟨rfl, AvIs.refl _⟩ | (intro i hi; rcases i with _ | _ | _ | _ | _ | _ | _ | i <;> first | rfl | exact absurd hi (by simp; done) | (simp at hi; omega)) | refine ⟨?_, ?_⟩))); (focus (repeat' (first | exact rfl | exact AvIs.refl _ | exact trivial | (intro i hi; rfl) | exact fun _ _ => ⟨rfl, AvIs.refl _⟩ | (intro i hi; rcases i with _ | _ | _ | _ | _ | _ | _ | i <;> first | rfl | exact absurd hi (by simp; done) | (simp at hi; omega)) | refine ⟨?_, ?_⟩))))
      refine XD.goA hT rfl rfl rfl rfl ?_; refine XD.fin (by kernel_rfl) ?_; (repeat (first | refine XK.n ?_ | refine XK.a ?_ | refine XK.b ?_))
      (repeat (first | refine XK.n ?_ | refine XK.a ?_ | refine XK.b ?_)); refine XK.cond rfl (fun h6 => ?_) (fun h6 => ?_) <;> (try simp at h6)
      (repeat (first | refine XK.n ?_ | refine XK.a ?_ | refine XK.b ?_))
      (first | refine XK.outR [0, 1, 2, 3, 4, 5, 6] hN rfl rfl rfl ?_ rfl rfl ?_ | refine XK.outRN [0, 1, 2, 3, 4, 5, 6] hN rfl rfl rfl ?_ rfl rfl ?_)
      · (repeat' (first | exact rfl | exact AvIs.refl _ | exact trivial | exact fun _ _ => rfl | exact fun _ _ => ⟨rfl, AvIs.refl _⟩ | refine ⟨?_, ?_⟩))
      · (repeat' (first | exact rfl | exact AvIs.refl _ | exact trivial | exact fun _ _ => rfl | exact fun _ _ => ⟨rfl, AvIs.refl _⟩ | refine ⟨?_, ?_⟩))
end Go.Proofs.YtlhmgphgnedlkaaGreat
end
section
/- Contracts: tally.moves, run by tally.sums. -/
namespace Go.Proofs.YtlhmgphgnedlkaaGreat
open Go.Eng
set_option maxRecDepth 10000
def tlO (n : Nat) (s : Tl) : List Ob := [.cells 61 [.vec 2 0], ratsN n s.1, .cells 61 [.c (.slice none 0 0)], .cells 32 [.c (.int .i64 s.2.1)]]
theorem act_unit {k : K} {a : Act} (h : actB k a = true) (hu : a.unit ≠ -1) : (0 ≤ a.role ∧ a.role < k.holders.length) ∧ (a.to = -1 ∨ 0 ≤ a.to ∧ a.to < k.holders.length) ∧ (0 ≤ a.unit ∧ a.unit < k.units.length) ∧ posB a.lot = true := by
  unfold actB at h
  split at h
  · simp only [Bool.and_eq_true, beq_iff_eq] at h
    exact absurd h.1.2 hu
  · rename_i h1
    have h1 : 0 ≤ a.role ∧ a.role < k.holders.length := by simpa [movB] using h1
    split at h
    · split at h
      · cases h
      · rename_i h2
        simp only [Bool.and_eq_true, decide_eq_true_eq] at h
        refine ⟨h1, ?_, h.1, h.2⟩
        by_cases h3 : a.to = -1
        · exact .inl h3
        · right
          have : ¬ movB k a.to = false := fun h4 => h2 (.inr ⟨h3, h4⟩)
          simpa [movB] using this
    · split at h
      · simp only [Bool.and_eq_true, beq_iff_eq] at h
        exact absurd h.1.2 hu
      · cases h
theorem moves1_ok (k : K) (hk : kW k) (l : List Int) (hc : checkR k l = 0) (party : Int) (fid : Nat) (L b : Nat) (mk : LoopState → Option Code → Array Value → Obj) (ch : TMv → Int)
    (hY : ∀ i, i < l.length → ∀ m, mvAt k l i = some m → ∀ s : Tl, (∀ u, qW (s.1 u)) → s.2.1 = 0 → DoesR Tryz.prog L [mvV m] (.lrec (mk .ready none) b (tlCs party fid 1) :: tlO k.units.length s) (.c (.bool (decide ((tlStep ch party s.1 m).2 = 0))))
      (.lrec (tlRec mk (tlStep ch party s.1 m).2) b (tlCs party fid 1) :: tlO k.units.length ((tlStep ch party s.1 m).1, (tlStep ch party s.1 m).2, s.2.2))) :
    DoesM Tryz.prog 113 [.fn (.yield L) [] [], .rptr (kC k), .rptr [intsV l]] (.lrec (mk .ready none) b (tlCs party fid 1) :: tlO k.units.length (tlT ch party (mvAt k l) 0)) (.tup [])
      (.lrec (tlRec mk (tlT ch party (mvAt k l) l.length).2.1) b (tlCs party fid 1) :: tlO k.units.length (tlT ch party (mvAt k l) l.length)) := by
  refine DoesM.mk (fun _ => false) 100 TT_ok Tryz.func113 rfl (by kernel_rfl) Tryz.ntmps113 rfl rfl rfl fun E hT hE hN hR => ?_
  have hm := mixO hE
  obtain ⟨h2, h3, h4, -⟩ := checkR_ok hk hc
  have hF := h2.facts
  (repeat (first | refine XK.n ?_ | refine XK.a ?_ | refine XK.b ?_))
  (repeat (first | refine XK.n ?_ | refine XK.a ?_ | refine XK.b ?_)); refine XK.region ?_; refine XL.g ?_
  refine XL.callKA hE rfl rfl rfl rfl trivial rfl rfl (course_ok k l) ?_
  refine XL.g ?_; refine XL.fin ?_; (repeat (first | refine XK.n ?_ | refine XK.a ?_ | refine XK.b ?_))
  refine XK.weak (Weak.trans (Weak.frozenC (k := 103) hN rfl rfl rfl) (Weak.of (L := [(1, .rptr (kC k)), (2, .rptr [intsV l]), (3, .rptr [.fn (.yield L) [] []]), (4, .ptr 168 0), (11, .fn (.func 133) [] [.rptr (kC k), .rptr [intsV l]])])
    (O := [(0, .lrec (mk .ready none) b (tlCs party fid 1)), (1, .cells 61 [.vec 2 0]), (2, ratsN k.units.length (fun _ => (0, 1))), (3, .cells 61 [.c (.slice none 0 0)]), (4, .cells 32 [.c (.int .i64 0)]), (168, .cells 3 [.c (.int .i64 0)])]) (nx := 2000) (nt := 64) (md := fun _ => false) hN rfl rfl rfl frI frI)) ?_
  generalize hsf : tlT ch party (mvAt k l) l.length = sf
  refine XK.rangeFunc 900 [168, 0, 1, 2, 3, 4] (frL 64 [(1, .rptr (kC k)), (2, .rptr [intsV l]), (3, .rptr [.fn (.yield L) [] []]), (4, .ptr 168 0)])
    (ST.of [] [(0, .lrec (tlRec mk sf.2.1) b (tlCs party fid 1)), (1, .cells 61 [.vec 2 0]), (2, ratsN k.units.length sf.1), (3, .cells 61 [.c (.slice none 0 0)]), (4, .cells 32 [.c (.int .i64 sf.2.1)])] 3000 64 (fun _ => false))
    (res := .tup []) (args' := [.rptr (kC k), .rptr [intsV l]]) (s := .done) (pend := some .ret) (O' := o2 k.units.length party fid mk b sf) (O := o2 k.units.length party fid mk b (tlT ch party (mvAt k l) 0)) hR rfl trivial rfl (frL_length _ _) (frL_is frI) (fun L' D fn => ?_) rfl frI rfl rfl frI rfl rfl (by simp) (fun L' D fn cs => (Weak.of hN rfl rfl rfl frI frI)) ?_
  · rw [← hsf, hE]
    refine course1_ok k hk l hc party fid L b mk L' L' (recOf fn _ _ _ D) (tlT ch party (mvAt k l)) rfl (fun i h m hm => tlT_stop h m hm) (fun j hj h0 => ?_) (fun h0 => ?_)
    · have hstp := tlT_steps h0
      have hn := fun h => tlT_none (ch := ch) (party := party) (mv := mvAt k l) (i := j) h h0
      have hs := fun m h => tlT_some (ch := ch) (party := party) (mv := mvAt k l) (i := j) (m := m) h h0
      have hYj := hY j hj
      have hlj := h3 j hj
      have hqW := tlT_W (ch := ch) (party := party) (mv := mvAt k l) j
      generalize tlT ch party (mvAt k l) (j + 1) = s1 at *
      generalize tlT ch party (mvAt k l) j = s0 at *
      obtain ⟨q, e, sp⟩ := s0
      simp only at h0 hstp
      subst h0 hstp
      refine DoesR.mkT TT_ok (fun _ => false) 100 (ST.of [(1, .rptr (kC k)), (2, .rptr [intsV l]), (3, .rptr [.fn (.yield L) [] []]), (4, .ptr 1 0), (5, .vec 7 0)]
        ((0, .lrec (recOf fn _ _ _ D .ready none) L' (mvCs k l L)) :: (o2N k.units.length party fid mk b (q, 0, (j : Int)) ++ [(7, holdO k (followR k l j)), (8, outO k (followR k l j))])) 1000 64 (fun _ => false)) rfl ?_ (Nat.le_refl 8) (fun E hT hE hN hR => ?_) rfl (fun E hT hE hN hR => ?_)
      · intro x hx
        simp only [List.mem_toArray, List.mem_cons, List.not_mem_nil, or_false] at hx
        show x < (frL 64 _).length
        rw [frL_length]
        rcases hx with rfl | rfl <;> decide
      · have hm := mixO hE
        (repeat (first | refine XK.n ?_ | refine XK.a ?_ | refine XK.b ?_))
        exact XK.nil ⟨rfl, (Weak.of hN rfl rfl rfl frI frI)⟩
      · have hm := mixO hE
        have fx : l.getD (j : Int).toNat default = l.getD j default := rfl
        (repeat (first | refine XK.n ?_ | refine XK.a ?_ | refine XK.b ?_)); refine XK.cond rfl (fun h5 => ?_) (fun h5 => ?_) <;> (try simp at h5)
        · exfalso
          have : (j : Int) = l.length := by simpa using h5
          omega
        · have hmv : mvAt k l j = if l.getD j default = -1 ∨ (acAt k (l.getD j default).toNat).unit = -1 then none
            else some ⟨(acAt k (l.getD j default).toNat).unit, (acAt k (l.getD j default).toNat).lot, (followR k l j).hold (acAt k (l.getD j default).toNat).role.toNat,
              if (acAt k (l.getD j default).toNat).to ≠ -1 then (followR k l j).hold (acAt k (l.getD j default).toNat).to.toNat else -1⟩ := rfl
          generalize mvAt k l j = mo at *
          have hah : ∀ z : Int, 0 ≤ z → z < k.acts.length → actB k (acAt k z.toNat) = true := fun z h1 h2 => hF.act z.toNat (by omega)
          (repeat (first | refine XK.n ?_ | refine XK.a ?_ | refine XK.b ?_))
          rw [fx]
          generalize l.getD j default = z at *
          have fa : k.acts.getD z.toNat default = acAt k z.toNat := rfl
          (repeat (first | refine XK.n ?_ | refine XK.a ?_ | refine XK.b ?_)); refine XK.cond rfl (fun h6 => ?_) (fun h6 => ?_)
          · have h6 : z = -1 ∨ (acAt k z.toNat).unit = -1 := by simpa [acAt] using h6
            rw [if_pos h6] at hmv
            obtain rfl := hn hmv
            (repeat (first | refine XK.n ?_ | refine XK.a ?_ | refine XK.b ?_))
            (first | refine XK.outY [0, 1, 2, 3, 4, 5, 6, 7, 8] hN rfl rfl rfl ?_ ?_ ?_ | refine XK.outYN [0, 1, 2, 3, 4, 5, 6, 7, 8] hN rfl rfl rfl ?_ ?_ ?_)
            · (repeat' (first | exact rfl | exact AvIs.refl _ | exact trivial | exact fun _ _ => rfl | exact fun _ _ => ⟨rfl, AvIs.refl _⟩ | refine ⟨?_, ?_⟩))
            · rfl
            · rfl
          · have h6 : ¬ (z = -1 ∨ (acAt k z.toNat).unit = -1) := by simpa [acAt] using h6
            rw [if_neg h6] at hmv
            have hz := hlj.resolve_left fun h => h6 (.inl h)
            have hau := act_unit (hah z hz.1 hz.2) (fun h => h6 (.inr h))
            obtain rfl := hs _ hmv
            have hYj := hYj _ hmv (q, 0, (j : Int)) hqW rfl
            (repeat (first | refine XK.n ?_ | refine XK.a ?_ | refine XK.b ?_))
            rw [fa]
            generalize acAt k z.toNat = ac at *
            (repeat (first | refine XK.n ?_ | refine XK.a ?_ | refine XK.b ?_))
            (repeat (first | refine XK.n ?_ | refine XK.a ?_ | refine XK.b ?_)); refine XK.cond rfl (fun h7 => ?_) (fun h7 => ?_)
            · have h7 : ac.to ≠ -1 := by simpa using h7
              rw [if_pos h7] at hYj ⊢
              have hto := hau.2.1.resolve_left h7
              (repeat (first | refine XK.n ?_ | refine XK.a ?_ | refine XK.b ?_)); refine XK.region ?_; refine XL.g ?_
              ((refine XL.yieldM [2, 3, 4, 5, 6] hE rfl rfl rfl rfl trivial (hYj) rfl ?_ rfl ?_ rfl rfl rfl ?_); (focus (repeat' (first | exact rfl | exact AvIs.refl _ | exact trivial | (intro i hi; rfl) | exact fun _ _ => ⟨rfl, AvIs.refl _⟩ | (intro i hi; rcases i with _ | _ | _ | _ | _ | _ | _ | i <;> first | rfl | exact absurd hi (by simp; done) | (simp at hi; omega)) | refine ⟨?_, ?_⟩))); (focus (repeat' (first | exact rfl | exact AvIs.refl _ | exact trivial | (intro i hi; rfl) | exact fun _ _ => ⟨rfl, AvIs.refl _⟩ | (intro i hi; rcases i with _ | _ | _ | _ | _ | _ | _ | i <;> first | rfl | exact absurd hi (by simp; done) | (simp at hi; omega)) | refine ⟨?_, ?_⟩))))
              refine XL.g ?_; refine XL.fin ?_; (repeat (first | refine XK.n ?_ | refine XK.a ?_ | refine XK.b ?_))
              generalize tlStep ch party q ⟨ac.unit, ac.lot, (followR k l j).hold ac.role.toNat, (followR k l j).hold ac.to.toNat⟩ = sr at *
              (repeat (first | refine XK.n ?_ | refine XK.a ?_ | refine XK.b ?_)); refine XK.cond rfl (fun h8 => ?_) (fun h8 => ?_)
              · have h8 : sr.2 ≠ 0 := by simpa using h8
                (repeat (first | refine XK.n ?_ | refine XK.a ?_ | refine XK.b ?_))
                (first | refine XK.outY [0, 1, 2, 3, 4, 5, 6, 7, 8] hN rfl rfl rfl ?_ ?_ ?_ | refine XK.outYN [0, 1, 2, 3, 4, 5, 6, 7, 8] hN rfl rfl rfl ?_ ?_ ?_)
                · (repeat' (first | exact rfl | exact AvIs.refl _ | exact trivial | exact fun _ _ => rfl | exact fun _ _ => ⟨rfl, AvIs.refl _⟩ | refine ⟨?_, ?_⟩))
                · simp [h8]
                · show _ = if sr.2 = 0 then _ else _
                  rw [if_neg h8]
              · have h8 : sr.2 = 0 := by simpa using h8
                (repeat (first | refine XK.n ?_ | refine XK.a ?_ | refine XK.b ?_))
                (first | refine XK.outY [0, 1, 2, 3, 4, 5, 6, 7, 8] hN rfl rfl rfl ?_ ?_ ?_ | refine XK.outYN [0, 1, 2, 3, 4, 5, 6, 7, 8] hN rfl rfl rfl ?_ ?_ ?_)
                · (repeat' (first | exact rfl | exact AvIs.refl _ | exact trivial | exact fun _ _ => rfl | exact fun _ _ => ⟨rfl, AvIs.refl _⟩ | refine ⟨?_, ?_⟩))
                · simp [h8]
                · show _ = if sr.2 = 0 then _ else _
                  rw [if_pos h8]
            · have h7 : ¬ ac.to ≠ -1 := by simpa using h7
              rw [if_neg h7] at hYj ⊢
              (repeat (first | refine XK.n ?_ | refine XK.a ?_ | refine XK.b ?_)); refine XK.region ?_; refine XL.g ?_
              ((refine XL.yieldM [2, 3, 4, 5, 6] hE rfl rfl rfl rfl trivial (hYj) rfl ?_ rfl ?_ rfl rfl rfl ?_); (focus (repeat' (first | exact rfl | exact AvIs.refl _ | exact trivial | (intro i hi; rfl) | exact fun _ _ => ⟨rfl, AvIs.refl _⟩ | (intro i hi; rcases i with _ | _ | _ | _ | _ | _ | _ | i <;> first | rfl | exact absurd hi (by simp; done) | (simp at hi; omega)) | refine ⟨?_, ?_⟩))); (focus (repeat' (first | exact rfl | exact AvIs.refl _ | exact trivial | (intro i hi; rfl) | exact fun _ _ => ⟨rfl, AvIs.refl _⟩ | (intro i hi; rcases i with _ | _ | _ | _ | _ | _ | _ | i <;> first | rfl | exact absurd hi (by simp; done) | (simp at hi; omega)) | refine ⟨?_, ?_⟩))))
              refine XL.g ?_; refine XL.fin ?_; (repeat (first | refine XK.n ?_ | refine XK.a ?_ | refine XK.b ?_))
              generalize tlStep ch party q ⟨ac.unit, ac.lot, (followR k l j).hold ac.role.toNat, -1⟩ = sr at *
              (repeat (first | refine XK.n ?_ | refine XK.a ?_ | refine XK.b ?_)); refine XK.cond rfl (fun h8 => ?_) (fun h8 => ?_)
              · have h8 : sr.2 ≠ 0 := by simpa using h8
                (repeat (first | refine XK.n ?_ | refine XK.a ?_ | refine XK.b ?_))
                (first | refine XK.outY [0, 1, 2, 3, 4, 5, 6, 7, 8] hN rfl rfl rfl ?_ ?_ ?_ | refine XK.outYN [0, 1, 2, 3, 4, 5, 6, 7, 8] hN rfl rfl rfl ?_ ?_ ?_)
                · (repeat' (first | exact rfl | exact AvIs.refl _ | exact trivial | exact fun _ _ => rfl | exact fun _ _ => ⟨rfl, AvIs.refl _⟩ | refine ⟨?_, ?_⟩))
                · simp [h8]
                · show _ = if sr.2 = 0 then _ else _
                  rw [if_neg h8]
              · have h8 : sr.2 = 0 := by simpa using h8
                (repeat (first | refine XK.n ?_ | refine XK.a ?_ | refine XK.b ?_))
                (first | refine XK.outY [0, 1, 2, 3, 4, 5, 6, 7, 8] hN rfl rfl rfl ?_ ?_ ?_ | refine XK.outYN [0, 1, 2, 3, 4, 5, 6, 7, 8] hN rfl rfl rfl ?_ ?_ ?_)
                · (repeat' (first | exact rfl | exact AvIs.refl _ | exact trivial | exact fun _ _ => rfl | exact fun _ _ => ⟨rfl, AvIs.refl _⟩ | refine ⟨?_, ?_⟩))
                · simp [h8]
                · show _ = if sr.2 = 0 then _ else _
                  rw [if_pos h8]
    · have hstp := tlT_steps h0
      rw [hsf] at h0 hstp ⊢
      obtain ⟨q, e, sp⟩ := sf
      simp only at h0 hstp
      subst h0 hstp
      clear hsf
      refine DoesR.mkT TT_ok (fun _ => false) 100 (ST.of [(1, .rptr (kC k)), (2, .rptr [intsV l]), (3, .rptr [.fn (.yield L) [] []]), (4, .ptr 1 0), (5, .vec 7 0)]
        ((0, .lrec (recOf fn _ _ _ D .ready none) L' (mvCs k l L)) :: (o2N k.units.length party fid mk b (q, 0, (l.length : Int)) ++ [(7, holdO k (followR k l l.length)), (8, outO k (followR k l l.length))])) 1000 64 (fun _ => false)) rfl ?_ (Nat.le_refl 8) (fun E hT hE hN hR => ?_) rfl (fun E hT hE hN hR => ?_)
      · intro x hx
        simp only [List.mem_toArray, List.mem_cons, List.not_mem_nil, or_false] at hx
        show x < (frL 64 _).length
        rw [frL_length]
        rcases hx with rfl | rfl <;> decide
      · have hm := mixO hE
        (repeat (first | refine XK.n ?_ | refine XK.a ?_ | refine XK.b ?_))
        exact XK.nil ⟨rfl, (Weak.of hN rfl rfl rfl frI frI)⟩
      · have hm := mixO hE
        (repeat (first | refine XK.n ?_ | refine XK.a ?_ | refine XK.b ?_)); refine XK.cond rfl (fun h5 => ?_) (fun h5 => ?_) <;> (try simp at h5)
        (repeat (first | refine XK.n ?_ | refine XK.a ?_ | refine XK.b ?_))
        (first | refine XK.outY [0, 1, 2, 3, 4, 5, 6, 7, 8] hN rfl rfl rfl ?_ ?_ ?_ | refine XK.outYN [0, 1, 2, 3, 4, 5, 6, 7, 8] hN rfl rfl rfl ?_ ?_ ?_)
        · (repeat' (first | exact rfl | exact AvIs.refl _ | exact trivial | exact fun _ _ => rfl | exact fun _ _ => ⟨rfl, AvIs.refl _⟩ | refine ⟨?_, ?_⟩))
        · rfl
        · rfl
  · (repeat (first | refine XK.n ?_ | refine XK.a ?_ | refine XK.b ?_))
    (first | refine XK.outR [0, 1, 2, 3, 4] hN rfl rfl rfl ?_ rfl rfl ?_ | refine XK.outRN [0, 1, 2, 3, 4] hN rfl rfl rfl ?_ rfl rfl ?_)
    · (repeat' (first | exact rfl | exact AvIs.refl _ | exact trivial | exact fun _ _ => rfl | exact fun _ _ => ⟨rfl, AvIs.refl _⟩ | refine ⟨?_, ?_⟩))
    · (repeat' (first | exact rfl | exact AvIs.refl _ | exact trivial | exact fun _ _ => rfl | exact fun _ _ => ⟨rfl, AvIs.refl _⟩ | refine ⟨?_, ?_⟩))
end Go.Proofs.YtlhmgphgnedlkaaGreat
end
