import Derived.Test.YtlhmgphgnedlkaaGreatZz13
import Derived.Test.YtlhmgphgnedlkaaGreatZz12
section
/- Contracts: package contract, the small functions. -/
namespace Go.Proofs.YtlhmgphgnedlkaaGreat
open Go.Eng
set_option maxRecDepth 10000
def movB (k : K) (r : Int) : Bool := decide (0 ≤ r) && decide (r < k.holders.length)
def posB (q : Q) : Bool := decide (0 < q.1) && qOk q
theorem movable_ok (k : K) (r : Int) : Does Tryz.prog 88 [kV k, .c (.int .i64 r)] (.c (.bool (movB k r))) := by
  refine Does.mk (fun _ => false) TT_ok Tryz.func88 rfl (by kernel_rfl) Tryz.ntmps88 rfl rfl fun E hT hE hN hR => ?_
  have hm := mixO hE
  (repeat (first | refine XK.n ?_ | refine XK.a ?_ | refine XK.b ?_))
  (first | refine XK.out rfl rfl rfl ?_ | refine XK.outN rfl rfl rfl ?_)
  simp [movB]
theorem none_ok : Does Tryz.prog 86 [] (qv (0, 1)) := by
  refine Does.mk (fun _ => false) TT_ok Tryz.func86 rfl (by kernel_rfl) Tryz.ntmps86 rfl rfl fun E hT hE hN hR => ?_
  have hm := mixO hE
  (repeat (first | refine XK.n ?_ | refine XK.a ?_ | refine XK.b ?_))
  (first | refine XK.out rfl rfl rfl ?_ | refine XK.outN rfl rfl rfl ?_)
  rfl
theorem positive_ok (q : Q) (h : qW q) : Does Tryz.prog 87 [qv q] (.c (.bool (posB q))) := by
  refine Does.mk (fun _ => false) TT_ok Tryz.func87 rfl (by kernel_rfl) Tryz.ntmps87 rfl rfl fun E hT hE hN hR => ?_
  have hm := mixO hE
  (repeat (first | refine XK.n ?_ | refine XK.a ?_ | refine XK.b ?_)); refine XK.region ?_; refine XL.g ?_
  refine XL.callGA hE rfl rfl rfl rfl rfl rfl rfl rfl (valid_ok q h) rfl ?_
  refine XL.g ?_; refine XL.fin ?_; (repeat (first | refine XK.n ?_ | refine XK.a ?_ | refine XK.b ?_))
  (repeat (first | refine XK.n ?_ | refine XK.a ?_ | refine XK.b ?_))
  (first | refine XK.out rfl rfl rfl ?_ | refine XK.outN rfl rfl rfl ?_)
  simp [posB]
def actAt (k : K) (i : Int) : Act := k.acts.getD i.toNat default
def natB (k : K) (i : Int) : Bool := decide (0 ≤ i) && decide (i < k.acts.length) && (actAt k i).kind == 1 && (actAt k i).role == -1
theorem natural_ok (k : K) (i : Int) : Does Tryz.prog 85 [kV k, .c (.int .i64 i)] (.c (.bool (natB k i))) := by
  refine Does.mk (fun _ => false) TT_ok Tryz.func85 rfl (by kernel_rfl) Tryz.ntmps85 rfl rfl fun E hT hE hN hR => ?_
  have hm := mixO hE
  (repeat (first | refine XK.n ?_ | refine XK.a ?_ | refine XK.b ?_))
  (first | refine XK.out rfl rfl rfl ?_ | refine XK.outN rfl rfl rfl ?_)
  rfl
def kindB (k : K) (x : Cl) : Bool :=
  if x.kind = 4 then x.role == -1 && x.need == 1 && x.grace == 0 && !x.final
  else if !movB k x.role || natB k x.act then false
  else if x.kind = 1 then decide (1 ≤ x.need) && decide (x.need ≤ 9) && decide (0 ≤ x.grace) && decide (x.grace ≤ 400)
  else if x.kind = 2 then x.need == 1 && x.grace == 0
  else if x.kind = 3 then x.need == 1 && x.grace == 0 && !x.final
  else false
theorem validKind_ok (k : K) (x : Cl) : Does Tryz.prog 84 [kV k, .agg (clC x)] (.c (.bool (kindB k x))) := by
  refine Does.mk (fun _ => false) TT_ok Tryz.func84 rfl (by kernel_rfl) Tryz.ntmps84 rfl rfl fun E hT hE hN hR => ?_
  have hm := mixO hE
  (repeat (first | refine XK.n ?_ | refine XK.a ?_ | refine XK.b ?_)); refine XK.cond rfl (fun h4 => ?_) (fun h4 => ?_) <;> (try simp at h4)
  · (repeat (first | refine XK.n ?_ | refine XK.a ?_ | refine XK.b ?_))
    (first | refine XK.out rfl rfl rfl ?_ | refine XK.outN rfl rfl rfl ?_)
    simp [kindB, h4]
  · (repeat (first | refine XK.n ?_ | refine XK.a ?_ | refine XK.b ?_)); refine XK.region ?_; refine XL.g ?_
    refine XL.callLA hE rfl rfl rfl rfl trivial rfl (movable_ok k x.role) rfl ?_
    refine XL.g ?_
    refine XL.callGA hE rfl rfl rfl rfl rfl rfl rfl rfl (natural_ok k x.act) rfl ?_
    refine XL.g ?_; refine XL.fin ?_; (repeat (first | refine XK.n ?_ | refine XK.a ?_ | refine XK.b ?_))
    (repeat (first | refine XK.n ?_ | refine XK.a ?_ | refine XK.b ?_)); refine XK.cond rfl (fun hm => ?_) (fun hm => ?_)
    · (repeat (first | refine XK.n ?_ | refine XK.a ?_ | refine XK.b ?_))
      (first | refine XK.out rfl rfl rfl ?_ | refine XK.outN rfl rfl rfl ?_)
      simp [kindB, h4, hm]
    · (repeat (first | refine XK.n ?_ | refine XK.a ?_ | refine XK.b ?_)); refine XK.cond rfl (fun h1 => ?_) (fun h1 => ?_) <;> (try simp at h1)
      · (repeat (first | refine XK.n ?_ | refine XK.a ?_ | refine XK.b ?_))
        (first | refine XK.out rfl rfl rfl ?_ | refine XK.outN rfl rfl rfl ?_)
        simp [kindB, h4, hm, h1]
      · (repeat (first | refine XK.n ?_ | refine XK.a ?_ | refine XK.b ?_)); refine XK.cond rfl (fun h2 => ?_) (fun h2 => ?_) <;> (try simp at h2)
        · (repeat (first | refine XK.n ?_ | refine XK.a ?_ | refine XK.b ?_))
          (first | refine XK.out rfl rfl rfl ?_ | refine XK.outN rfl rfl rfl ?_)
          simp [kindB, h4, hm, h1, h2]
        · (repeat (first | refine XK.n ?_ | refine XK.a ?_ | refine XK.b ?_)); refine XK.cond rfl (fun h3 => ?_) (fun h3 => ?_) <;> (try simp at h3)
          · (repeat (first | refine XK.n ?_ | refine XK.a ?_ | refine XK.b ?_))
            (first | refine XK.out rfl rfl rfl ?_ | refine XK.outN rfl rfl rfl ?_)
            simp [kindB, h4, hm, h1, h2, h3]
          · (repeat (first | refine XK.n ?_ | refine XK.a ?_ | refine XK.b ?_))
            (first | refine XK.out rfl rfl rfl ?_ | refine XK.outN rfl rfl rfl ?_)
            simp [kindB, h4, hm, h1, h2, h3]
end Go.Proofs.YtlhmgphgnedlkaaGreat
end
section
/- Contracts: package contract, validAct. -/
namespace Go.Proofs.YtlhmgphgnedlkaaGreat
open Go.Eng
set_option maxRecDepth 10000
def actB (k : K) (a : Act) : Bool :=
  if !movB k a.role then a.kind == 1 && a.role == -1 && a.give == 0 && (a.to == -1 || movB k a.to) && a.unit == -1 && (a.lot.1 == 0 && a.lot.2 == 1)
  else if a.kind = 1 then
    if a.give ≠ 0 ∨ (a.to ≠ -1 ∧ movB k a.to = false) then false
    else if a.unit = -1 then a.lot.1 == 0 && a.lot.2 == 1
    else decide (0 ≤ a.unit) && decide (a.unit < k.units.length) && posB a.lot
  else if a.kind = 2 ∨ a.kind = 3 then movB k a.give && decide (0 ≤ a.to) && decide (a.to < k.parties) && a.unit == -1 && (a.lot.1 == 0 && a.lot.2 == 1)
  else false
theorem validAct_ok (k : K) (a : Act) (ha : actW a) : Does Tryz.prog 83 [kV k, .agg (actC a)] (.c (.bool (actB k a))) := by
  refine Does.mk (fun _ => false) TT_ok Tryz.func83 rfl (by kernel_rfl) Tryz.ntmps83 rfl rfl fun E hT hE hN hR => ?_
  have hm := mixO hE
  (repeat (first | refine XK.n ?_ | refine XK.a ?_ | refine XK.b ?_)); refine XK.region ?_; refine XL.g ?_
  refine XL.callLA hE rfl rfl rfl rfl trivial rfl (movable_ok k a.role) rfl ?_
  refine XL.g ?_; refine XL.fin ?_; (repeat (first | refine XK.n ?_ | refine XK.a ?_ | refine XK.b ?_))
  (repeat (first | refine XK.n ?_ | refine XK.a ?_ | refine XK.b ?_)); refine XK.cond rfl (fun hv => ?_) (fun hv => ?_)
  · (repeat (first | refine XK.n ?_ | refine XK.a ?_ | refine XK.b ?_)); refine XK.drawn hm ?_; refine XD.goA hT rfl rfl rfl rfl ?_
    refine XD.callGA hE rfl rfl rfl rfl rfl rfl rfl rfl rfl (movable_ok k a.to) rfl ?_
    refine XD.goA hT rfl rfl rfl rfl ?_
    refine XD.callGA hE rfl rfl rfl rfl rfl rfl rfl rfl rfl (none_ok) rfl ?_
    refine XD.goA hT rfl rfl rfl rfl ?_; refine XD.fin (by kernel_rfl) ?_; (repeat (first | refine XK.n ?_ | refine XK.a ?_ | refine XK.b ?_))
    (repeat (first | refine XK.n ?_ | refine XK.a ?_ | refine XK.b ?_))
    (first | refine XK.out rfl rfl rfl ?_ | refine XK.outN rfl rfl rfl ?_)
    simp [actB, hv]
  · (repeat (first | refine XK.n ?_ | refine XK.a ?_ | refine XK.b ?_)); refine XK.cond rfl (fun h1 => ?_) (fun h1 => ?_) <;> (try simp at h1)
    · (repeat (first | refine XK.n ?_ | refine XK.a ?_ | refine XK.b ?_)); refine XK.region ?_; refine XL.g ?_
      refine XL.callGA hE rfl rfl rfl rfl rfl rfl rfl rfl (movable_ok k a.to) rfl ?_
      refine XL.g ?_; refine XL.fin ?_; (repeat (first | refine XK.n ?_ | refine XK.a ?_ | refine XK.b ?_))
      (repeat (first | refine XK.n ?_ | refine XK.a ?_ | refine XK.b ?_)); refine XK.cond rfl (fun hx => ?_) (fun hx => ?_) <;> (try simp at hx)
      · (repeat (first | refine XK.n ?_ | refine XK.a ?_ | refine XK.b ?_))
        (first | refine XK.out rfl rfl rfl ?_ | refine XK.outN rfl rfl rfl ?_)
        simp [actB, hv, h1, hx]
      · have hx2 : a.to = -1 ∨ movB k a.to = true := by
          by_cases h : a.to = -1
          · exact .inl h
          · exact .inr (hx.2 h)
        (repeat (first | refine XK.n ?_ | refine XK.a ?_ | refine XK.b ?_)); refine XK.cond rfl (fun hu => ?_) (fun hu => ?_) <;> (try simp at hu)
        · (repeat (first | refine XK.n ?_ | refine XK.a ?_ | refine XK.b ?_)); refine XK.drawn hm ?_; refine XD.goA hT rfl rfl rfl rfl ?_
          refine XD.callLA hE rfl rfl rfl rfl trivial rfl (none_ok) rfl ?_
          refine XD.goA hT rfl rfl rfl rfl ?_; refine XD.fin (by kernel_rfl) ?_; (repeat (first | refine XK.n ?_ | refine XK.a ?_ | refine XK.b ?_))
          (repeat (first | refine XK.n ?_ | refine XK.a ?_ | refine XK.b ?_))
          (first | refine XK.out rfl rfl rfl ?_ | refine XK.outN rfl rfl rfl ?_)
          simp [actB, hv, h1, hx, hu]
          exact fun _ _ => hx2
        · (repeat (first | refine XK.n ?_ | refine XK.a ?_ | refine XK.b ?_)); refine XK.region ?_; refine XL.g ?_
          refine XL.callGA hE rfl rfl rfl rfl rfl rfl rfl rfl (positive_ok a.lot ha.2.2.2.2.2) rfl ?_
          refine XL.g ?_; refine XL.fin ?_; (repeat (first | refine XK.n ?_ | refine XK.a ?_ | refine XK.b ?_))
          (repeat (first | refine XK.n ?_ | refine XK.a ?_ | refine XK.b ?_))
          (first | refine XK.out rfl rfl rfl ?_ | refine XK.outN rfl rfl rfl ?_)
          simp [actB, hv, h1, hx, hu]
          exact fun _ _ _ => hx2
    · (repeat (first | refine XK.n ?_ | refine XK.a ?_ | refine XK.b ?_)); refine XK.cond rfl (fun h2 => ?_) (fun h2 => ?_) <;> (try simp at h2)
      · (repeat (first | refine XK.n ?_ | refine XK.a ?_ | refine XK.b ?_)); refine XK.cond rfl (fun h3 => ?_) (fun h3 => ?_) <;> (try simp at h3)
        · (repeat (first | refine XK.n ?_ | refine XK.a ?_ | refine XK.b ?_)); refine XK.drawn hm ?_; refine XD.goA hT rfl rfl rfl rfl ?_
          refine XD.callLA hE rfl rfl rfl rfl trivial rfl (movable_ok k a.give) rfl ?_
          refine XD.goA hT rfl rfl rfl rfl ?_
          refine XD.callGA hE rfl rfl rfl rfl rfl rfl rfl rfl rfl (none_ok) rfl ?_
          refine XD.goA hT rfl rfl rfl rfl ?_; refine XD.fin (by kernel_rfl) ?_; (repeat (first | refine XK.n ?_ | refine XK.a ?_ | refine XK.b ?_))
          (repeat (first | refine XK.n ?_ | refine XK.a ?_ | refine XK.b ?_))
          (first | refine XK.out rfl rfl rfl ?_ | refine XK.outN rfl rfl rfl ?_)
          simp [actB, hv, h1, h2]
        · exact absurd h2 h3
      · (repeat (first | refine XK.n ?_ | refine XK.a ?_ | refine XK.b ?_)); refine XK.cond rfl (fun h3 => ?_) (fun h3 => ?_) <;> (try simp at h3)
        · (repeat (first | refine XK.n ?_ | refine XK.a ?_ | refine XK.b ?_)); refine XK.drawn hm ?_; refine XD.goA hT rfl rfl rfl rfl ?_
          refine XD.callLA hE rfl rfl rfl rfl trivial rfl (movable_ok k a.give) rfl ?_
          refine XD.goA hT rfl rfl rfl rfl ?_
          refine XD.callGA hE rfl rfl rfl rfl rfl rfl rfl rfl rfl (none_ok) rfl ?_
          refine XD.goA hT rfl rfl rfl rfl ?_; refine XD.fin (by kernel_rfl) ?_; (repeat (first | refine XK.n ?_ | refine XK.a ?_ | refine XK.b ?_))
          (repeat (first | refine XK.n ?_ | refine XK.a ?_ | refine XK.b ?_))
          (first | refine XK.out rfl rfl rfl ?_ | refine XK.outN rfl rfl rfl ?_)
          simp [actB, hv, h1, h2, h3]
        · (repeat (first | refine XK.n ?_ | refine XK.a ?_ | refine XK.b ?_))
          (first | refine XK.out rfl rfl rfl ?_ | refine XK.outN rfl rfl rfl ?_)
          simp [actB, hv, h1, h2, h3]
end Go.Proofs.YtlhmgphgnedlkaaGreat
end
section
/- Contracts: package contract, held. -/
namespace Go.Proofs.YtlhmgphgnedlkaaGreat
open Go.Eng
set_option maxRecDepth 10000
def heldB (k : K) : Bool := k.holders.all (fun h => decide (0 ≤ h) && decide (h < k.parties))
theorem all_at {α : Type} [Inhabited α] {p : α → Bool} {l : List α} : l.all p = true ↔ ∀ i, i < l.length → p (l.getD i default) = true := by
  rw [List.all_eq_true]
  constructor
  · intro h i hi
    simp only [List.getD_eq_getElem?_getD, List.getElem?_eq_getElem hi, Option.getD_some]
    exact h _ (List.getElem_mem hi)
  · intro h x hx
    obtain ⟨i, hi, rfl⟩ := List.getElem_of_mem hx
    have := h i hi
    simpa only [List.getD_eq_getElem?_getD, List.getElem?_eq_getElem hi, Option.getD_some] using this
theorem all_not {α : Type} [Inhabited α] {p : α → Bool} {l : List α} {i : Nat} (hi : i < l.length) (h : p (l.getD i default) = false) : l.all p = false := by
  rw [← Bool.not_eq_true, all_at]
  intro h2
  rw [h2 i hi] at h
  cases h
theorem held_ok (k : K) (hk : kW k) : Does Tryz.prog 81 [kV k] (.c (.bool (heldB k))) := by
  refine Does.mk (fun _ => false) TT_ok Tryz.func81 rfl (by kernel_rfl) Tryz.ntmps81 rfl rfl fun E hT hE hN hR => ?_
  have hm := mixO hE
  have hp : -9223372036854775808 ≤ k.parties ∧ k.parties ≤ 9223372036854775807 := hk.1
  (repeat (first | refine XK.n ?_ | refine XK.a ?_ | refine XK.b ?_))
  refine XK.fact (Sat.rs_len (j := 6) rfl) fun hlen => ?_
  have hm' := hlen.1
  refine XK.loop (ι := Nat) (fun i => ST.of [(1, .ptr 1 0), (7, .c (.int .i64 k.holders.length)), (8, .c (.int .i64 i))] [(1, .cells 27 (kC k))] 1000 25 (fun _ => false))
    (fun i => i ≤ k.holders.length ∧ ∀ j, j < i → (decide (0 ≤ k.holders.getD j default) && decide (k.holders.getD j default < k.parties)) = true) (fun i => k.holders.length - i) 0 ⟨Nat.zero_le _, fun j hj => absurd hj (Nat.not_lt_zero _)⟩
    (Weak.of hN rfl rfl rfl ⟨rfl, rfl, rfl⟩ ⟨rfl, rfl⟩) fun i hi => ?_
  obtain ⟨hi1, hi2⟩ := hi
  (repeat (first | refine XK.n ?_ | refine XK.a ?_ | refine XK.b ?_)); refine XK.cond rfl (fun hlt => ?_) (fun hlt => ?_) <;> (try simp at hlt)
  · (repeat (first | refine XK.n ?_ | refine XK.a ?_ | refine XK.b ?_))
    refine XK.loop (ι := Nat) (fun p => ST.of [(1, .ptr 1 0), (3, .c (.int .i64 i)), (7, .c (.int .i64 k.holders.length)), (8, .c (.int .i64 i)), (12, .c (.int .i64 k.parties)), (13, .c (.int .i64 p))] [(1, .cells 27 (kC k))] 2000 25 (fun _ => false))
      (fun p => (p = 0 ∨ (p : Int) ≤ k.parties) ∧ ∀ q : Nat, q < p → k.holders.getD i default ≠ q) (fun p => k.parties.toNat - p) 0 ⟨.inl rfl, fun j hj => absurd hj (Nat.not_lt_zero _)⟩
      (Weak.of hN rfl rfl rfl ⟨rfl, rfl, rfl, rfl, rfl, rfl⟩ ⟨rfl, rfl⟩) fun p hp2 => ?_
    obtain ⟨hp1, hp2⟩ := hp2
    (repeat (first | refine XK.n ?_ | refine XK.a ?_ | refine XK.b ?_)); refine XK.cond rfl (fun hc => ?_) (fun hc => ?_) <;> (try simp at hc)
    · (repeat (first | refine XK.n ?_ | refine XK.a ?_ | refine XK.b ?_)); refine XK.cond rfl (fun he => ?_) (fun he => ?_) <;> (try simp at he)
      · (repeat (first | refine XK.n ?_ | refine XK.a ?_ | refine XK.b ?_))
        refine XK.inv ⟨i + 1, ⟨hlt, fun j hj => ?_⟩, Weak.of hN rfl rfl rfl ⟨rfl, rfl, rfl⟩ ⟨rfl, rfl⟩, by omega⟩
        by_cases h : j = i
        · subst h
          have he : k.holders.getD j default = p := by simpa using he
          rw [he]
          simp
          omega
        · exact hi2 j (by omega)
      · (repeat (first | refine XK.n ?_ | refine XK.a ?_ | refine XK.b ?_))
        refine XK.inv ⟨p + 1, ⟨.inr (by omega), fun q hq => ?_⟩, Weak.of hN rfl rfl rfl ⟨rfl, rfl, rfl, rfl, rfl, rfl⟩ ⟨rfl, rfl⟩, by omega⟩
        by_cases h : q = p
        · subst h
          simpa using he
        · exact hp2 q (by omega)
    · (repeat (first | refine XK.n ?_ | refine XK.a ?_ | refine XK.b ?_))
      (first | refine XK.out rfl rfl rfl ?_ | refine XK.outN rfl rfl rfl ?_)
      refine cB ?_
      symm
      refine all_not hlt ?_
      by_cases h0 : 0 ≤ k.holders.getD i default
      · have := hp2 (k.holders.getD i default).toNat
        simp only [Bool.and_eq_false_iff, decide_eq_false_iff_not]
        right
        intro h1
        exact hp2 (k.holders.getD i default).toNat (by omega) (by omega)
      · simp only [Bool.and_eq_false_iff, decide_eq_false_iff_not]
        exact .inl h0
  · (repeat (first | refine XK.n ?_ | refine XK.a ?_ | refine XK.b ?_))
    (first | refine XK.out rfl rfl rfl ?_ | refine XK.outN rfl rfl rfl ?_)
    refine cB ?_
    symm
    exact all_at.2 fun j hj => hi2 j (by omega)
end Go.Proofs.YtlhmgphgnedlkaaGreat
end
section
/- Contracts: package contract, framed. -/
namespace Go.Proofs.YtlhmgphgnedlkaaGreat
open Go.Eng
set_option maxRecDepth 10000
def offPrev (k : K) (i : Nat) : Int := if i = 0 then -1 else k.off.getD (i - 1) default
def offB (k : K) : Bool := (List.range k.off.length).all (fun i => decide (offPrev k i < k.off.getD i default) && decide (k.off.getD i default < k.days))
noncomputable def framedB (k : K) : Bool :=
  if k.parties < 1 ∨ k.days < 1 ∨ k.holders.length = 0 ∨ heldB k = false then false
  else if (validR (fun j => k.units.getD j default) k.units.length).2 = false then false
  else k.acts.all (actB k) && offB k
theorem framed_ok (k : K) (hk : kW k) : Does Tryz.prog 56 [kV k] (.c (.bool (framedB k))) := by
  refine Does.mk (fun _ => false) TT_ok Tryz.func56 rfl (by kernel_rfl) Tryz.ntmps56 rfl rfl fun E hT hE hN hR => ?_
  have hm := mixO hE
  (repeat (first | refine XK.n ?_ | refine XK.a ?_ | refine XK.b ?_)); refine XK.region ?_; refine XL.g ?_
  refine XL.callGA hE rfl rfl rfl rfl rfl rfl rfl rfl (held_ok k hk) rfl ?_
  refine XL.g ?_; refine XL.fin ?_; (repeat (first | refine XK.n ?_ | refine XK.a ?_ | refine XK.b ?_))
  (repeat (first | refine XK.n ?_ | refine XK.a ?_ | refine XK.b ?_)); refine XK.cond rfl (fun h1 => ?_) (fun h1 => ?_)
  · (repeat (first | refine XK.n ?_ | refine XK.a ?_ | refine XK.b ?_))
    (first | refine XK.out rfl rfl rfl ?_ | refine XK.outN rfl rfl rfl ?_)
    have : k.parties < 1 ∨ k.days < 1 ∨ k.holders.length = 0 ∨ heldB k = false := by
      simp only [Bool.or_eq_true, decide_eq_true_eq, beq_iff_eq, Bool.not_eq_true'] at h1
      rcases h1 with ((h | h) | h) | h
      · exact .inl h
      · exact .inr (.inl h)
      · exact .inr (.inr (.inl (by omega)))
      · exact .inr (.inr (.inr h))
    simp only [framedB, if_pos this]
  · have h1' : ¬ (k.parties < 1 ∨ k.days < 1 ∨ k.holders.length = 0 ∨ heldB k = false) := by
      intro h
      rcases h with h | h | h | h <;> simp [h] at h1
    (repeat (first | refine XK.n ?_ | refine XK.a ?_ | refine XK.b ?_)); refine XK.region ?_; refine XL.g ?_
    refine XL.callLA hE rfl rfl rfl rfl trivial rfl (qvalid_ok k.units.length (fun j => k.units.getD j default) (all_getD hk.2.2.1)) rfl ?_
    refine XL.g ?_; refine XL.fin ?_; (repeat (first | refine XK.n ?_ | refine XK.a ?_ | refine XK.b ?_))
    (repeat (first | refine XK.n ?_ | refine XK.a ?_ | refine XK.b ?_)); refine XK.cond rfl (fun h2 => ?_) (fun h2 => ?_)
    · (repeat (first | refine XK.n ?_ | refine XK.a ?_ | refine XK.b ?_))
      (first | refine XK.out rfl rfl rfl ?_ | refine XK.outN rfl rfl rfl ?_)
      have : (validR (fun j => k.units.getD j default) k.units.length).2 = false := by simpa using h2
      simp only [framedB, if_neg h1', if_pos this]
    · have h2' : ¬ (validR (fun j => k.units.getD j default) k.units.length).2 = false := by
        simpa using h2
      (repeat (first | refine XK.n ?_ | refine XK.a ?_ | refine XK.b ?_))
      refine XK.fact (Sat.rs_len (j := 38) rfl) fun hlen => ?_
      have hm' := hlen.1
      refine XK.loop (ι := Nat) (fun i => ST.of [(1, .ptr 1 0), (38, actsV k.acts), (39, .c (.int .i64 k.acts.length)), (40, .c (.int .i64 i))] [(1, .cells 27 (kC k))] 1000 67 (fun _ => false))
        (fun i => i ≤ k.acts.length ∧ ∀ j, j < i → actB k (k.acts.getD j default) = true) (fun i => k.acts.length - i) 0 ⟨Nat.zero_le _, fun j hj => absurd hj (Nat.not_lt_zero _)⟩
        (Weak.of hN rfl rfl rfl ⟨rfl, AvIs.refl _, rfl, rfl⟩ ⟨rfl, rfl⟩) fun i hi => ?_
      obtain ⟨hi1, hi2⟩ := hi
      (repeat (first | refine XK.n ?_ | refine XK.a ?_ | refine XK.b ?_)); refine XK.cond rfl (fun hlt => ?_) (fun hlt => ?_) <;> (try simp at hlt)
      · (repeat (first | refine XK.n ?_ | refine XK.a ?_ | refine XK.b ?_)); refine XK.region ?_; refine XL.g ?_
        refine XL.callLA hE rfl rfl rfl rfl trivial rfl (validAct_ok k (k.acts.getD i default) (all_getD hk.2.2.2.1 i hlt)) rfl ?_
        refine XL.g ?_; refine XL.fin ?_; (repeat (first | refine XK.n ?_ | refine XK.a ?_ | refine XK.b ?_))
        (repeat (first | refine XK.n ?_ | refine XK.a ?_ | refine XK.b ?_)); refine XK.cond rfl (fun ha => ?_) (fun ha => ?_)
        · (repeat (first | refine XK.n ?_ | refine XK.a ?_ | refine XK.b ?_))
          (first | refine XK.out rfl rfl rfl ?_ | refine XK.outN rfl rfl rfl ?_)
          have : k.acts.all (actB k) = false := all_not hlt (by simpa using ha)
          simp only [framedB, if_neg h1', if_neg h2', this, Bool.false_and]
        · (repeat (first | refine XK.n ?_ | refine XK.a ?_ | refine XK.b ?_))
          refine XK.inv ⟨i + 1, ⟨hlt, fun j hj => ?_⟩, Weak.of hN rfl rfl rfl ⟨rfl, AvIs.refl _, rfl, rfl⟩ ⟨rfl, rfl⟩, by omega⟩
          by_cases h : j = i
          · subst h; simpa using ha
          · exact hi2 j (by omega)
      · have hacts : k.acts.all (actB k) = true := all_at.2 fun j hj => hi2 j (by omega)
        (repeat (first | refine XK.n ?_ | refine XK.a ?_ | refine XK.b ?_))
        refine XK.fact (Sat.rs_len (j := 50) rfl) fun hlen => ?_
        have hm'' := hlen.1
        refine XK.loop (ι := Nat) (fun i => ST.of [(1, .ptr 1 0), (7, .c (.int .i64 (offPrev k i))), (50, intsV k.off), (51, .c (.int .i64 k.off.length)), (52, .c (.int .i64 i))] [(1, .cells 27 (kC k))] 1000 67 (fun _ => false))
          (fun i => i ≤ k.off.length ∧ ∀ j, j < i → (decide (offPrev k j < k.off.getD j default) && decide (k.off.getD j default < k.days)) = true) (fun i => k.off.length - i) 0 ⟨Nat.zero_le _, fun j hj => absurd hj (Nat.not_lt_zero _)⟩
          (Weak.of hN rfl rfl rfl ⟨rfl, rfl, AvIs.refl _, rfl, rfl⟩ ⟨rfl, rfl⟩) fun i hi => ?_
        obtain ⟨hi1, hi2⟩ := hi
        (repeat (first | refine XK.n ?_ | refine XK.a ?_ | refine XK.b ?_)); refine XK.cond rfl (fun hlt => ?_) (fun hlt => ?_) <;> (try simp at hlt)
        · (repeat (first | refine XK.n ?_ | refine XK.a ?_ | refine XK.b ?_)); refine XK.cond rfl (fun ho => ?_) (fun ho => ?_)
          · (repeat (first | refine XK.n ?_ | refine XK.a ?_ | refine XK.b ?_))
            (first | refine XK.out rfl rfl rfl ?_ | refine XK.outN rfl rfl rfl ?_)
            have : offB k = false := by
              unfold offB
              rw [List.all_eq_false]
              refine ⟨i, by simpa using hlt, ?_⟩
              simp only [Bool.or_eq_true, decide_eq_true_eq, Int.toNat_natCast] at ho
              simp only [Bool.and_eq_true, decide_eq_true_eq, not_and]
              omega
            simp only [framedB, if_neg h1', if_neg h2', this, Bool.and_false]
          · (repeat (first | refine XK.n ?_ | refine XK.a ?_ | refine XK.b ?_))
            refine XK.inv ⟨i + 1, ⟨hlt, fun j hj => ?_⟩, Weak.of hN rfl rfl rfl ⟨rfl, rfl, AvIs.refl _, rfl, rfl⟩ ⟨rfl, rfl⟩, by omega⟩
            by_cases h : j = i
            · subst h
              simp only [Bool.or_eq_false_iff, decide_eq_false_iff_not, Int.toNat_natCast] at ho
              simp only [Bool.and_eq_true, decide_eq_true_eq]
              omega
            · exact hi2 j (by omega)
        · (repeat (first | refine XK.n ?_ | refine XK.a ?_ | refine XK.b ?_))
          (first | refine XK.out rfl rfl rfl ?_ | refine XK.outN rfl rfl rfl ?_)
          have : offB k = true := by
            simp only [offB, List.all_eq_true, List.mem_range]
            exact fun j hj => hi2 j (by omega)
          simp only [framedB, if_neg h1', if_neg h2', hacts, this, Bool.and_self]
end Go.Proofs.YtlhmgphgnedlkaaGreat
end
section
/- Contracts: package contract, validClause. -/
namespace Go.Proofs.YtlhmgphgnedlkaaGreat
open Go.Eng
set_option maxRecDepth 10000
def condB (k : K) (i : Int) (s : Cnd) : Bool := !(decide (s.clause < 0) || decide ((k.clauses.length : Int) ≤ s.clause) || s.clause == i || decide (s.is < 1) || decide (4 < s.is))
def clauseB (k : K) (i : Int) (x : Cl) : Bool :=
  if (decide (x.act < 0) || decide ((k.acts.length : Int) ≤ x.act) || decide (x.after < 1) || decide (400 < x.after)) = true then false
  else if (!kindB k x || decide ((8 : Int) < x.start.length)) = true then false
  else if x.start.all (condB k i) = false then false
  else if (x.pause ≠ -1 ∨ x.resume ≠ -1) ∧ (x.pause == x.resume || !natB k x.pause || !natB k x.resume) = true then false
  else if x.unit = -1 then (x.value.1 == 0 && x.value.2 == 1) && x.to == -1
  else (x.kind == 1 || x.kind == 2) && decide (0 ≤ x.unit) && decide (x.unit < k.units.length) && (k.units.getD x.unit.toNat default).kind == 2 && posB x.value && movB k x.to
theorem validClause_ok (k : K) (hk : kW k) (i : Nat) (hi : i < k.clauses.length) : Does Tryz.prog 57 [kV k, .c (.int .i64 i)] (.c (.bool (clauseB k i (k.clauses.getD i default)))) := by
  refine Does.mk (fun _ => false) TT_ok Tryz.func57 rfl (by kernel_rfl) Tryz.ntmps57 rfl rfl fun E hT hE hN hR => ?_
  have hm := mixO hE
  have hx := all_getD hk.2.2.2.2.1 i hi
  (repeat (first | refine XK.n ?_ | refine XK.a ?_ | refine XK.b ?_))
  refine XK.weak (Weak.of (L := [(1, .c (.int .i64 i)), (2, .ptr 2 0), (4, .c (.bool false)), (5, .ptr 165 0), (33, .c (.bool (decide ((k.clauses.getD i default).act < 0) || decide ((k.acts.length : Int) ≤ (k.clauses.getD i default).act) || decide ((k.clauses.getD i default).after < 1) || decide (400 < (k.clauses.getD i default).after))))]) (O := [(2, .cells 27 (kC k)), (165, .cells 48 (clC (k.clauses.getD i default)))]) (nx := 1000) (nt := 160) (md := fun _ => false) hN rfl rfl rfl ⟨rfl, rfl, rfl, rfl, rfl⟩ ⟨⟨rfl, rfl⟩, rfl, rfl⟩) ?_
  generalize k.clauses.getD i default = x at *
  (repeat (first | refine XK.n ?_ | refine XK.a ?_ | refine XK.b ?_)); refine XK.cond rfl (fun h1 => ?_) (fun h1 => ?_)
  · (repeat (first | refine XK.n ?_ | refine XK.a ?_ | refine XK.b ?_))
    (first | refine XK.out rfl rfl rfl ?_ | refine XK.outN rfl rfl rfl ?_)
    simp only [clauseB, if_pos h1]
  · rw [clauseB, if_neg (by rw [h1]; simp)]
    (repeat (first | refine XK.n ?_ | refine XK.a ?_ | refine XK.b ?_)); refine XK.region ?_; refine XL.g ?_
    refine XL.callLA hE rfl rfl rfl rfl trivial rfl (validKind_ok k x) rfl ?_
    refine XL.g ?_; refine XL.fin ?_; (repeat (first | refine XK.n ?_ | refine XK.a ?_ | refine XK.b ?_))
    (repeat (first | refine XK.n ?_ | refine XK.a ?_ | refine XK.b ?_)); refine XK.cond rfl (fun h2 => ?_) (fun h2 => ?_)
    · (repeat (first | refine XK.n ?_ | refine XK.a ?_ | refine XK.b ?_))
      (first | refine XK.out rfl rfl rfl ?_ | refine XK.outN rfl rfl rfl ?_)
      simp only [if_pos h2]
    · rw [if_neg (by rw [h2]; simp)]
      (repeat (first | refine XK.n ?_ | refine XK.a ?_ | refine XK.b ?_))
      refine XK.fact (Sat.rs_len (j := 45) rfl) fun hlen => ?_
      have hm' := hlen.1
      refine XK.loop (ι := Nat) (fun j => ST.of [(1, .c (.int .i64 i)), (2, .ptr 2 0), (4, .c (.bool false)), (5, .ptr 165 0), (45, cndsV x.start), (46, .c (.int .i64 x.start.length)), (47, .c (.int .i64 j))] [(2, .cells 27 (kC k)), (165, .cells 48 (clC x))] 3000 160 (fun _ => false))
        (fun j => j ≤ x.start.length ∧ ∀ q, q < j → condB k i (x.start.getD q default) = true) (fun j => x.start.length - j) 0 ⟨Nat.zero_le _, fun j hj => absurd hj (Nat.not_lt_zero _)⟩
        (Weak.of hN rfl rfl rfl ⟨rfl, rfl, rfl, rfl, AvIs.refl _, rfl, rfl⟩ ⟨⟨rfl, rfl⟩, rfl, rfl⟩) fun j hj => ?_
      obtain ⟨hj1, hj2⟩ := hj
      (repeat (first | refine XK.n ?_ | refine XK.a ?_ | refine XK.b ?_)); refine XK.cond rfl (fun hlt => ?_) (fun hlt => ?_) <;> (try simp at hlt)
      · (repeat (first | refine XK.n ?_ | refine XK.a ?_ | refine XK.b ?_)); refine XK.cond rfl (fun hb => ?_) (fun hb => ?_)
        · (repeat (first | refine XK.n ?_ | refine XK.a ?_ | refine XK.b ?_))
          (first | refine XK.out rfl rfl rfl ?_ | refine XK.outN rfl rfl rfl ?_)
          have : x.start.all (condB k i) = false := all_not hlt (by rw [condB, Bool.not_eq_false']; exact hb)
          rw [if_pos this]
        · (repeat (first | refine XK.n ?_ | refine XK.a ?_ | refine XK.b ?_))
          refine XK.inv ⟨j + 1, ⟨hlt, fun q hq => ?_⟩, Weak.of hN rfl rfl rfl ⟨rfl, rfl, rfl, rfl, AvIs.refl _, rfl, rfl⟩ ⟨⟨rfl, rfl⟩, rfl, rfl⟩, by omega⟩
          by_cases h : q = j
          · subst h
            rw [condB, Bool.not_eq_true']
            exact hb
          · exact hj2 q (by omega)
      · have hall : x.start.all (condB k i) = true := all_at.2 fun q hq => hj2 q (by omega)
        rw [if_neg (by rw [hall]; simp)]
        (repeat (first | refine XK.n ?_ | refine XK.a ?_ | refine XK.b ?_)); refine XK.cond rfl (fun hp => ?_) (fun hp => ?_) <;> (try simp at hp)
        · (repeat (first | refine XK.n ?_ | refine XK.a ?_ | refine XK.b ?_)); refine XK.region ?_; refine XL.g ?_
          refine XL.callGA hE rfl rfl rfl rfl rfl rfl rfl rfl (natural_ok k x.pause) rfl ?_
          refine XL.g ?_
          refine XL.callGA hE rfl rfl rfl rfl rfl rfl rfl rfl (natural_ok k x.resume) rfl ?_
          refine XL.g ?_; refine XL.fin ?_; (repeat (first | refine XK.n ?_ | refine XK.a ?_ | refine XK.b ?_))
          (repeat (first | refine XK.n ?_ | refine XK.a ?_ | refine XK.b ?_)); refine XK.cond rfl (fun hq => ?_) (fun hq => ?_)
          · (repeat (first | refine XK.n ?_ | refine XK.a ?_ | refine XK.b ?_))
            (first | refine XK.out rfl rfl rfl ?_ | refine XK.outN rfl rfl rfl ?_)
            rw [if_pos ⟨by simpa using hp, hq⟩]
          · rw [if_neg (by rw [hq]; simp)]
            (repeat (first | refine XK.n ?_ | refine XK.a ?_ | refine XK.b ?_)); refine XK.cond rfl (fun hu => ?_) (fun hu => ?_) <;> (try simp at hu)
            · (repeat (first | refine XK.n ?_ | refine XK.a ?_ | refine XK.b ?_)); refine XK.drawn hm ?_; refine XD.goA hT rfl rfl rfl rfl ?_
              refine XD.callLA hE rfl rfl rfl rfl trivial rfl (none_ok) rfl ?_
              refine XD.goA hT rfl rfl rfl rfl ?_; refine XD.fin (by kernel_rfl) ?_; (repeat (first | refine XK.n ?_ | refine XK.a ?_ | refine XK.b ?_))
              rw [if_pos hu]
              (repeat (first | refine XK.n ?_ | refine XK.a ?_ | refine XK.b ?_))
              (first | refine XK.out rfl rfl rfl ?_ | refine XK.outN rfl rfl rfl ?_)
              rfl
            · rw [if_neg hu]
              (repeat (first | refine XK.n ?_ | refine XK.a ?_ | refine XK.b ?_)); refine XK.region ?_; refine XL.g ?_
              refine XL.callGA hE rfl rfl rfl rfl rfl rfl rfl rfl (positive_ok x.value hx.2.2.2.2.2.2.2.2.2.1) rfl ?_
              refine XL.g ?_
              refine XL.callGA hE rfl rfl rfl rfl rfl rfl rfl rfl (movable_ok k x.to) rfl ?_
              refine XL.g ?_; refine XL.fin ?_; (repeat (first | refine XK.n ?_ | refine XK.a ?_ | refine XK.b ?_))
              (repeat (first | refine XK.n ?_ | refine XK.a ?_ | refine XK.b ?_))
              (first | refine XK.out rfl rfl rfl ?_ | refine XK.outN rfl rfl rfl ?_)
              rfl
        · rw [if_neg (by simp [hp])]
          (repeat (first | refine XK.n ?_ | refine XK.a ?_ | refine XK.b ?_)); refine XK.cond rfl (fun hu => ?_) (fun hu => ?_) <;> (try simp at hu)
          · (repeat (first | refine XK.n ?_ | refine XK.a ?_ | refine XK.b ?_)); refine XK.drawn hm ?_; refine XD.goA hT rfl rfl rfl rfl ?_
            refine XD.callLA hE rfl rfl rfl rfl trivial rfl (none_ok) rfl ?_
            refine XD.goA hT rfl rfl rfl rfl ?_; refine XD.fin (by kernel_rfl) ?_; (repeat (first | refine XK.n ?_ | refine XK.a ?_ | refine XK.b ?_))
            rw [if_pos hu]
            (repeat (first | refine XK.n ?_ | refine XK.a ?_ | refine XK.b ?_))
            (first | refine XK.out rfl rfl rfl ?_ | refine XK.outN rfl rfl rfl ?_)
            rfl
          · rw [if_neg hu]
            (repeat (first | refine XK.n ?_ | refine XK.a ?_ | refine XK.b ?_)); refine XK.region ?_; refine XL.g ?_
            refine XL.callGA hE rfl rfl rfl rfl rfl rfl rfl rfl (positive_ok x.value hx.2.2.2.2.2.2.2.2.2.1) rfl ?_
            refine XL.g ?_
            refine XL.callGA hE rfl rfl rfl rfl rfl rfl rfl rfl (movable_ok k x.to) rfl ?_
            refine XL.g ?_; refine XL.fin ?_; (repeat (first | refine XK.n ?_ | refine XK.a ?_ | refine XK.b ?_))
            (repeat (first | refine XK.n ?_ | refine XK.a ?_ | refine XK.b ?_))
            (first | refine XK.out rfl rfl rfl ?_ | refine XK.outN rfl rfl rfl ?_)
            rfl
end Go.Proofs.YtlhmgphgnedlkaaGreat
end
section
/- Contracts: package contract, Valid. -/
namespace Go.Proofs.YtlhmgphgnedlkaaGreat
open Go.Eng
set_option maxRecDepth 10000
def badCl (k : K) : Option Nat := (List.range k.clauses.length).find? (fun i => !clauseB k i (k.clauses.getD i default))
noncomputable def kValid (k : K) : Int × Int :=
  if (decide (12 < k.parties) || decide (2000 < k.days) || decide ((12 : Int) < k.holders.length) || decide ((20 : Int) < k.units.length) || decide ((60 : Int) < k.acts.length) || decide ((400 : Int) < k.clauses.length)) = true then (3, -1)
  else if framedB k = false then (1, -1)
  else match badCl k with
    | some i => (1, (i : Int))
    | none => (0, -1)
theorem find_range {p : Nat → Bool} {n i : Nat} (hi : i < n) (h : p i = true) (hl : ∀ j, j < i → p j = false) : (List.range n).find? p = some i := by
  rw [List.find?_range_eq_some]
  exact ⟨h, by simpa using hi, fun j hj => by simpa using hl j hj⟩
theorem kValid_ok (k : K) (hk : kW k) : Does Tryz.prog 24 [kV k] (.tup [.c (.int .i64 (kValid k).1), .c (.int .i64 (kValid k).2)]) := by
  refine Does.mk (fun _ => false) TT_ok Tryz.func24 rfl (by kernel_rfl) Tryz.ntmps24 rfl rfl fun E hT hE hN hR => ?_
  have hm := mixO hE
  (repeat (first | refine XK.n ?_ | refine XK.a ?_ | refine XK.b ?_)); refine XK.cond rfl (fun h1 => ?_) (fun h1 => ?_)
  · (repeat (first | refine XK.n ?_ | refine XK.a ?_ | refine XK.b ?_))
    (first | refine XK.out rfl rfl rfl ?_ | refine XK.outN rfl rfl rfl ?_)
    simp only [kValid, if_pos h1]
  · rw [kValid, if_neg (by rw [h1]; simp)]
    (repeat (first | refine XK.n ?_ | refine XK.a ?_ | refine XK.b ?_)); refine XK.region ?_; refine XL.g ?_
    refine XL.callLA hE rfl rfl rfl rfl trivial rfl (framed_ok k hk) rfl ?_
    refine XL.g ?_; refine XL.fin ?_; (repeat (first | refine XK.n ?_ | refine XK.a ?_ | refine XK.b ?_))
    (repeat (first | refine XK.n ?_ | refine XK.a ?_ | refine XK.b ?_)); refine XK.cond rfl (fun h2 => ?_) (fun h2 => ?_) <;> (try simp at h2)
    · (repeat (first | refine XK.n ?_ | refine XK.a ?_ | refine XK.b ?_))
      (first | refine XK.out rfl rfl rfl ?_ | refine XK.outN rfl rfl rfl ?_)
      simp only [if_pos h2]
    · rw [if_neg (by rw [h2]; simp)]
      (repeat (first | refine XK.n ?_ | refine XK.a ?_ | refine XK.b ?_))
      refine XK.loop (ι := Nat) (fun j => ST.of [(1, .ptr 1 0), (42, .c (.int .i64 k.clauses.length)), (43, .c (.int .i64 j))] [(1, .cells 27 (kC k))] 3000 52 (fun _ => false))
        (fun j => j ≤ k.clauses.length ∧ ∀ q, q < j → clauseB k q (k.clauses.getD q default) = true) (fun j => k.clauses.length - j) 0 ⟨Nat.zero_le _, fun j hj => absurd hj (Nat.not_lt_zero _)⟩
        (Weak.of hN rfl rfl rfl ⟨rfl, rfl, rfl⟩ ⟨rfl, rfl⟩) fun j hj => ?_
      obtain ⟨hj1, hj2⟩ := hj
      (repeat (first | refine XK.n ?_ | refine XK.a ?_ | refine XK.b ?_)); refine XK.cond rfl (fun hlt => ?_) (fun hlt => ?_) <;> (try simp at hlt)
      · (repeat (first | refine XK.n ?_ | refine XK.a ?_ | refine XK.b ?_)); refine XK.region ?_; refine XL.g ?_
        refine XL.callLA hE rfl rfl rfl rfl trivial rfl (validClause_ok k hk j hlt) rfl ?_
        refine XL.g ?_; refine XL.fin ?_; (repeat (first | refine XK.n ?_ | refine XK.a ?_ | refine XK.b ?_))
        (repeat (first | refine XK.n ?_ | refine XK.a ?_ | refine XK.b ?_)); refine XK.cond rfl (fun hb => ?_) (fun hb => ?_)
        · (repeat (first | refine XK.n ?_ | refine XK.a ?_ | refine XK.b ?_))
          (first | refine XK.out rfl rfl rfl ?_ | refine XK.outN rfl rfl rfl ?_)
          have : badCl k = some j := find_range hlt hb fun q hq => by rw [hj2 q hq]; rfl
          rw [this]
        · (repeat (first | refine XK.n ?_ | refine XK.a ?_ | refine XK.b ?_))
          refine XK.inv ⟨j + 1, ⟨hlt, fun q hq => ?_⟩, Weak.of hN rfl rfl rfl ⟨rfl, rfl, rfl⟩ ⟨rfl, rfl⟩, by omega⟩
          by_cases h : q = j
          · subst h; simpa using hb
          · exact hj2 q (by omega)
      · (repeat (first | refine XK.n ?_ | refine XK.a ?_ | refine XK.b ?_))
        (first | refine XK.out rfl rfl rfl ?_ | refine XK.outN rfl rfl rfl ?_)
        have : badCl k = none := by
          unfold badCl
          rw [List.find?_eq_none]
          intro q hq
          rw [List.mem_range] at hq
          simp only [Bool.not_eq_true', Bool.not_eq_false]
          exact hj2 q (by omega)
        rw [this]
end Go.Proofs.YtlhmgphgnedlkaaGreat
end
section
/- Patches and amendments as values of Lean types, and what patch.Apply and package version compute. -/
namespace Go.Proofs.YtlhmgphgnedlkaaGreat
open Go.Eng
set_option maxRecDepth 10000
structure Pt where
  kind : Int
  clauses : List Int
  new : Cl
  days : Int
structure Am where
  number : Int
  day : Int
  known : Int
  patch : Pt
instance : Inhabited Pt := ⟨⟨0, [], default, 0⟩⟩
instance : Inhabited Am := ⟨⟨0, 0, 0, default⟩⟩
def ptC (p : Pt) : List AV := [.c (.int .i64 p.kind), intsV p.clauses, .c (.int .i64 p.new.kind), .c (.int .i64 p.new.role), .c (.int .i64 p.new.act), .c (.int .i64 p.new.need), cndsV p.new.start, .c (.int .i64 p.new.after), .c (.int .i64 p.new.grace), .c (.bool p.new.business), .c (.bool p.new.final), .c (.int .i64 p.new.pause), .c (.int .i64 p.new.resume), .c (.int .i64 p.new.value.1), .c (.int .i64 p.new.value.2), .c (.int .i64 p.new.unit), .c (.int .i64 p.new.to), .c (.bool p.new.waived), .c (.int .i64 p.days)]
def ptV (p : Pt) : AV := .agg [.c (.int .i64 p.kind), intsV p.clauses, .c (.int .i64 p.new.kind), .c (.int .i64 p.new.role), .c (.int .i64 p.new.act), .c (.int .i64 p.new.need), cndsV p.new.start, .c (.int .i64 p.new.after), .c (.int .i64 p.new.grace), .c (.bool p.new.business), .c (.bool p.new.final), .c (.int .i64 p.new.pause), .c (.int .i64 p.new.resume), .c (.int .i64 p.new.value.1), .c (.int .i64 p.new.value.2), .c (.int .i64 p.new.unit), .c (.int .i64 p.new.to), .c (.bool p.new.waived), .c (.int .i64 p.days)]
def clV (k : Cl) : AV := .agg [.c (.int .i64 k.kind), .c (.int .i64 k.role), .c (.int .i64 k.act), .c (.int .i64 k.need), cndsV k.start, .c (.int .i64 k.after), .c (.int .i64 k.grace), .c (.bool k.business), .c (.bool k.final), .c (.int .i64 k.pause), .c (.int .i64 k.resume), .c (.int .i64 k.value.1), .c (.int .i64 k.value.2), .c (.int .i64 k.unit), .c (.int .i64 k.to), .c (.bool k.waived)]
def ptW (p : Pt) : Prop := inK .i64 p.kind ∧ (∀ z ∈ p.clauses, inK .i64 z) ∧ clW p.new ∧ inK .i64 p.days
def amW (a : Am) : Prop := inK .i64 a.number ∧ inK .i64 a.day ∧ inK .i64 a.known ∧ ptW a.patch
noncomputable def cPt : Codec Tryz.prog 50 Pt := (Codec.struct ty50_k rfl (.cons cInt (.cons cInts (.cons cCl (.cons cInt (.nil _ _))))) (by kernel_rfl)).map (fun x => ⟨x.1, x.2.1, x.2.2.1, x.2.2.2.1⟩) ptC ptW (fun _ => rfl) (fun _ => rfl) (fun _ h => ⟨h.1, h.2.1, h.2.2.1, h.2.2.2.1⟩)
def zeroK : K := ⟨0, [], [], [], [], 0, []⟩
def incB (n : Int) : Int → List Int → Bool
  | _, [] => true
  | last, i :: l => decide (last < i) && decide (i < n) && incB n i l
def zeroCl (k : Cl) : Bool := (k.start.length : Int) == 0 && k.kind == 0 && k.role == 0 && k.act == 0 && k.need == 0 && k.after == 0 && k.grace == 0 && !k.business && !k.final && k.pause == 0 && k.resume == 0 && (k.value.1 == 0 && k.value.2 == 0) && k.unit == 0 && k.to == 0 && !k.waived
structure Ef where
  least : Int
  most : Int
  renewed : Bool
  spanned : Bool
def efOf (kind : Int) : Option Ef :=
  if kind = 1 then some ⟨0, 0, true, false⟩ else if kind = 2 then some ⟨1, 1, true, false⟩ else if kind = 3 then some ⟨1, 1, false, false⟩
  else if kind = 4 then some ⟨1, 400, false, false⟩ else if kind = 5 then some ⟨1, 400, false, true⟩ else none
def fitsB (n : Int) (p : Pt) (e : Ef) : Bool :=
  decide (e.least ≤ (p.clauses.length : Int)) && decide ((p.clauses.length : Int) ≤ e.most) && incB n (-1) p.clauses && (e.renewed || zeroCl p.new) && (if e.spanned then decide (1 ≤ p.days) && decide (p.days ≤ 400) else p.days == 0)
def waiveL (cs : List Cl) (l : List Int) : List Cl := l.foldl (fun cs i => cs.set i.toNat { cs.getD i.toNat default with waived := true }) cs
def spanL (d : Int) (cs : List Cl) (l : List Int) : List Cl := l.foldl (fun cs i => cs.set i.toNat { cs.getD i.toNat default with after := d }) cs
def doP (cs : List Cl) (p : Pt) : List Cl :=
  if p.kind = 1 then cs ++ [p.new] else if p.kind = 2 then cs.set (p.clauses.getD 0 default).toNat p.new else if p.kind = 5 then spanL p.days cs p.clauses else waiveL cs p.clauses
noncomputable def applyR (k : K) (p : Pt) : K × Int :=
  if (kValid k).1 ≠ 0 then (zeroK, 1)
  else match efOf p.kind with
    | none => (zeroK, 1)
    | some e =>
      if fitsB k.clauses.length p e = false then (zeroK, 1)
      else if p.kind = 1 ∧ k.clauses.length = 400 then (zeroK, 3)
      else if (kValid { k with clauses := doP k.clauses p }).1 ≠ 0 then (zeroK, 1)
      else ({ k with clauses := doP k.clauses p }, 0)
end Go.Proofs.YtlhmgphgnedlkaaGreat
end
section
/- Contracts: slices.Clone. -/
namespace Go.Proofs.YtlhmgphgnedlkaaGreat
open Go.Eng
set_option maxRecDepth 10000
theorem cln_ints (l : List Int) (hl : l.length ≤ 1000000) : Does Tryz.prog 37 [intsV l] (intsV l) := by
  refine Does.mk (fun d => Nat.beq d 5) TT_ok Tryz.func37 rfl (by kernel_rfl) Tryz.ntmps37 rfl rfl fun E hT hE hN hR => ?_
  have hm := mixO hE
  by_cases h0 : l.length = 0
  · obtain rfl : l = [] := List.length_eq_zero_iff.1 h0
    refine XK.rsNil 0 rfl fun A cap hc => ?_
    (repeat (first | refine XK.n ?_ | refine XK.a ?_ | refine XK.b ?_)); refine XK.cond rfl (fun h1 => ?_) (fun h1 => ?_)
    · (repeat (first | refine XK.n ?_ | refine XK.a ?_ | refine XK.b ?_))
      refine XK.weak (Weak.rsNil 2 1 (fun i => iC (([] : List Int).getD i default)) (Nat.zero_le _) rfl) ?_
      (repeat (first | refine XK.n ?_ | refine XK.a ?_ | refine XK.b ?_))
      (first | refine XK.out rfl rfl rfl ?_ | refine XK.outN rfl rfl rfl ?_)
      rfl
    · refine XK.weak (Weak.rsNil 0 1 (fun i => iC (([] : List Int).getD i default)) hc rfl) ?_
      (repeat (first | refine XK.n ?_ | refine XK.a ?_ | refine XK.b ?_))
      refine XK.weak (Weak.frozen (k := 21) hN rfl rfl) ?_
      (repeat (first | refine XK.n ?_ | refine XK.a ?_ | refine XK.b ?_))
      (first | refine XK.outL rfl rfl rfl ?_ | refine XK.outLN rfl rfl rfl ?_)
      exact ⟨rfl, rfl, fun i hi => absurd hi (Nat.not_lt_zero _)⟩
  · (repeat (first | refine XK.n ?_ | refine XK.a ?_ | refine XK.b ?_)); refine XK.cond rfl (fun h1 => ?_) (fun h1 => ?_)
    · cases h1
    · (repeat (first | refine XK.n ?_ | refine XK.a ?_ | refine XK.b ?_))
      refine XK.weak (Weak.frozen (k := 21) hN rfl rfl) ?_
      (repeat (first | refine XK.n ?_ | refine XK.a ?_ | refine XK.b ?_))
      (first | refine XK.outL rfl rfl rfl ?_ | refine XK.outLN rfl rfl rfl ?_)
      exact ⟨rfl, Nat.zero_add _, fun i hi => by cases i <;> rfl⟩
theorem cln_units (l : List U) (hl : l.length ≤ 1000000) : Does Tryz.prog 38 [unitsV l] (unitsV l) := by
  refine Does.mk (fun d => Nat.beq d 5) TT_ok Tryz.func38 rfl (by kernel_rfl) Tryz.ntmps38 rfl rfl fun E hT hE hN hR => ?_
  have hm := mixO hE
  by_cases h0 : l.length = 0
  · obtain rfl : l = [] := List.length_eq_zero_iff.1 h0
    refine XK.rsNil 0 rfl fun A cap hc => ?_
    (repeat (first | refine XK.n ?_ | refine XK.a ?_ | refine XK.b ?_)); refine XK.cond rfl (fun h1 => ?_) (fun h1 => ?_)
    · (repeat (first | refine XK.n ?_ | refine XK.a ?_ | refine XK.b ?_))
      refine XK.weak (Weak.rsNil 2 5 (fun i => uc (([] : List U).getD i default)) (Nat.zero_le _) rfl) ?_
      (repeat (first | refine XK.n ?_ | refine XK.a ?_ | refine XK.b ?_))
      (first | refine XK.out rfl rfl rfl ?_ | refine XK.outN rfl rfl rfl ?_)
      rfl
    · refine XK.weak (Weak.rsNil 0 5 (fun i => uc (([] : List U).getD i default)) hc rfl) ?_
      (repeat (first | refine XK.n ?_ | refine XK.a ?_ | refine XK.b ?_))
      refine XK.weak (Weak.frozen (k := 21) hN rfl rfl) ?_
      (repeat (first | refine XK.n ?_ | refine XK.a ?_ | refine XK.b ?_))
      (first | refine XK.outL rfl rfl rfl ?_ | refine XK.outLN rfl rfl rfl ?_)
      exact ⟨rfl, rfl, fun i hi => absurd hi (Nat.not_lt_zero _)⟩
  · (repeat (first | refine XK.n ?_ | refine XK.a ?_ | refine XK.b ?_)); refine XK.cond rfl (fun h1 => ?_) (fun h1 => ?_)
    · cases h1
    · (repeat (first | refine XK.n ?_ | refine XK.a ?_ | refine XK.b ?_))
      refine XK.weak (Weak.frozen (k := 21) hN rfl rfl) ?_
      (repeat (first | refine XK.n ?_ | refine XK.a ?_ | refine XK.b ?_))
      (first | refine XK.outL rfl rfl rfl ?_ | refine XK.outLN rfl rfl rfl ?_)
      exact ⟨rfl, Nat.zero_add _, fun i hi => by cases i <;> rfl⟩
theorem cln_acts (l : List Act) (hl : l.length ≤ 1000000) : Does Tryz.prog 39 [actsV l] (actsV l) := by
  refine Does.mk (fun d => Nat.beq d 5) TT_ok Tryz.func39 rfl (by kernel_rfl) Tryz.ntmps39 rfl rfl fun E hT hE hN hR => ?_
  have hm := mixO hE
  by_cases h0 : l.length = 0
  · obtain rfl : l = [] := List.length_eq_zero_iff.1 h0
    refine XK.rsNil 0 rfl fun A cap hc => ?_
    (repeat (first | refine XK.n ?_ | refine XK.a ?_ | refine XK.b ?_)); refine XK.cond rfl (fun h1 => ?_) (fun h1 => ?_)
    · (repeat (first | refine XK.n ?_ | refine XK.a ?_ | refine XK.b ?_))
      refine XK.weak (Weak.rsNil 2 7 (fun i => actC (([] : List Act).getD i default)) (Nat.zero_le _) rfl) ?_
      (repeat (first | refine XK.n ?_ | refine XK.a ?_ | refine XK.b ?_))
      (first | refine XK.out rfl rfl rfl ?_ | refine XK.outN rfl rfl rfl ?_)
      rfl
    · refine XK.weak (Weak.rsNil 0 7 (fun i => actC (([] : List Act).getD i default)) hc rfl) ?_
      (repeat (first | refine XK.n ?_ | refine XK.a ?_ | refine XK.b ?_))
      refine XK.weak (Weak.frozen (k := 21) hN rfl rfl) ?_
      (repeat (first | refine XK.n ?_ | refine XK.a ?_ | refine XK.b ?_))
      (first | refine XK.outL rfl rfl rfl ?_ | refine XK.outLN rfl rfl rfl ?_)
      exact ⟨rfl, rfl, fun i hi => absurd hi (Nat.not_lt_zero _)⟩
  · (repeat (first | refine XK.n ?_ | refine XK.a ?_ | refine XK.b ?_)); refine XK.cond rfl (fun h1 => ?_) (fun h1 => ?_)
    · cases h1
    · (repeat (first | refine XK.n ?_ | refine XK.a ?_ | refine XK.b ?_))
      refine XK.weak (Weak.frozen (k := 21) hN rfl rfl) ?_
      (repeat (first | refine XK.n ?_ | refine XK.a ?_ | refine XK.b ?_))
      (first | refine XK.outL rfl rfl rfl ?_ | refine XK.outLN rfl rfl rfl ?_)
      exact ⟨rfl, Nat.zero_add _, fun i hi => by cases i <;> rfl⟩
theorem cln_cls (l : List Cl) (hl : l.length ≤ 1000000) : Does Tryz.prog 72 [clsV l] (clsV l) := by
  refine Does.mk (fun d => Nat.beq d 5) TT_ok Tryz.func72 rfl (by kernel_rfl) Tryz.ntmps72 rfl rfl fun E hT hE hN hR => ?_
  have hm := mixO hE
  by_cases h0 : l.length = 0
  · obtain rfl : l = [] := List.length_eq_zero_iff.1 h0
    refine XK.rsNil 0 rfl fun A cap hc => ?_
    (repeat (first | refine XK.n ?_ | refine XK.a ?_ | refine XK.b ?_)); refine XK.cond rfl (fun h1 => ?_) (fun h1 => ?_)
    · (repeat (first | refine XK.n ?_ | refine XK.a ?_ | refine XK.b ?_))
      refine XK.weak (Weak.rsNil 2 16 (fun i => clC (([] : List Cl).getD i default)) (Nat.zero_le _) rfl) ?_
      (repeat (first | refine XK.n ?_ | refine XK.a ?_ | refine XK.b ?_))
      (first | refine XK.out rfl rfl rfl ?_ | refine XK.outN rfl rfl rfl ?_)
      rfl
    · refine XK.weak (Weak.rsNil 0 16 (fun i => clC (([] : List Cl).getD i default)) hc rfl) ?_
      (repeat (first | refine XK.n ?_ | refine XK.a ?_ | refine XK.b ?_))
      refine XK.weak (Weak.frozen (k := 21) hN rfl rfl) ?_
      (repeat (first | refine XK.n ?_ | refine XK.a ?_ | refine XK.b ?_))
      (first | refine XK.outL rfl rfl rfl ?_ | refine XK.outLN rfl rfl rfl ?_)
      exact ⟨rfl, rfl, fun i hi => absurd hi (Nat.not_lt_zero _)⟩
  · (repeat (first | refine XK.n ?_ | refine XK.a ?_ | refine XK.b ?_)); refine XK.cond rfl (fun h1 => ?_) (fun h1 => ?_)
    · cases h1
    · (repeat (first | refine XK.n ?_ | refine XK.a ?_ | refine XK.b ?_))
      refine XK.weak (Weak.frozen (k := 21) hN rfl rfl) ?_
      (repeat (first | refine XK.n ?_ | refine XK.a ?_ | refine XK.b ?_))
      (first | refine XK.outL rfl rfl rfl ?_ | refine XK.outLN rfl rfl rfl ?_)
      exact ⟨rfl, Nat.zero_add _, fun i hi => by cases i <;> rfl⟩
theorem cln_cnds (l : List Cnd) (hl : l.length ≤ 1000000) : Does Tryz.prog 59 [cndsV l] (cndsV l) := by
  refine Does.mk (fun d => Nat.beq d 5) TT_ok Tryz.func59 rfl (by kernel_rfl) Tryz.ntmps59 rfl rfl fun E hT hE hN hR => ?_
  have hm := mixO hE
  by_cases h0 : l.length = 0
  · obtain rfl : l = [] := List.length_eq_zero_iff.1 h0
    refine XK.rsNil 0 rfl fun A cap hc => ?_
    (repeat (first | refine XK.n ?_ | refine XK.a ?_ | refine XK.b ?_)); refine XK.cond rfl (fun h1 => ?_) (fun h1 => ?_)
    · (repeat (first | refine XK.n ?_ | refine XK.a ?_ | refine XK.b ?_))
      refine XK.weak (Weak.rsNil 2 2 (fun i => cndC (([] : List Cnd).getD i default)) (Nat.zero_le _) rfl) ?_
      (repeat (first | refine XK.n ?_ | refine XK.a ?_ | refine XK.b ?_))
      (first | refine XK.out rfl rfl rfl ?_ | refine XK.outN rfl rfl rfl ?_)
      rfl
    · refine XK.weak (Weak.rsNil 0 2 (fun i => cndC (([] : List Cnd).getD i default)) hc rfl) ?_
      (repeat (first | refine XK.n ?_ | refine XK.a ?_ | refine XK.b ?_))
      refine XK.weak (Weak.frozen (k := 21) hN rfl rfl) ?_
      (repeat (first | refine XK.n ?_ | refine XK.a ?_ | refine XK.b ?_))
      (first | refine XK.outL rfl rfl rfl ?_ | refine XK.outLN rfl rfl rfl ?_)
      exact ⟨rfl, rfl, fun i hi => absurd hi (Nat.not_lt_zero _)⟩
  · (repeat (first | refine XK.n ?_ | refine XK.a ?_ | refine XK.b ?_)); refine XK.cond rfl (fun h1 => ?_) (fun h1 => ?_)
    · cases h1
    · (repeat (first | refine XK.n ?_ | refine XK.a ?_ | refine XK.b ?_))
      refine XK.weak (Weak.frozen (k := 21) hN rfl rfl) ?_
      (repeat (first | refine XK.n ?_ | refine XK.a ?_ | refine XK.b ?_))
      (first | refine XK.outL rfl rfl rfl ?_ | refine XK.outLN rfl rfl rfl ?_)
      exact ⟨rfl, Nat.zero_add _, fun i hi => by cases i <;> rfl⟩
theorem clnM_cls (l : List Cl) (h0 : 0 < l.length) (hl : l.length ≤ 1000000) : DoesM Tryz.prog 72 [clsV l] [] (.vec 0 0) [.vec 48 16 0 l.length (fun i => clC (l.getD i default))] := by
  refine DoesM.mk (fun d => Nat.beq d 5) 100 TT_ok Tryz.func72 rfl (by kernel_rfl) Tryz.ntmps72 rfl rfl rfl fun E hT hE hN hR => ?_
  have hm := mixO hE
  (repeat (first | refine XK.n ?_ | refine XK.a ?_ | refine XK.b ?_)); refine XK.cond rfl (fun h1 => ?_) (fun h1 => ?_)
  · cases h1
  · (repeat (first | refine XK.n ?_ | refine XK.a ?_ | refine XK.b ?_))
    refine XK.weak (Weak.trans (Weak.stamp (k := 121) (t := 0) hN rfl rfl) (Weak.of (L := [(2, .vec 121 0)]) (O := [(121, .vec 48 16 0 l.length (fun i => clC (l.getD i default)))]) (nx := 1000) (nt := 8) (md := fun _ => false) hN rfl rfl rfl frI ⟨⟨rfl, rfl, rfl⟩, Nat.zero_add _, fun j hj => by rcases j with _ | j <;> rfl⟩)) ?_
    (first | refine XK.outR [121] hN rfl rfl rfl ?_ rfl rfl ?_ | refine XK.outRN [121] hN rfl rfl rfl ?_ rfl rfl ?_)
    · (repeat' (first | exact rfl | exact AvIs.refl _ | exact trivial | exact fun _ _ => rfl | exact fun _ _ => ⟨rfl, AvIs.refl _⟩ | refine ⟨?_, ?_⟩))
    · (repeat' (first | exact rfl | exact AvIs.refl _ | exact trivial | exact fun _ _ => rfl | exact fun _ _ => ⟨rfl, AvIs.refl _⟩ | refine ⟨?_, ?_⟩))
end Go.Proofs.YtlhmgphgnedlkaaGreat
end
