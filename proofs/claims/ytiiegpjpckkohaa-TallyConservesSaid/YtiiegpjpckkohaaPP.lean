import Derived.Test.YtiiegpjpckkohaaPO
import Derived.Test.YtiiegpjpckkohaaPJ
section
/- Contracts: tally.Given, Received, SetOff. -/
namespace Go.Proofs.Ytiiegpjpckkohaa
open Go.Eng
set_option maxRecDepth 10000
set_option linter.unusedSimpArgs false
set_option linter.unusedVariables false
theorem given_ok (k : K) (hk : kW k) (l : List Int) (party : Int) : Does Try.prog 31 [kV k, intsV l, .c (.int .i64 party)] (sumsV k.units.length (sumsR k l party Mv.giver)) := by
  refine Does.mk (fun _ => false) TT_ok Try.func31 rfl (by kernel_rfl) Try.ntmps31 rfl rfl fun E hT hE hN hR => ?_
  have hm : E.P.follows .mixedOrders = true := by rw [hE]; kernel_rfl
  (repeat (first | refine XK.norm rfl rfl ?_ | refine XK.rgnA hT rfl rfl rfl ?_ | refine XK.rgnB hT hm rfl rfl rfl ?_)); refine XK.region ?_; refine XL.goA hT rfl rfl rfl rfl ?_
  refine XL.callKA hE rfl rfl rfl rfl trivial rfl rfl (sumsT_ok k hk l party 65 Mv.giver given1_ok) ?_
  refine XL.goA hT rfl rfl rfl rfl ?_; refine XL.fin ?_; (repeat (first | refine XK.norm rfl rfl ?_ | refine XK.rgnA hT rfl rfl rfl ?_ | refine XK.rgnB hT hm rfl rfl rfl ?_))
  (repeat (first | refine XK.norm rfl rfl ?_ | refine XK.rgnA hT rfl rfl rfl ?_ | refine XK.rgnB hT hm rfl rfl rfl ?_))
  (first | refine XK.outL rfl rfl rfl ?_ | refine XK.outLN rfl rfl rfl ?_)
  exact AvIs.refl _
theorem received_ok (k : K) (hk : kW k) (l : List Int) (party : Int) : Does Try.prog 32 [kV k, intsV l, .c (.int .i64 party)] (sumsV k.units.length (sumsR k l party Mv.recv)) := by
  refine Does.mk (fun _ => false) TT_ok Try.func32 rfl (by kernel_rfl) Try.ntmps32 rfl rfl fun E hT hE hN hR => ?_
  have hm : E.P.follows .mixedOrders = true := by rw [hE]; kernel_rfl
  (repeat (first | refine XK.norm rfl rfl ?_ | refine XK.rgnA hT rfl rfl rfl ?_ | refine XK.rgnB hT hm rfl rfl rfl ?_)); refine XK.region ?_; refine XL.goA hT rfl rfl rfl rfl ?_
  refine XL.callKA hE rfl rfl rfl rfl trivial rfl rfl (sumsT_ok k hk l party 66 Mv.recv received1_ok) ?_
  refine XL.goA hT rfl rfl rfl rfl ?_; refine XL.fin ?_; (repeat (first | refine XK.norm rfl rfl ?_ | refine XK.rgnA hT rfl rfl rfl ?_ | refine XK.rgnB hT hm rfl rfl rfl ?_))
  (repeat (first | refine XK.norm rfl rfl ?_ | refine XK.rgnA hT rfl rfl rfl ?_ | refine XK.rgnB hT hm rfl rfl rfl ?_))
  (first | refine XK.outL rfl rfl rfl ?_ | refine XK.outLN rfl rfl rfl ?_)
  exact AvIs.refl _
/-- What a failed clause adds to the set-off: its amount, and whether the second party owes it. -/
def setAt (k : K) (l : List Int) (out : Nat → Oc) (a b : Int) (i : Nat) : Option (A × Bool) :=
  if (out i).status ≠ 4 ∨ (clAt k i).unit = -1 ∨ ((out i).bearer ≠ a ∧ (out i).bearer ≠ b) then none
  else if (holdTo k l (clAt k i).to (out i).to.toNat).1 = (out i).bearer ∨ ((holdTo k l (clAt k i).to (out i).to.toNat).1 ≠ a ∧ (holdTo k l (clAt k i).to (out i).to.toNat).1 ≠ b) then none
  else some (⟨(clAt k i).unit, (clAt k i).value⟩, decide ((out i).bearer = b))
/-- A value with the other sign, if so. -/
def sgQ (neg : Bool) (q : Q) : Q := if neg then (-q.1, q.2) else q
abbrev Sf := List Q × Int
noncomputable def setT (k : K) (unit : Int) (sa : Nat → Option (A × Bool)) : Nat → Sf
  | 0 => ([], 0)
  | i + 1 => if (setT k unit sa i).2 ≠ 0 then setT k unit sa i else match sa i with
    | none => setT k unit sa i
    | some c => if (convK k c.1 unit).2 ≠ 0 then ((setT k unit sa i).1, (convK k c.1 unit).2) else ((setT k unit sa i).1 ++ [sgQ c.2 (convK k c.1 unit).1.val], 0)
noncomputable def setE (unit : Int) (s : Sf) : A × Int :=
  if s.2 ≠ 0 then (zA, s.2)
  else if (collT ((0, 1), 0) (fun i => s.1.getD i default) s.1.length).2 ≠ 0 then (zA, 2)
  else (⟨unit, (collT ((0, 1), 0) (fun i => s.1.getD i default) s.1.length).1⟩, 0)
def setB (k : K) (a b unit : Int) : Bool := decide (a < 0) || decide (b < 0) || decide (k.parties ≤ a) || decide (k.parties ≤ b) || a == b || decide (unit < 0) || decide ((k.units.length : Int) ≤ unit) || (unitAt k unit).kind != 2
noncomputable def setOffR (k : K) (l : List Int) (a b unit : Int) : A × Int :=
  if checkR k l ≠ 0 then (zA, checkR k l)
  else if setB k a b unit = true then (zA, 1)
  else setE unit (setT k unit (setAt k l (followR k l l.length).out a b) k.clauses.length)
theorem setT_none {k : K} {unit : Int} {sa : Nat → Option (A × Bool)} {i : Nat} (h : sa i = none) : setT k unit sa (i + 1) = setT k unit sa i := by
  simp only [setT, h]
  split <;> rfl
theorem setT_some {k : K} {unit : Int} {sa : Nat → Option (A × Bool)} {i : Nat} {c : A × Bool} (h : sa i = some c) (h0 : (setT k unit sa i).2 = 0) : setT k unit sa (i + 1) = if (convK k c.1 unit).2 ≠ 0 then ((setT k unit sa i).1, (convK k c.1 unit).2) else ((setT k unit sa i).1 ++ [sgQ c.2 (convK k c.1 unit).1.val], 0) := by
  simp only [setT, h, h0, ne_eq, not_true_eq_false, if_false]
theorem setT_stop {k : K} {unit : Int} {sa : Nat → Option (A × Bool)} {i : Nat} (h : (setT k unit sa i).2 ≠ 0) : ∀ m, i ≤ m → setT k unit sa m = setT k unit sa i := by
  intro m hm
  induction m with
  | zero => have : i = 0 := by omega
            rw [this]
  | succ m ih =>
    by_cases h1 : i = m + 1
    · rw [h1]
    · have h2 := ih (by omega)
      simp only [setT]
      rw [if_pos (by rw [h2]; exact h), h2]
theorem setT_len (k : K) (unit : Int) (sa : Nat → Option (A × Bool)) : ∀ i, (setT k unit sa i).1.length ≤ i
  | 0 => by simp [setT]
  | i + 1 => by
    have ih := setT_len k unit sa i
    simp only [setT]
    split
    · omega
    · split
      · omega
      · split
        · simp only; omega
        · simp only [List.length_append, List.length_cons, List.length_nil]; omega
theorem sgQ_W {n : Bool} {q : Q} (h : qOk q = true) : qW (sgQ n q) := by
  obtain ⟨h1, h2, h3, h4, _⟩ := qOk_iff.1 h
  cases n <;> simp only [sgQ, qW, inK] <;> simp <;> omega
theorem sgQ_ok {n : Bool} {q : Q} (h : qOk q = true) : qOk (sgQ n q) = true := by
  obtain ⟨h1, h2, h3, h4, h5⟩ := qOk_iff.1 h
  cases n
  · exact h
  · exact qOk_iff.2 ⟨h1, h2, by simp only [sgQ, if_true]; omega, by simp only [sgQ, if_true]; omega, by simp only [sgQ, if_true, Int.natAbs_neg]; exact h5⟩
theorem rats_app1 (L : List Q) (x : Q) (h : Nat → List AV) (h0 : h 0 = [.c (.int .i64 x.1), .c (.int .i64 x.2)]) :
    ∀ j, j < L.length + 1 → [AV.c (.int .i64 ((L ++ [x]).getD j default).1), .c (.int .i64 ((L ++ [x]).getD j default).2)] = catF L.length (fun i => [AV.c (.int .i64 (L.getD i default).1), .c (.int .i64 (L.getD i default).2)]) h j := by
  intro j hj
  unfold catF
  cases hb : Nat.blt j L.length
  · have hge : ¬ j < L.length := fun h => by have : Nat.blt j L.length = true := by simpa using h
                                             rw [this] at hb; cases hb
    rw [cond_false]
    have e : j = L.length := by omega
    subst e
    rw [Nat.sub_self, h0]; simp [List.getD]
  · have hlt : j < L.length := by simpa using hb
    simp [List.getD, List.getElem?_append_left hlt]
theorem convK_ok {k : K} {a : A} {to : Int} (h : (convK k a to).2 = 0) : qOk (convK k a to).1.val = true := by
  unfold convK convR at h ⊢
  split at h
  · rename_i h1
    rw [if_pos h1]
    split at h
    · simp at h
    · rename_i h2
      rw [if_neg h2]
      split at h
      · exact absurd h ‹_›
      · rename_i h3
        rw [if_neg h3]
        obtain ⟨ha, hb⟩ := Bool.and_eq_true .. ▸ h1
        obtain ⟨v1, v2⟩ := acceptsR_ok ha
        have hu := v2 0 (by omega)
        have hto : 0 ≤ to ∧ to < k.units.length := by simpa using hb
        have f1 := (validR_ok v1 _ (toNat_lt hu.1)).fac
        have f2 := (validR_ok v1 _ (toNat_lt hto)).fac
        have h3 : (valR a.val (k.units.getD a.unit.toNat default).fac (k.units.getD to.toNat default).fac).2 = 0 := by simpa using h3
        rw [valR_toQ hu.2 f1 f2] at h3
        show qOk (valR a.val (k.units.getD a.unit.toNat default).fac (k.units.getD to.toNat default).fac).1 = true
        rw [valR_toQ hu.2 f1 f2]
        exact (toQ_ok h3).1
  · simp at h
theorem setT_q {k : K} {unit : Int} {sa : Nat → Option (A × Bool)} : ∀ i, ∀ q ∈ (setT k unit sa i).1, qOk q = true
  | 0 => fun q h => by simp [setT] at h
  | i + 1 => by
    have ih := setT_q (k := k) (unit := unit) (sa := sa) i
    simp only [setT]
    split
    · exact ih
    · split
      · exact ih
      · split
        · exact ih
        · rename_i h1
          intro q hq
          simp only [List.mem_append, List.mem_cons, List.not_mem_nil, or_false] at hq
          rcases hq with hq | rfl
          · exact ih q hq
          · exact sgQ_ok (convK_ok (by simpa using h1))
end Go.Proofs.Ytiiegpjpckkohaa
end
section
/- Contracts: tally.SetOff. -/
namespace Go.Proofs.Ytiiegpjpckkohaa
open Go.Eng
set_option maxRecDepth 10000
set_option linter.unusedSimpArgs false
set_option linter.unusedVariables false
theorem collT_stop {s : Q × Int} {f : Nat → Q} {i : Nat} (h : (collT s f i).2 ≠ 0) : ∀ m, i ≤ m → (collT s f m).2 ≠ 0 := by
  intro m hm
  induction m with
  | zero => have : i = 0 := by omega
            rwa [this] at h
  | succ m ih =>
    by_cases h1 : i = m + 1
    · rwa [h1] at h
    · have h2 := ih (by omega)
      show (addS _ _).2 ≠ 0
      unfold addS
      rw [if_pos h2]
      exact h2
theorem setOff_ok (k : K) (hk : kW k) (l : List Int) (a b unit : Int) : Does Try.prog 27 [kV k, intsV l, .c (.int .i64 a), .c (.int .i64 b), .c (.int .i64 unit)] (ar (setOffR k l a b unit)) := by
  refine Does.mk (fun _ => false) TT_ok Try.func27 rfl (by kernel_rfl) Try.ntmps27 rfl rfl fun E hT hE hN hR => ?_
  have hm : E.P.follows .mixedOrders = true := by rw [hE]; kernel_rfl
  (repeat (first | refine XK.norm rfl rfl ?_ | refine XK.rgnA hT rfl rfl rfl ?_ | refine XK.rgnB hT hm rfl rfl rfl ?_)); refine XK.region ?_; refine XL.goA hT rfl rfl rfl rfl ?_
  refine XL.callKA hE rfl rfl rfl rfl trivial rfl rfl (outcomes_ok k hk l) ?_
  refine XL.goA hT rfl rfl rfl rfl ?_; refine XL.fin ?_; (repeat (first | refine XK.norm rfl rfl ?_ | refine XK.rgnA hT rfl rfl rfl ?_ | refine XK.rgnB hT hm rfl rfl rfl ?_))
  (repeat (first | refine XK.norm rfl rfl ?_ | refine XK.rgnA hT rfl rfl rfl ?_ | refine XK.rgnB hT hm rfl rfl rfl ?_)); refine XK.cond rfl (fun h1 => ?_) (fun h1 => ?_)
  · have h1 : checkR k l ≠ 0 := by simpa using h1
    (repeat (first | refine XK.norm rfl rfl ?_ | refine XK.rgnA hT rfl rfl rfl ?_ | refine XK.rgnB hT hm rfl rfl rfl ?_))
    (first | refine XK.out rfl rfl rfl ?_ | refine XK.outN rfl rfl rfl ?_)
    rw [setOffR, if_pos h1]
    rfl
  · have h1 : checkR k l = 0 := by simpa using h1
    obtain ⟨h2, h3, h4, -⟩ := checkR_ok hk h1
    have hF := h2.facts
    have hnc := hF.nc
    rw [setOffR, if_neg (by simpa using h1)]
    (repeat (first | refine XK.norm rfl rfl ?_ | refine XK.rgnA hT rfl rfl rfl ?_ | refine XK.rgnB hT hm rfl rfl rfl ?_)); refine XK.cond rfl (fun h5 => ?_) (fun h5 => ?_)
    · have h5 : setB k a b unit = true := h5
      (repeat (first | refine XK.norm rfl rfl ?_ | refine XK.rgnA hT rfl rfl rfl ?_ | refine XK.rgnB hT hm rfl rfl rfl ?_))
      (first | refine XK.out rfl rfl rfl ?_ | refine XK.outN rfl rfl rfl ?_)
      rw [if_pos h5]
      rfl
    · have h5 : setB k a b unit = false := h5
      rw [if_neg (by rw [h5]; simp)]
      have hon : outsN k l = k.clauses.length := by rw [outsN, if_pos h1]
      rw [hon]
      (repeat (first | refine XK.norm rfl rfl ?_ | refine XK.rgnA hT rfl rfl rfl ?_ | refine XK.rgnB hT hm rfl rfl rfl ?_))
      have hf : ∀ i, i < k.clauses.length → ((followR k l l.length).out i).status = 4 → 1 ≤ ((followR k l l.length).out i).to ∧ ((followR k l l.length).out i).to ≤ l.length := fun i hi h => failed_to hF h3 hi (Nat.le_refl _) (by omega) h
      generalize hsa : setAt k l (followR k l l.length).out a b = sa
      refine XK.loop (ι := Nat) (fun i => ST.of [(1, intsV l), (2, .c (.int .i64 a)), (3, .c (.int .i64 b)), (4, .c (.int .i64 unit)), (5, .rptr (kC k)), (10, .ptr 10 0), (14, .vec 700 0), (79, ocsV k.clauses.length (followR k l l.length).out), (80, .c (.int .i64 k.clauses.length)), (81, .c (.int .i64 i))]
        [(10, .cells 45 [.c (.int .i64 0), .c (.int .i64 0), .c (.int .i64 0)]), (700, .vec 29 2 0 (setT k unit sa i).1.length (fun j => [.c (.int .i64 ((setT k unit sa i).1.getD j default).1), .c (.int .i64 ((setT k unit sa i).1.getD j default).2)]))] 2000 187 (fun _ => false))
        (fun i => i ≤ k.clauses.length ∧ (setT k unit sa i).2 = 0) (fun i => k.clauses.length - i) 0 ⟨Nat.zero_le _, rfl⟩
        (Weak.trans (Weak.frozenC (k := 5) hN rfl rfl rfl) (Weak.trans (Weak.ghost (j := 14) (k := 700) (e := 29) (sz := 2) (f := fun _ => []) rfl rfl) (Weak.of hN rfl rfl rfl (by (repeat' (first | exact rfl | exact AvIs.refl _ | exact trivial | exact fun _ _ => rfl | exact fun _ _ => ⟨rfl, AvIs.refl _⟩ | refine ⟨?_, ?_⟩))) ⟨by (repeat' (first | exact rfl | exact AvIs.refl _ | exact trivial | exact fun _ _ => rfl | exact fun _ _ => ⟨rfl, AvIs.refl _⟩ | refine ⟨?_, ?_⟩)), ⟨rfl, rfl, rfl⟩, rfl, fun j hj => absurd hj (Nat.not_lt_zero _)⟩))) fun i hi => ?_
      obtain ⟨hi, hst⟩ := hi
      (repeat (first | refine XK.norm rfl rfl ?_ | refine XK.rgnA hT rfl rfl rfl ?_ | refine XK.rgnB hT hm rfl rfl rfl ?_)); refine XK.cond rfl (fun hlt => ?_) (fun hlt => ?_) <;> (try simp at hlt)
      · have hfi := hf i hlt
        have hN0 := fun h => setT_none (k := k) (unit := unit) (sa := sa) (i := i) h
        have hS0 := fun c h => setT_some (k := k) (unit := unit) (sa := sa) (i := i) (c := c) h hst
        have hlen := setT_len k unit sa i
        have hlast := fun h => setT_stop (k := k) (unit := unit) (sa := sa) (i := i + 1) h k.clauses.length hlt
        have fo : (followR k l l.length).out (i : Int).toNat = (followR k l l.length).out i := rfl
        have fc : k.clauses.getD (i : Int).toNat default = clAt k i := rfl
        have hcl := hF.clB (i := i) hlt
        have hcw := hF.clW' hlt
        have hca : sa i = setAt k l (followR k l l.length).out a b i := by rw [hsa]
        unfold setAt at hca
        (repeat (first | refine XK.norm rfl rfl ?_ | refine XK.rgnA hT rfl rfl rfl ?_ | refine XK.rgnB hT hm rfl rfl rfl ?_))
        rw [fo, fc]
        generalize hsai : sa i = cm at *
        generalize (followR k l l.length).out i = o at *
        generalize clAt k i = x at *
        (repeat (first | refine XK.norm rfl rfl ?_ | refine XK.rgnA hT rfl rfl rfl ?_ | refine XK.rgnB hT hm rfl rfl rfl ?_)); refine XK.cond rfl (fun hb => ?_) (fun hb => ?_)
        · have hb : o.status ≠ 4 ∨ x.unit = -1 ∨ (o.bearer ≠ a ∧ o.bearer ≠ b) := by
            simp only [Bool.or_eq_true, bne_iff_ne, beq_iff_eq, Bool.and_eq_true] at hb
            rcases hb with (hb | hb) | hb
            · exact .inl hb
            · exact .inr (.inl hb)
            · exact .inr (.inr hb)
          rw [if_pos hb] at hca
          (repeat (first | refine XK.norm rfl rfl ?_ | refine XK.rgnA hT rfl rfl rfl ?_ | refine XK.rgnB hT hm rfl rfl rfl ?_))
          refine XK.inv ⟨i + 1, ⟨hlt, by rw [hN0 hca]; exact hst⟩, ?_, by omega⟩
          rw [hN0 hca]
          exact (Weak.of hN rfl rfl rfl (by (repeat' (first | exact rfl | exact AvIs.refl _ | exact trivial | exact fun _ _ => rfl | exact fun _ _ => ⟨rfl, AvIs.refl _⟩ | refine ⟨?_, ?_⟩))) (by (repeat' (first | exact rfl | exact AvIs.refl _ | exact trivial | exact fun _ _ => rfl | exact fun _ _ => ⟨rfl, AvIs.refl _⟩ | refine ⟨?_, ?_⟩))))
        · have hb : ¬ (o.status ≠ 4 ∨ x.unit = -1 ∨ (o.bearer ≠ a ∧ o.bearer ≠ b)) := by
            intro h
            have : (o.status != 4 || x.unit == -1 || (o.bearer != a && o.bearer != b)) = true := by
              simp only [Bool.or_eq_true, bne_iff_ne, beq_iff_eq, Bool.and_eq_true]
              rcases h with h | h | h
              · exact .inl (.inl h)
              · exact .inl (.inr h)
              · exact .inr h
            rw [this] at hb; cases hb
          rw [if_neg hb] at hca
          have h4' : o.status = 4 := Decidable.not_not.1 fun h => hb (.inl h)
          have h5' : x.unit ≠ -1 := fun h => hb (.inr (.inl h))
          have hfo := hfi h4'
          have hrole : 0 ≤ x.to ∧ x.to < k.holders.length := by
            rcases hcl.2.2.2.2.2.2 with h | h
            · exact absurd h.1 h5'
            · have := h.2.2.2.2.2
              simpa [movB] using this
          have hpos : posB x.value = true := by
            rcases hcl.2.2.2.2.2.2 with h | h
            · exact absurd h.1 h5'
            · exact h.2.2.2.2.1
          have hho : Does Try.prog 36 [kV k, intsV l, .c (.int .i64 x.to), .c (.int .i64 o.to)] (.tup [.c (.int .i64 (holdTo k l x.to o.to.toNat).1), .c (.int .i64 0)]) := by
            obtain ⟨r, hr⟩ := Int.eq_ofNat_of_zero_le hrole.1
            obtain ⟨m, hm2⟩ := Int.eq_ofNat_of_zero_le (show 0 ≤ o.to by omega)
            have := holder_ok k hk l x.to o.to
            rw [hr, hm2, holderR_at h1 (by omega) (by omega)] at this
            rw [hr, hm2]
            exact this
          generalize (holdTo k l x.to o.to.toNat).1 = hld at *
          (repeat (first | refine XK.norm rfl rfl ?_ | refine XK.rgnA hT rfl rfl rfl ?_ | refine XK.rgnB hT hm rfl rfl rfl ?_)); refine XK.region ?_; refine XL.goA hT rfl rfl rfl rfl ?_
          refine XL.callLA hE rfl rfl rfl rfl trivial rfl (hho) rfl ?_
          refine XL.goA hT rfl rfl rfl rfl ?_; refine XL.fin ?_; (repeat (first | refine XK.norm rfl rfl ?_ | refine XK.rgnA hT rfl rfl rfl ?_ | refine XK.rgnB hT hm rfl rfl rfl ?_))
          (repeat (first | refine XK.norm rfl rfl ?_ | refine XK.rgnA hT rfl rfl rfl ?_ | refine XK.rgnB hT hm rfl rfl rfl ?_)); refine XK.cond rfl (fun h6 => ?_) (fun h6 => ?_)
          · have h6 : hld = o.bearer ∨ (hld ≠ a ∧ hld ≠ b) := by simpa using h6
            rw [if_pos h6] at hca
            (repeat (first | refine XK.norm rfl rfl ?_ | refine XK.rgnA hT rfl rfl rfl ?_ | refine XK.rgnB hT hm rfl rfl rfl ?_))
            refine XK.inv ⟨i + 1, ⟨hlt, by rw [hN0 hca]; exact hst⟩, ?_, by omega⟩
            rw [hN0 hca]
            exact (Weak.of hN rfl rfl rfl (by (repeat' (first | exact rfl | exact AvIs.refl _ | exact trivial | exact fun _ _ => rfl | exact fun _ _ => ⟨rfl, AvIs.refl _⟩ | refine ⟨?_, ?_⟩))) (by (repeat' (first | exact rfl | exact AvIs.refl _ | exact trivial | exact fun _ _ => rfl | exact fun _ _ => ⟨rfl, AvIs.refl _⟩ | refine ⟨?_, ?_⟩))))
          · have h6 : ¬ (hld = o.bearer ∨ (hld ≠ a ∧ hld ≠ b)) := by
              intro h
              have h7 : (hld == o.bearer || (hld != a && hld != b)) = true := by simpa using h
              rw [h7] at h6; cases h6
            rw [if_neg h6] at hca
            have hS1 := hS0 _ hca
            have hco : Does Try.prog 26 [unitsV k.units, av ⟨x.unit, x.value⟩, .c (.int .i64 unit)] (ar (convK k ⟨x.unit, x.value⟩ unit)) := convert_ok k.units.length (fun j => k.units.getD j default) ⟨x.unit, x.value⟩ unit (all_getD hk.2.2.1) ⟨hcw.2.2.2.2.2.2.2.2.2.2.1, hcw.2.2.2.2.2.2.2.2.2.1⟩
            have hcok := fun h => convK_ok (k := k) (a := ⟨x.unit, x.value⟩) (to := unit) h
            have hcvW := convK_W k ⟨x.unit, x.value⟩ unit
            generalize convK k ⟨x.unit, x.value⟩ unit = cv at *
            (repeat (first | refine XK.norm rfl rfl ?_ | refine XK.rgnA hT rfl rfl rfl ?_ | refine XK.rgnB hT hm rfl rfl rfl ?_)); refine XK.region ?_; refine XL.goA hT rfl rfl rfl rfl ?_
            refine XL.callLA hE rfl rfl rfl rfl trivial rfl (hco) rfl ?_
            refine XL.goA hT rfl rfl rfl rfl ?_; refine XL.fin ?_; (repeat (first | refine XK.norm rfl rfl ?_ | refine XK.rgnA hT rfl rfl rfl ?_ | refine XK.rgnB hT hm rfl rfl rfl ?_))
            (repeat (first | refine XK.norm rfl rfl ?_ | refine XK.rgnA hT rfl rfl rfl ?_ | refine XK.rgnB hT hm rfl rfl rfl ?_)); refine XK.cond rfl (fun h7 => ?_) (fun h7 => ?_) <;> (try simp at h7)
            · simp only at hS1
              rw [if_pos h7] at hS1
              rw [hlast (by rw [hS1]; exact h7), hS1, setE, if_pos h7]
              (repeat (first | refine XK.norm rfl rfl ?_ | refine XK.rgnA hT rfl rfl rfl ?_ | refine XK.rgnB hT hm rfl rfl rfl ?_))
              (first | refine XK.out rfl rfl rfl ?_ | refine XK.outN rfl rfl rfl ?_)
              rfl
            · simp only at hS1
              rw [if_neg (by simpa using h7)] at hS1
              have hq := hcok h7
              obtain ⟨g1, g2, g3, g4, _⟩ := qOk_iff.1 hq
              (repeat (first | refine XK.norm rfl rfl ?_ | refine XK.rgnA hT rfl rfl rfl ?_ | refine XK.rgnB hT hm rfl rfl rfl ?_)); refine XK.cond rfl (fun h8 => ?_) (fun h8 => ?_) <;> (try simp at h8)
              · have hsg : sgQ (decide (o.bearer = b)) cv.1.val = (-cv.1.val.1, cv.1.val.2) := by simp [sgQ, h8]
                rw [hsg] at hS1
                (repeat (first | refine XK.norm rfl rfl ?_ | refine XK.rgnA hT rfl rfl rfl ?_ | refine XK.rgnB hT hm rfl rfl rfl ?_))
                refine XK.inv ⟨i + 1, ⟨hlt, by rw [hS1]⟩, ?_, by omega⟩
                rw [hS1]
                refine Weak.trans (Weak.stamp (k := 700) (t := 0) hN rfl rfl) ?_
                exact Weak.of hN rfl rfl rfl (by (repeat' (first | exact rfl | exact AvIs.refl _ | exact trivial | exact fun _ _ => rfl | exact fun _ _ => ⟨rfl, AvIs.refl _⟩ | refine ⟨?_, ?_⟩))) ⟨by (repeat' (first | exact rfl | exact AvIs.refl _ | exact trivial | exact fun _ _ => rfl | exact fun _ _ => ⟨rfl, AvIs.refl _⟩ | refine ⟨?_, ?_⟩)), ⟨rfl, rfl, rfl⟩, by simp, rats_app1 _ _ _ (by show [AV.c (.int .i64 (0 - cv.1.val.1)), _] = _; rw [Int.zero_sub])⟩
              · have hsg : sgQ (decide (o.bearer = b)) cv.1.val = cv.1.val := by simp [sgQ, h8]
                rw [hsg] at hS1
                (repeat (first | refine XK.norm rfl rfl ?_ | refine XK.rgnA hT rfl rfl rfl ?_ | refine XK.rgnB hT hm rfl rfl rfl ?_))
                refine XK.inv ⟨i + 1, ⟨hlt, by rw [hS1]⟩, ?_, by omega⟩
                rw [hS1]
                refine Weak.trans (Weak.stamp (k := 700) (t := 0) hN rfl rfl) ?_
                exact Weak.of hN rfl rfl rfl (by (repeat' (first | exact rfl | exact AvIs.refl _ | exact trivial | exact fun _ _ => rfl | exact fun _ _ => ⟨rfl, AvIs.refl _⟩ | refine ⟨?_, ?_⟩))) ⟨by (repeat' (first | exact rfl | exact AvIs.refl _ | exact trivial | exact fun _ _ => rfl | exact fun _ _ => ⟨rfl, AvIs.refl _⟩ | refine ⟨?_, ?_⟩)), ⟨rfl, rfl, rfl⟩, by simp, rats_app1 _ _ _ rfl⟩
      · have hie : i = k.clauses.length := by omega
        subst hie
        rw [setE, if_neg (by simpa using hst)]
        have hPLW : ∀ j, j < (setT k unit sa k.clauses.length).1.length → qW ((setT k unit sa k.clauses.length).1.getD j default) := fun j hj => qOk_W (setT_q k.clauses.length _ (getD_memA hj))
        have hPLn := setT_len k unit sa k.clauses.length
        generalize hPL : (setT k unit sa k.clauses.length).1 = PL at *
        refine XK.weak (Weak.trans (Weak.frozen (k := 700) hN rfl rfl) (Weak.of (L := [(4, .c (.int .i64 unit)), (10, .ptr 10 0), (14, ratV PL.length (fun j => PL.getD j default))]) (O := [(10, .cells 45 [.c (.int .i64 0), .c (.int .i64 0), .c (.int .i64 0)])]) (nx := 3000) (nt := 187) (md := fun _ => false) hN rfl rfl rfl (by (repeat' (first | exact rfl | exact AvIs.refl _ | exact trivial | exact fun _ _ => rfl | exact fun _ _ => ⟨rfl, AvIs.refl _⟩ | refine ⟨?_, ?_⟩))) (by (repeat' (first | exact rfl | exact AvIs.refl _ | exact trivial | exact fun _ _ => rfl | exact fun _ _ => ⟨rfl, AvIs.refl _⟩ | refine ⟨?_, ?_⟩))))) ?_
        (repeat (first | refine XK.norm rfl rfl ?_ | refine XK.rgnA hT rfl rfl rfl ?_ | refine XK.rgnB hT hm rfl rfl rfl ?_))
        have z : qW (0, 1) := ⟨by simp [inK], by simp [inK]⟩
        refine XK.loop (ι := Nat) (fun j => ST.of [(4, .c (.int .i64 unit)), (10, .ptr 10 0), (22, .ptr 3022 0), (168, ratV PL.length (fun j => PL.getD j default)), (169, .c (.int .i64 PL.length)), (170, .c (.int .i64 j))]
          [(10, .cells 45 [.c (.int .i64 0), .c (.int .i64 0), .c (.int .i64 0)]), (3022, .cells 29 [.c (.int .i64 (collT ((0, 1), 0) (fun i => PL.getD i default) j).1.1), .c (.int .i64 (collT ((0, 1), 0) (fun i => PL.getD i default) j).1.2)])] 5000 187 (fun _ => false))
          (fun j => j ≤ PL.length ∧ (collT ((0, 1), 0) (fun i => PL.getD i default) j).2 = 0) (fun j => PL.length - j) 0 ⟨Nat.zero_le _, rfl⟩
          (Weak.of hN rfl rfl rfl (by (repeat' (first | exact rfl | exact AvIs.refl _ | exact trivial | exact fun _ _ => rfl | exact fun _ _ => ⟨rfl, AvIs.refl _⟩ | refine ⟨?_, ?_⟩))) (by (repeat' (first | exact rfl | exact AvIs.refl _ | exact trivial | exact fun _ _ => rfl | exact fun _ _ => ⟨rfl, AvIs.refl _⟩ | refine ⟨?_, ?_⟩)))) fun j hj => ?_
        obtain ⟨hj, hcs⟩ := hj
        (repeat (first | refine XK.norm rfl rfl ?_ | refine XK.rgnA hT rfl rfl rfl ?_ | refine XK.rgnB hT hm rfl rfl rfl ?_)); refine XK.cond rfl (fun hlt2 => ?_) (fun hlt2 => ?_) <;> (try simp at hlt2)
        · have hW := collT_W (s := ((0, 1), 0)) (f := fun i => PL.getD i default) z j
          have hnx : collT ((0, 1), 0) (fun i => PL.getD i default) (j + 1) = addS (collT ((0, 1), 0) (fun i => PL.getD i default) j) (PL.getD j default) := rfl
          have had := add_ok (collT ((0, 1), 0) (fun i => PL.getD i default) j).1 (PL.getD j default) hW (hPLW j hlt2)
          have hstop : (collT ((0, 1), 0) (fun i => PL.getD i default) (j + 1)).2 ≠ 0 → (collT ((0, 1), 0) (fun i => PL.getD i default) PL.length).2 ≠ 0 := fun h => collT_stop h PL.length hlt2
          unfold addS at hnx
          rw [if_neg (by simpa using hcs)] at hnx
          generalize hs1 : collT ((0, 1), 0) (fun i => PL.getD i default) (j + 1) = s1 at *
          generalize hs0 : collT ((0, 1), 0) (fun i => PL.getD i default) j = s0 at *
          generalize hadr : addR s0.1 (PL.getD j default) = ad at *
          (repeat (first | refine XK.norm rfl rfl ?_ | refine XK.rgnA hT rfl rfl rfl ?_ | refine XK.rgnB hT hm rfl rfl rfl ?_)); refine XK.region ?_; refine XL.goA hT rfl rfl rfl rfl ?_
          refine XL.callLA hE rfl rfl rfl rfl trivial rfl (had) rfl ?_
          refine XL.goA hT rfl rfl rfl rfl ?_; refine XL.fin ?_; (repeat (first | refine XK.norm rfl rfl ?_ | refine XK.rgnA hT rfl rfl rfl ?_ | refine XK.rgnB hT hm rfl rfl rfl ?_))
          (repeat (first | refine XK.norm rfl rfl ?_ | refine XK.rgnA hT rfl rfl rfl ?_ | refine XK.rgnB hT hm rfl rfl rfl ?_)); refine XK.cond rfl (fun h9 => ?_) (fun h9 => ?_) <;> (try simp at h9)
          · rw [if_pos h9] at hnx
            rw [if_pos (hstop (by rw [hnx]; exact h9))]
            (repeat (first | refine XK.norm rfl rfl ?_ | refine XK.rgnA hT rfl rfl rfl ?_ | refine XK.rgnB hT hm rfl rfl rfl ?_))
            (first | refine XK.out rfl rfl rfl ?_ | refine XK.outN rfl rfl rfl ?_)
            rfl
          · rw [if_neg (by simpa using h9)] at hnx
            (repeat (first | refine XK.norm rfl rfl ?_ | refine XK.rgnA hT rfl rfl rfl ?_ | refine XK.rgnB hT hm rfl rfl rfl ?_))
            refine XK.inv ⟨j + 1, ⟨hlt2, ?_⟩, ?_, by omega⟩
            · rw [hs1, hnx]; exact hcs
            · rw [hs1, hnx]; exact (Weak.of hN rfl rfl rfl (by (repeat' (first | exact rfl | exact AvIs.refl _ | exact trivial | exact fun _ _ => rfl | exact fun _ _ => ⟨rfl, AvIs.refl _⟩ | refine ⟨?_, ?_⟩))) (by (repeat' (first | exact rfl | exact AvIs.refl _ | exact trivial | exact fun _ _ => rfl | exact fun _ _ => ⟨rfl, AvIs.refl _⟩ | refine ⟨?_, ?_⟩))))
        · have hje : j = PL.length := by omega
          subst hje
          rw [if_neg (by simpa using hcs)]
          (repeat (first | refine XK.norm rfl rfl ?_ | refine XK.rgnA hT rfl rfl rfl ?_ | refine XK.rgnB hT hm rfl rfl rfl ?_))
          (first | refine XK.out rfl rfl rfl ?_ | refine XK.outN rfl rfl rfl ?_)
          rfl
end Go.Proofs.Ytiiegpjpckkohaa
end
section
/- Contracts: estoppellaw17's helpers and head. -/
namespace Go.Proofs.Ytiiegpjpckkohaa
open Go.Eng
set_option maxRecDepth 10000
set_option linter.unusedSimpArgs false
set_option linter.unusedVariables false
theorem same_ok (na nb : Nat) (a b : Nat → Q) : Does Try.prog 35 [ratV na a, ratV nb b] (.c (.bool (na == nb && (List.range na).all (fun i => a i == b i)))) := by
  refine Does.mk (fun _ => false) TT_ok Try.func35 rfl (by kernel_rfl) Try.ntmps35 rfl rfl fun E hT hE hN hR => ?_
  have hm : E.P.follows .mixedOrders = true := by rw [hE]; kernel_rfl
  refine XK.fact (Sat.rs_len (j := 0) rfl) fun hlen => ?_
  have hm' := hlen.1
  (repeat (first | refine XK.norm rfl rfl ?_ | refine XK.rgnA hT rfl rfl rfl ?_ | refine XK.rgnB hT hm rfl rfl rfl ?_)); refine XK.cond rfl (fun hc => ?_) (fun hc => ?_) <;> (try simp at hc)
  · (repeat (first | refine XK.norm rfl rfl ?_ | refine XK.rgnA hT rfl rfl rfl ?_ | refine XK.rgnB hT hm rfl rfl rfl ?_))
    (first | refine XK.out rfl rfl rfl ?_ | refine XK.outN rfl rfl rfl ?_)
    have : (na == nb) = false := by simp; omega
    simp [this]
  · have hc : na = nb := by omega
    subst hc
    (repeat (first | refine XK.norm rfl rfl ?_ | refine XK.rgnA hT rfl rfl rfl ?_ | refine XK.rgnB hT hm rfl rfl rfl ?_))
    refine XK.loop (ι := Nat) (fun i => ST.of [(0, ratV na a), (1, ratV na b), (5, .c (.int .i64 i))] [] 1000 26 (fun _ => false))
      (fun i => i ≤ na ∧ ∀ j, j < i → a j = b j) (fun i => na - i) 0 ⟨Nat.zero_le _, fun j hj => absurd hj (Nat.not_lt_zero _)⟩
      (Weak.of hN rfl rfl rfl ⟨AvIs.refl _, AvIs.refl _, rfl⟩ trivial) fun i hi => ?_
    obtain ⟨hi1, hi2⟩ := hi
    (repeat (first | refine XK.norm rfl rfl ?_ | refine XK.rgnA hT rfl rfl rfl ?_ | refine XK.rgnB hT hm rfl rfl rfl ?_)); refine XK.cond rfl (fun hlt => ?_) (fun hlt => ?_) <;> (try simp at hlt)
    · (repeat (first | refine XK.norm rfl rfl ?_ | refine XK.rgnA hT rfl rfl rfl ?_ | refine XK.rgnB hT hm rfl rfl rfl ?_)); refine XK.cond rfl (fun hx => ?_) (fun hx => ?_)
      · (repeat (first | refine XK.norm rfl rfl ?_ | refine XK.rgnA hT rfl rfl rfl ?_ | refine XK.rgnB hT hm rfl rfl rfl ?_))
        (first | refine XK.out rfl rfl rfl ?_ | refine XK.outN rfl rfl rfl ?_)
        have : (List.range na).all (fun i => a i == b i) = false := by
          rw [List.all_eq_false]
          refine ⟨i, by simpa using hlt, ?_⟩
          intro h
          have h := beq_iff_eq.1 h
          simp [h] at hx
        simp [this]
      · (repeat (first | refine XK.norm rfl rfl ?_ | refine XK.rgnA hT rfl rfl rfl ?_ | refine XK.rgnB hT hm rfl rfl rfl ?_))
        refine XK.inv ⟨i + 1, ⟨hlt, fun j hj => ?_⟩, Weak.of hN rfl rfl rfl ⟨AvIs.refl _, AvIs.refl _, rfl⟩ trivial, by omega⟩
        by_cases h : j = i
        · subst h
          have : (a j).1 = (b j).1 ∧ (a j).2 = (b j).2 := by simpa using hx
          exact Prod.ext this.1 this.2
        · exact hi2 j (by omega)
    · (repeat (first | refine XK.norm rfl rfl ?_ | refine XK.rgnA hT rfl rfl rfl ?_ | refine XK.rgnB hT hm rfl rfl rfl ?_))
      (first | refine XK.out rfl rfl rfl ?_ | refine XK.outN rfl rfl rfl ?_)
      have : (List.range na).all (fun i => a i == b i) = true := by
        simp only [List.all_eq_true, List.mem_range, beq_iff_eq]
        exact fun j hj => hi2 j (by omega)
      simp [this]
theorem whole17_ok (n : Int) : Does Try.prog 37 [.c (.int .i64 n)] (qv (n, 1)) := by
  refine Does.mk (fun _ => false) TT_ok Try.func37 rfl (by kernel_rfl) Try.ntmps37 rfl rfl fun E hT hE hN hR => ?_
  have hm : E.P.follows .mixedOrders = true := by rw [hE]; kernel_rfl
  (repeat (first | refine XK.norm rfl rfl ?_ | refine XK.rgnA hT rfl rfl rfl ?_ | refine XK.rgnB hT hm rfl rfl rfl ?_))
  (first | refine XK.out rfl rfl rfl ?_ | refine XK.outN rfl rfl rfl ?_)
  rfl
def exK17 : K :=
  { parties := 2, holders := [0, 1], units := [⟨⟨#[69, 85, 82]⟩, 2, 0, (1, 1)⟩, ⟨⟨#[107, 103]⟩, 1, 1, (1, 1)⟩], acts := [⟨1, 0, 0, 1, 1, (3, 1)⟩, ⟨1, 1, 0, -1, 0, (5, 2)⟩], clauses := [⟨1, 0, 0, 2, [], 1, 0, false, false, -1, -1, (10, 1), 0, 1, false⟩], days := 3, off := [] }
theorem exK17_W : kW exK17 := by
  simp [kW, exK17, inK, uW, actW, clW, qW]
theorem example17_ok : Does Try.prog 60 [] (kV exK17) := by
  refine Does.weaken (res := ?x) ?_ ?_
  rotate_left
  refine Does.mk (fun _ => false) TT_ok Try.func60 rfl (by kernel_rfl) Try.ntmps60 rfl rfl fun E hT hE hN hR => ?_
  have hm : E.P.follows .mixedOrders = true := by rw [hE]; kernel_rfl
  (repeat (first | refine XK.norm rfl rfl ?_ | refine XK.rgnA hT rfl rfl rfl ?_ | refine XK.rgnB hT hm rfl rfl rfl ?_)); refine XK.region ?_; refine XL.goA hT rfl rfl rfl rfl ?_
  refine XL.callLA hE rfl rfl rfl rfl trivial rfl (whole17_ok 1) rfl ?_
  refine XL.goA hT rfl rfl rfl rfl ?_
  refine XL.callLA hE rfl rfl rfl rfl trivial rfl (whole17_ok 1) rfl ?_
  refine XL.goA hT rfl rfl rfl rfl ?_
  refine XL.callLA hE rfl rfl rfl rfl trivial rfl (whole17_ok 3) rfl ?_
  refine XL.goA hT rfl rfl rfl rfl ?_
  refine XL.callLA hE rfl rfl rfl rfl trivial rfl (whole17_ok 10) rfl ?_
  refine XL.goA hT rfl rfl rfl rfl ?_; refine XL.fin ?_; (repeat (first | refine XK.norm rfl rfl ?_ | refine XK.rgnA hT rfl rfl rfl ?_ | refine XK.rgnB hT hm rfl rfl rfl ?_))
  (repeat (first | refine XK.norm rfl rfl ?_ | refine XK.rgnA hT rfl rfl rfl ?_ | refine XK.rgnB hT hm rfl rfl rfl ?_))
  (first | refine XK.out rfl rfl rfl ?_ | refine XK.outN rfl rfl rfl ?_)
  rfl
  · refine AvS.agg ⟨AvS.refl _, AvS.rs (fun i hi => ?_), AvS.rs (fun i hi => ?_), AvS.rs (fun i hi => ?_), AvS.rs (fun i hi => ?_), AvS.refl _, AvS.nil, trivial⟩
    · rcases i with _ | _ | i
      · exact AvSL.refl _
      · exact AvSL.refl _
      · omega
    · rcases i with _ | _ | i
      · exact AvSL.refl _
      · exact AvSL.refl _
      · omega
    · rcases i with _ | _ | i
      · exact AvSL.refl _
      · exact AvSL.refl _
      · omega
    · rcases i with _ | i
      · exact ⟨AvS.refl _, AvS.refl _, AvS.refl _, AvS.refl _, AvS.nil, AvSL.refl _⟩
      · omega
theorem ex17_out : outcomeR exK17 [0, 1, -1] 0 3 = (⟨4, 0, 3, 1, 0⟩, 0) := by
  have h : (outcomeR exK17 [0, 1, -1] 0 3).2 = 0 ∧ (outcomeR exK17 [0, 1, -1] 0 3).1.status = 4 ∧ (outcomeR exK17 [0, 1, -1] 0 3).1.from_ = 0 ∧ (outcomeR exK17 [0, 1, -1] 0 3).1.to = 3 ∧ (outcomeR exK17 [0, 1, -1] 0 3).1.got = 1 ∧ (outcomeR exK17 [0, 1, -1] 0 3).1.bearer = 0 := by decide +kernel
  generalize outcomeR exK17 [0, 1, -1] 0 3 = o at *
  obtain ⟨⟨o1, o2, o3, o4, o5⟩, e⟩ := o
  simp only at h
  obtain ⟨rfl, rfl, rfl, rfl, rfl, rfl⟩ := h
  rfl
theorem performed_ex : Does Try.prog 61 [kV exK17, intsV [0, 1, -1], .c (.int .i64 0)] (ar (⟨1, (3, 1)⟩, 0)) := by
  refine Does.mk (fun _ => false) TT_ok Try.func61 rfl (by kernel_rfl) Try.ntmps61 rfl rfl fun E hT hE hN hR => ?_
  have hm : E.P.follows .mixedOrders = true := by rw [hE]; kernel_rfl
  (repeat (first | refine XK.norm rfl rfl ?_ | refine XK.rgnA hT rfl rfl rfl ?_ | refine XK.rgnB hT hm rfl rfl rfl ?_)); refine XK.region ?_; refine XL.goA hT rfl rfl rfl rfl ?_
  refine XL.callLA hE rfl rfl rfl rfl trivial rfl (outcome_ok exK17 exK17_W [0, 1, -1] 0 3) rfl ?_
  rw [ex17_out]
  refine XL.goA hT rfl rfl rfl rfl ?_; refine XL.fin ?_; (repeat (first | refine XK.norm rfl rfl ?_ | refine XK.rgnA hT rfl rfl rfl ?_ | refine XK.rgnB hT hm rfl rfl rfl ?_))
  (repeat (first | refine XK.norm rfl rfl ?_ | refine XK.rgnA hT rfl rfl rfl ?_ | refine XK.rgnB hT hm rfl rfl rfl ?_)); refine XK.cond rfl (fun h1 => ?_) (fun h1 => ?_) <;> (try simp at h1)
  have e1 : exK17.clauses.length = 1 := rfl
  have e2 : exK17.acts.length = 2 := rfl
  have e3 : (exK17.clauses.getD (0 : Int).toNat default).act = 0 := rfl
  (repeat (first | refine XK.norm rfl rfl ?_ | refine XK.rgnA hT rfl rfl rfl ?_ | refine XK.rgnB hT hm rfl rfl rfl ?_)); refine XK.cond rfl (fun h2 => ?_) (fun h2 => ?_)
  · exact absurd h2 (by decide)
  · (repeat (first | refine XK.norm rfl rfl ?_ | refine XK.rgnA hT rfl rfl rfl ?_ | refine XK.rgnB hT hm rfl rfl rfl ?_)); refine XK.cond rfl (fun h3 => ?_) (fun h3 => ?_)
    · (repeat (first | refine XK.norm rfl rfl ?_ | refine XK.rgnA hT rfl rfl rfl ?_ | refine XK.rgnB hT hm rfl rfl rfl ?_)); refine XK.region ?_; refine XL.goA hT rfl rfl rfl rfl ?_
      refine XL.callLA hE rfl rfl rfl rfl trivial rfl (mul_ok (3, 1) (1, 1) ⟨by simp [inK], by simp [inK]⟩ ⟨by simp [inK], by simp [inK]⟩) rfl ?_
      have e : mulR (3, 1) (1, 1) = ((3, 1), 0) := by decide +kernel
      rw [e]
      refine XL.goA hT rfl rfl rfl rfl ?_; refine XL.fin ?_; (repeat (first | refine XK.norm rfl rfl ?_ | refine XK.rgnA hT rfl rfl rfl ?_ | refine XK.rgnB hT hm rfl rfl rfl ?_))
      (repeat (first | refine XK.norm rfl rfl ?_ | refine XK.rgnA hT rfl rfl rfl ?_ | refine XK.rgnB hT hm rfl rfl rfl ?_)); refine XK.cond rfl (fun h4 => ?_) (fun h4 => ?_) <;> (try simp at h4)
      (repeat (first | refine XK.norm rfl rfl ?_ | refine XK.rgnA hT rfl rfl rfl ?_ | refine XK.rgnB hT hm rfl rfl rfl ?_))
      (first | refine XK.out rfl rfl rfl ?_ | refine XK.outN rfl rfl rfl ?_)
      rfl
    · exact absurd h3 (by decide)
theorem ex17_g0 : (sumsR exK17 [0, 1, -1] 0 Mv.giver).2 = 0 ∧ ∀ i, i < 2 → (sumsR exK17 [0, 1, -1] 0 Mv.giver).1 i = [(0, 1), (3, 1)].getD i default := by decide +kernel
theorem ex17_r1 : (sumsR exK17 [0, 1, -1] 1 Mv.recv).2 = 0 ∧ ∀ i, i < 2 → (sumsR exK17 [0, 1, -1] 1 Mv.recv).1 i = [(0, 1), (3, 1)].getD i default := by decide +kernel
theorem ex17_g1 : (sumsR exK17 [0, 1, -1] 1 Mv.giver).2 = 0 ∧ ∀ i, i < 2 → (sumsR exK17 [0, 1, -1] 1 Mv.giver).1 i = [(5, 2), (0, 1)].getD i default := by decide +kernel
theorem ex17_g2 : (sumsR exK17 [0, 1, -1] 2 Mv.giver).2 = 1 := by decide +kernel
theorem ex17_s1 : setOffR exK17 [0, 1, -1] 0 1 0 = (⟨0, (10, 1)⟩, 0) := Prod.ext (A.ext2 (by decide +kernel) (by decide +kernel)) (by decide +kernel)
theorem ex17_s2 : setOffR exK17 [0, 1, -1] 1 0 0 = (⟨0, (-10, 1)⟩, 0) := Prod.ext (A.ext2 (by decide +kernel) (by decide +kernel)) (by decide +kernel)
theorem ex17_s3 : setOffR exK17 [0, 1, -1] 0 1 1 = (zA, 1) := Prod.ext (A.ext2 (by decide +kernel) (by decide +kernel)) (by decide +kernel)
/-- Sums without an error, as a slice and no error. -/
theorem sumsV_at {n : Nat} {r : (Nat → Q) × Int} (q : Nat → Q) (h : r.2 = 0) (hq : ∀ i, i < n → r.1 i = q i) : AvIs (sumsV n r) (.tup [ratV n q, .c (.int .i64 0)]) := by
  unfold sumsV
  rw [h, if_pos rfl]
  exact ⟨⟨rfl, rfl, fun i hi => by show qc (q i) = qc (r.1 i); rw [hq i hi]⟩, rfl⟩
theorem given_e0 : Does Try.prog 31 [kV exK17, intsV [0, 1, -1], .c (.int .i64 0)] (.tup [ratV 2 (fun i => [((0, 1) : Q), (3, 1)].getD i default), .c (.int .i64 0)]) := (given_ok exK17 exK17_W [0, 1, -1] 0).weaken fun _ _ _ _ h => AvIs.ok (sumsV_at _ ex17_g0.1 ex17_g0.2) h
theorem received_e1 : Does Try.prog 32 [kV exK17, intsV [0, 1, -1], .c (.int .i64 1)] (.tup [ratV 2 (fun i => [((0, 1) : Q), (3, 1)].getD i default), .c (.int .i64 0)]) := (received_ok exK17 exK17_W [0, 1, -1] 1).weaken fun _ _ _ _ h => AvIs.ok (sumsV_at _ ex17_r1.1 ex17_r1.2) h
theorem given_e1 : Does Try.prog 31 [kV exK17, intsV [0, 1, -1], .c (.int .i64 1)] (.tup [ratV 2 (fun i => [((5, 2) : Q), (0, 1)].getD i default), .c (.int .i64 0)]) := (given_ok exK17 exK17_W [0, 1, -1] 1).weaken fun _ _ _ _ h => AvIs.ok (sumsV_at _ ex17_g1.1 ex17_g1.2) h
theorem given_e2 : Does Try.prog 31 [kV exK17, intsV [0, 1, -1], .c (.int .i64 2)] (.tup [ratV 0 (sumsR exK17 [0, 1, -1] 2 Mv.giver).1, .c (.int .i64 1)]) := (given_ok exK17 exK17_W [0, 1, -1] 2).weaken fun _ _ _ _ h => by
  unfold sumsV at h
  rw [ex17_g2] at h
  exact h
theorem head17_ok : Does Try.prog 28 [] (.c (.bool true)) := by
  refine Does.mk (fun _ => false) TT_ok Try.func28 rfl (by kernel_rfl) Try.ntmps28 rfl rfl fun E hT hE hN hR => ?_
  have hm : E.P.follows .mixedOrders = true := by rw [hE]; kernel_rfl
  (repeat (first | refine XK.norm rfl rfl ?_ | refine XK.rgnA hT rfl rfl rfl ?_ | refine XK.rgnB hT hm rfl rfl rfl ?_)); refine XK.region ?_; refine XL.goA hT rfl rfl rfl rfl ?_
  refine XL.callKA hE rfl rfl rfl rfl trivial rfl rfl (example17_ok) ?_
  refine XL.goA hT rfl rfl rfl rfl ?_; refine XL.fin ?_; (repeat (first | refine XK.norm rfl rfl ?_ | refine XK.rgnA hT rfl rfl rfl ?_ | refine XK.rgnB hT hm rfl rfl rfl ?_))
  (repeat (first | refine XK.norm rfl rfl ?_ | refine XK.rgnA hT rfl rfl rfl ?_ | refine XK.rgnB hT hm rfl rfl rfl ?_)); refine XK.region ?_; refine XL.goA hT rfl rfl rfl rfl ?_
  refine XL.callKA hE rfl rfl rfl rfl trivial rfl rfl (given_e0) ?_
  refine XL.goA hT rfl rfl rfl rfl ?_; refine XL.fin ?_; (repeat (first | refine XK.norm rfl rfl ?_ | refine XK.rgnA hT rfl rfl rfl ?_ | refine XK.rgnB hT hm rfl rfl rfl ?_))
  (repeat (first | refine XK.norm rfl rfl ?_ | refine XK.rgnA hT rfl rfl rfl ?_ | refine XK.rgnB hT hm rfl rfl rfl ?_)); refine XK.region ?_; refine XL.goA hT rfl rfl rfl rfl ?_
  refine XL.callKA hE rfl rfl rfl rfl trivial rfl rfl (received_e1) ?_
  refine XL.goA hT rfl rfl rfl rfl ?_; refine XL.fin ?_; (repeat (first | refine XK.norm rfl rfl ?_ | refine XK.rgnA hT rfl rfl rfl ?_ | refine XK.rgnB hT hm rfl rfl rfl ?_))
  (repeat (first | refine XK.norm rfl rfl ?_ | refine XK.rgnA hT rfl rfl rfl ?_ | refine XK.rgnB hT hm rfl rfl rfl ?_)); refine XK.region ?_; refine XL.goA hT rfl rfl rfl rfl ?_
  refine XL.callKA hE rfl rfl rfl rfl trivial rfl rfl (given_e1) ?_
  refine XL.goA hT rfl rfl rfl rfl ?_; refine XL.fin ?_; (repeat (first | refine XK.norm rfl rfl ?_ | refine XK.rgnA hT rfl rfl rfl ?_ | refine XK.rgnB hT hm rfl rfl rfl ?_))
  (repeat (first | refine XK.norm rfl rfl ?_ | refine XK.rgnA hT rfl rfl rfl ?_ | refine XK.rgnB hT hm rfl rfl rfl ?_)); refine XK.region ?_; refine XL.goA hT rfl rfl rfl rfl ?_
  refine XL.callLA hE rfl rfl rfl rfl trivial rfl (performed_ex) rfl ?_
  refine XL.goA hT rfl rfl rfl rfl ?_; refine XL.fin ?_; (repeat (first | refine XK.norm rfl rfl ?_ | refine XK.rgnA hT rfl rfl rfl ?_ | refine XK.rgnB hT hm rfl rfl rfl ?_))
  (repeat (first | refine XK.norm rfl rfl ?_ | refine XK.rgnA hT rfl rfl rfl ?_ | refine XK.rgnB hT hm rfl rfl rfl ?_)); refine XK.region ?_; refine XL.goA hT rfl rfl rfl rfl ?_
  refine XL.callLA hE rfl rfl rfl rfl trivial rfl (setOff_ok exK17 exK17_W [0, 1, -1] 0 1 0) rfl ?_
  rw [ex17_s1]
  refine XL.goA hT rfl rfl rfl rfl ?_; refine XL.fin ?_; (repeat (first | refine XK.norm rfl rfl ?_ | refine XK.rgnA hT rfl rfl rfl ?_ | refine XK.rgnB hT hm rfl rfl rfl ?_))
  (repeat (first | refine XK.norm rfl rfl ?_ | refine XK.rgnA hT rfl rfl rfl ?_ | refine XK.rgnB hT hm rfl rfl rfl ?_)); refine XK.region ?_; refine XL.goA hT rfl rfl rfl rfl ?_
  refine XL.callLA hE rfl rfl rfl rfl trivial rfl (setOff_ok exK17 exK17_W [0, 1, -1] 1 0 0) rfl ?_
  rw [ex17_s2]
  refine XL.goA hT rfl rfl rfl rfl ?_; refine XL.fin ?_; (repeat (first | refine XK.norm rfl rfl ?_ | refine XK.rgnA hT rfl rfl rfl ?_ | refine XK.rgnB hT hm rfl rfl rfl ?_))
  (repeat (first | refine XK.norm rfl rfl ?_ | refine XK.rgnA hT rfl rfl rfl ?_ | refine XK.rgnB hT hm rfl rfl rfl ?_)); refine XK.region ?_; refine XL.goA hT rfl rfl rfl rfl ?_
  refine XL.callLA hE rfl rfl rfl rfl trivial rfl (setOff_ok exK17 exK17_W [0, 1, -1] 0 1 1) rfl ?_
  rw [ex17_s3]
  refine XL.goA hT rfl rfl rfl rfl ?_; refine XL.fin ?_; (repeat (first | refine XK.norm rfl rfl ?_ | refine XK.rgnA hT rfl rfl rfl ?_ | refine XK.rgnB hT hm rfl rfl rfl ?_))
  (repeat (first | refine XK.norm rfl rfl ?_ | refine XK.rgnA hT rfl rfl rfl ?_ | refine XK.rgnB hT hm rfl rfl rfl ?_)); refine XK.region ?_; refine XL.goA hT rfl rfl rfl rfl ?_
  refine XL.callKA hE rfl rfl rfl rfl trivial rfl rfl (given_e2) ?_
  refine XL.goA hT rfl rfl rfl rfl ?_; refine XL.fin ?_; (repeat (first | refine XK.norm rfl rfl ?_ | refine XK.rgnA hT rfl rfl rfl ?_ | refine XK.rgnB hT hm rfl rfl rfl ?_))
  (repeat (first | refine XK.norm rfl rfl ?_ | refine XK.rgnA hT rfl rfl rfl ?_ | refine XK.rgnB hT hm rfl rfl rfl ?_)); refine XK.region ?_; refine XL.goA hT rfl rfl rfl rfl ?_
  refine XL.callGA hE rfl rfl rfl rfl rfl rfl rfl rfl (whole17_ok 0) rfl ?_
  refine XL.goA hT rfl rfl rfl rfl ?_
  refine XL.callGA hE rfl rfl rfl rfl rfl rfl rfl rfl (whole17_ok 3) rfl ?_
  refine XL.goA hT rfl rfl rfl rfl ?_
  refine XL.callGA hE rfl rfl rfl rfl rfl rfl rfl rfl (same_ok 2 2 (fun i => [((0, 1) : Q), (3, 1)].getD i default) (fun i => [((0, 1) : Q), (3, 1)].getD i default)) rfl ?_
  refine XL.goA hT rfl rfl rfl rfl ?_
  refine XL.callGA hE rfl rfl rfl rfl rfl rfl rfl rfl (same_ok 2 2 (fun i => [((0, 1) : Q), (3, 1)].getD i default) (fun i => [((0, 1) : Q), (3, 1)].getD i default)) rfl ?_
  refine XL.goA hT rfl rfl rfl rfl ?_
  refine XL.callGA hE rfl rfl rfl rfl rfl rfl rfl rfl (whole17_ok 0) rfl ?_
  refine XL.goA hT rfl rfl rfl rfl ?_
  refine XL.callGA hE rfl rfl rfl rfl rfl rfl rfl rfl (same_ok 2 2 (fun i => [((5, 2) : Q), (0, 1)].getD i default) (fun i => [((5, 2) : Q), (0, 1)].getD i default)) rfl ?_
  refine XL.goA hT rfl rfl rfl rfl ?_; refine XL.fin ?_; (repeat (first | refine XK.norm rfl rfl ?_ | refine XK.rgnA hT rfl rfl rfl ?_ | refine XK.rgnB hT hm rfl rfl rfl ?_))
  (repeat (first | refine XK.norm rfl rfl ?_ | refine XK.rgnA hT rfl rfl rfl ?_ | refine XK.rgnB hT hm rfl rfl rfl ?_)); refine XK.drawn hm ?_; refine XD.goA hT rfl rfl rfl rfl ?_
  refine XD.callGA hE rfl rfl rfl rfl rfl rfl rfl rfl rfl (whole17_ok 3) rfl ?_
  refine XD.goA hT rfl rfl rfl rfl ?_
  refine XD.callGA hE rfl rfl rfl rfl rfl rfl rfl rfl rfl (whole17_ok 10) rfl ?_
  refine XD.goA hT rfl rfl rfl rfl ?_
  refine XD.callGA hE rfl rfl rfl rfl rfl rfl rfl rfl rfl (whole17_ok (-10)) rfl ?_
  refine XD.goA hT rfl rfl rfl rfl ?_; refine XD.fin (by kernel_rfl) ?_; (repeat (first | refine XK.norm rfl rfl ?_ | refine XK.rgnA hT rfl rfl rfl ?_ | refine XK.rgnB hT hm rfl rfl rfl ?_))
  (repeat (first | refine XK.norm rfl rfl ?_ | refine XK.rgnA hT rfl rfl rfl ?_ | refine XK.rgnB hT hm rfl rfl rfl ?_))
  (first | refine XK.out rfl rfl rfl ?_ | refine XK.outN rfl rfl rfl ?_)
  refine cB ?_
  kernel_rfl
end Go.Proofs.Ytiiegpjpckkohaa
end
