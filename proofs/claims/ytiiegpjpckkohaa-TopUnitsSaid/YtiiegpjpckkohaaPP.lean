import Derived.Test.YtiiegpjpckkohaaPO
import Derived.Test.YtiiegpjpckkohaaPJ
import Derived.Test.YtiiegpjpckkohaaPV
section
/- Contracts: tally.Given, Received, SetOff. -/
namespace Go.Proofs.Ytiiegpjpckkohaa
open Go.Eng
set_option maxRecDepth 10000
set_option linter.unusedSimpArgs false
set_option linter.unusedVariables false
theorem given_ok (k : K) (hk : kW k) (l : List Int) (party : Int) : Does Try.prog 31 [kV k, intsV l, .c (.int .i64 party)] (sumsV k.units.length (sumsR k l party Mv.giver)) := by
  refine Does.mk (fun _ => false) TT_ok Try.func31 rfl (by kernel_rfl) Try.ntmps31 rfl rfl fun E hT hE hN hR => ?_
  have hm : E.P.follows .mixedOrders = true := by rw [hE]; kernel_rfl
  (repeat (first | refine XK.norm rfl rfl ?_ | refine XK.rgnA hT rfl rfl rfl ?_ | refine XK.rgnB hT hm rfl rfl rfl ?_)); refine XK.region ?_; refine XL.goA hT rfl rfl rfl rfl ?_
  refine XL.callKA hE rfl rfl rfl rfl trivial rfl rfl (sumsT_ok k hk l party 65 Mv.giver given1_ok) ?_
  refine XL.goA hT rfl rfl rfl rfl ?_; refine XL.fin ?_; (repeat (first | refine XK.norm rfl rfl ?_ | refine XK.rgnA hT rfl rfl rfl ?_ | refine XK.rgnB hT hm rfl rfl rfl ?_))
  (repeat (first | refine XK.norm rfl rfl ?_ | refine XK.rgnA hT rfl rfl rfl ?_ | refine XK.rgnB hT hm rfl rfl rfl ?_))
  (first | refine XK.outL rfl rfl rfl ?_ | refine XK.outLN rfl rfl rfl ?_)
  exact AvIs.refl _
theorem received_ok (k : K) (hk : kW k) (l : List Int) (party : Int) : Does Try.prog 32 [kV k, intsV l, .c (.int .i64 party)] (sumsV k.units.length (sumsR k l party Mv.recv)) := by
  refine Does.mk (fun _ => false) TT_ok Try.func32 rfl (by kernel_rfl) Try.ntmps32 rfl rfl fun E hT hE hN hR => ?_
  have hm : E.P.follows .mixedOrders = true := by rw [hE]; kernel_rfl
  (repeat (first | refine XK.norm rfl rfl ?_ | refine XK.rgnA hT rfl rfl rfl ?_ | refine XK.rgnB hT hm rfl rfl rfl ?_)); refine XK.region ?_; refine XL.goA hT rfl rfl rfl rfl ?_
  refine XL.callKA hE rfl rfl rfl rfl trivial rfl rfl (sumsT_ok k hk l party 66 Mv.recv received1_ok) ?_
  refine XL.goA hT rfl rfl rfl rfl ?_; refine XL.fin ?_; (repeat (first | refine XK.norm rfl rfl ?_ | refine XK.rgnA hT rfl rfl rfl ?_ | refine XK.rgnB hT hm rfl rfl rfl ?_))
  (repeat (first | refine XK.norm rfl rfl ?_ | refine XK.rgnA hT rfl rfl rfl ?_ | refine XK.rgnB hT hm rfl rfl rfl ?_))
  (first | refine XK.outL rfl rfl rfl ?_ | refine XK.outLN rfl rfl rfl ?_)
  exact AvIs.refl _
/-- What a failed clause adds to the set-off: its amount, and whether the second party owes it. -/
def setAt (k : K) (l : List Int) (out : Nat → Oc) (a b : Int) (i : Nat) : Option (A × Bool) :=
  if (out i).status ≠ 4 ∨ (clAt k i).unit = -1 ∨ ((out i).bearer ≠ a ∧ (out i).bearer ≠ b) then none
  else if (holdTo k l (clAt k i).to (out i).to.toNat).1 = (out i).bearer ∨ ((holdTo k l (clAt k i).to (out i).to.toNat).1 ≠ a ∧ (holdTo k l (clAt k i).to (out i).to.toNat).1 ≠ b) then none
  else some (⟨(clAt k i).unit, (clAt k i).value⟩, decide ((out i).bearer = b))
abbrev Sf := List Q × Int
noncomputable def setT (k : K) (unit : Int) (sa : Nat → Option (A × Bool)) : Nat → Sf
  | 0 => ([], 0)
  | i + 1 => if (setT k unit sa i).2 ≠ 0 then setT k unit sa i else match sa i with
    | none => setT k unit sa i
    | some c => if (convK k c.1 unit).2 ≠ 0 then ((setT k unit sa i).1, (convK k c.1 unit).2) else ((setT k unit sa i).1 ++ [sgQ c.2 (convK k c.1 unit).1.val], 0)
noncomputable def setE (unit : Int) (s : Sf) : A × Int :=
  if s.2 ≠ 0 then (zA, s.2)
  else if (collT ((0, 1), 0) (fun i => s.1.getD i default) s.1.length).2 ≠ 0 then (zA, 2)
  else (⟨unit, (collT ((0, 1), 0) (fun i => s.1.getD i default) s.1.length).1⟩, 0)
def setB (k : K) (a b unit : Int) : Bool := decide (a < 0) || decide (b < 0) || decide (k.parties ≤ a) || decide (k.parties ≤ b) || a == b || decide (unit < 0) || decide ((k.units.length : Int) ≤ unit) || (unitAt k unit).kind != 2
noncomputable def setOffR (k : K) (l : List Int) (a b unit : Int) : A × Int :=
  if checkR k l ≠ 0 then (zA, checkR k l)
  else if setB k a b unit = true then (zA, 1)
  else setE unit (setT k unit (setAt k l (followR k l l.length).out a b) k.clauses.length)
theorem setT_none {k : K} {unit : Int} {sa : Nat → Option (A × Bool)} {i : Nat} (h : sa i = none) : setT k unit sa (i + 1) = setT k unit sa i := by
  simp only [setT, h]
  split <;> rfl
theorem setT_some {k : K} {unit : Int} {sa : Nat → Option (A × Bool)} {i : Nat} {c : A × Bool} (h : sa i = some c) (h0 : (setT k unit sa i).2 = 0) : setT k unit sa (i + 1) = if (convK k c.1 unit).2 ≠ 0 then ((setT k unit sa i).1, (convK k c.1 unit).2) else ((setT k unit sa i).1 ++ [sgQ c.2 (convK k c.1 unit).1.val], 0) := by
  simp only [setT, h, h0, ne_eq, not_true_eq_false, if_false]
theorem setT_stop {k : K} {unit : Int} {sa : Nat → Option (A × Bool)} {i : Nat} (h : (setT k unit sa i).2 ≠ 0) : ∀ m, i ≤ m → setT k unit sa m = setT k unit sa i := by
  intro m hm
  induction m with
  | zero => have : i = 0 := by omega
            rw [this]
  | succ m ih =>
    by_cases h1 : i = m + 1
    · rw [h1]
    · have h2 := ih (by omega)
      simp only [setT]
      rw [if_pos (by rw [h2]; exact h), h2]
theorem setT_len (k : K) (unit : Int) (sa : Nat → Option (A × Bool)) : ∀ i, (setT k unit sa i).1.length ≤ i
  | 0 => by simp [setT]
  | i + 1 => by
    have ih := setT_len k unit sa i
    simp only [setT]
    split
    · omega
    · split
      · omega
      · split
        · simp only; omega
        · simp only [List.length_append, List.length_cons, List.length_nil]; omega
theorem rats_app1 (L : List Q) (x : Q) (h : Nat → List AV) (h0 : h 0 = [.c (.int .i64 x.1), .c (.int .i64 x.2)]) :
    ∀ j, j < L.length + 1 → [AV.c (.int .i64 ((L ++ [x]).getD j default).1), .c (.int .i64 ((L ++ [x]).getD j default).2)] = catF L.length (fun i => [AV.c (.int .i64 (L.getD i default).1), .c (.int .i64 (L.getD i default).2)]) h j := by
  intro j hj
  unfold catF
  cases hb : Nat.blt j L.length
  · have hge : ¬ j < L.length := fun h => by have : Nat.blt j L.length = true := by simpa using h
                                             rw [this] at hb; cases hb
    rw [cond_false]
    have e : j = L.length := by omega
    subst e
    rw [Nat.sub_self, h0]; simp [List.getD]
  · have hlt : j < L.length := by simpa using hb
    simp [List.getD, List.getElem?_append_left hlt]
theorem convK_ok {k : K} {a : A} {to : Int} (h : (convK k a to).2 = 0) : qOk (convK k a to).1.val = true := by
  unfold convK convR at h ⊢
  split at h
  · rename_i h1
    rw [if_pos h1]
    split at h
    · simp at h
    · rename_i h2
      rw [if_neg h2]
      split at h
      · exact absurd h ‹_›
      · rename_i h3
        rw [if_neg h3]
        obtain ⟨ha, hb⟩ := Bool.and_eq_true .. ▸ h1
        obtain ⟨v1, v2⟩ := acceptsR_ok ha
        have hu := v2 0 (by omega)
        have hto : 0 ≤ to ∧ to < k.units.length := by simpa using hb
        have f1 := (validR_ok v1 _ (toNat_lt hu.1)).fac
        have f2 := (validR_ok v1 _ (toNat_lt hto)).fac
        have h3 : (valR a.val (k.units.getD a.unit.toNat default).fac (k.units.getD to.toNat default).fac).2 = 0 := by simpa using h3
        rw [valR_toQ hu.2 f1 f2] at h3
        show qOk (valR a.val (k.units.getD a.unit.toNat default).fac (k.units.getD to.toNat default).fac).1 = true
        rw [valR_toQ hu.2 f1 f2]
        exact (toQ_ok h3).1
  · simp at h
theorem setT_q {k : K} {unit : Int} {sa : Nat → Option (A × Bool)} : ∀ i, ∀ q ∈ (setT k unit sa i).1, qOk q = true
  | 0 => fun q h => by simp [setT] at h
  | i + 1 => by
    have ih := setT_q (k := k) (unit := unit) (sa := sa) i
    simp only [setT]
    split
    · exact ih
    · split
      · exact ih
      · split
        · exact ih
        · rename_i h1
          intro q hq
          simp only [List.mem_append, List.mem_cons, List.not_mem_nil, or_false] at hq
          rcases hq with hq | rfl
          · exact ih q hq
          · exact sgQ_ok (convK_ok (by simpa using h1))
end Go.Proofs.Ytiiegpjpckkohaa
end
section
/- Contracts: tally.SetOff. -/
namespace Go.Proofs.Ytiiegpjpckkohaa
open Go.Eng
set_option maxRecDepth 10000
set_option linter.unusedSimpArgs false
set_option linter.unusedVariables false
theorem collT_stop {s : Q × Int} {f : Nat → Q} {i : Nat} (h : (collT s f i).2 ≠ 0) : ∀ m, i ≤ m → (collT s f m).2 ≠ 0 := by
  intro m hm
  induction m with
  | zero => have : i = 0 := by omega
            rwa [this] at h
  | succ m ih =>
    by_cases h1 : i = m + 1
    · rwa [h1] at h
    · have h2 := ih (by omega)
      show (addS _ _).2 ≠ 0
      unfold addS
      rw [if_pos h2]
      exact h2
theorem setOff_ok (k : K) (hk : kW k) (l : List Int) (a b unit : Int) : Does Try.prog 27 [kV k, intsV l, .c (.int .i64 a), .c (.int .i64 b), .c (.int .i64 unit)] (ar (setOffR k l a b unit)) := by
  refine Does.mk (fun _ => false) TT_ok Try.func27 rfl (by kernel_rfl) Try.ntmps27 rfl rfl fun E hT hE hN hR => ?_
  have hm : E.P.follows .mixedOrders = true := by rw [hE]; kernel_rfl
  (repeat (first | refine XK.norm rfl rfl ?_ | refine XK.rgnA hT rfl rfl rfl ?_ | refine XK.rgnB hT hm rfl rfl rfl ?_)); refine XK.region ?_; refine XL.goA hT rfl rfl rfl rfl ?_
  refine XL.callKA hE rfl rfl rfl rfl trivial rfl rfl (outcomes_ok k hk l) ?_
  refine XL.goA hT rfl rfl rfl rfl ?_; refine XL.fin ?_; (repeat (first | refine XK.norm rfl rfl ?_ | refine XK.rgnA hT rfl rfl rfl ?_ | refine XK.rgnB hT hm rfl rfl rfl ?_))
  (repeat (first | refine XK.norm rfl rfl ?_ | refine XK.rgnA hT rfl rfl rfl ?_ | refine XK.rgnB hT hm rfl rfl rfl ?_)); refine XK.cond rfl (fun h1 => ?_) (fun h1 => ?_)
  · have h1 : checkR k l ≠ 0 := by simpa using h1
    (repeat (first | refine XK.norm rfl rfl ?_ | refine XK.rgnA hT rfl rfl rfl ?_ | refine XK.rgnB hT hm rfl rfl rfl ?_))
    (first | refine XK.out rfl rfl rfl ?_ | refine XK.outN rfl rfl rfl ?_)
    rw [setOffR, if_pos h1]
    rfl
  · have h1 : checkR k l = 0 := by simpa using h1
    obtain ⟨h2, h3, h4, -⟩ := checkR_ok hk h1
    have hF := h2.facts
    have hnc := hF.nc
    rw [setOffR, if_neg (by simpa using h1)]
    (repeat (first | refine XK.norm rfl rfl ?_ | refine XK.rgnA hT rfl rfl rfl ?_ | refine XK.rgnB hT hm rfl rfl rfl ?_)); refine XK.cond rfl (fun h5 => ?_) (fun h5 => ?_)
    · have h5 : setB k a b unit = true := h5
      (repeat (first | refine XK.norm rfl rfl ?_ | refine XK.rgnA hT rfl rfl rfl ?_ | refine XK.rgnB hT hm rfl rfl rfl ?_))
      (first | refine XK.out rfl rfl rfl ?_ | refine XK.outN rfl rfl rfl ?_)
      rw [if_pos h5]
      rfl
    · have h5 : setB k a b unit = false := h5
      rw [if_neg (by rw [h5]; simp)]
      have hon : outsN k l = k.clauses.length := by rw [outsN, if_pos h1]
      rw [hon]
      (repeat (first | refine XK.norm rfl rfl ?_ | refine XK.rgnA hT rfl rfl rfl ?_ | refine XK.rgnB hT hm rfl rfl rfl ?_))
      have hf : ∀ i, i < k.clauses.length → ((followR k l l.length).out i).status = 4 → 1 ≤ ((followR k l l.length).out i).to ∧ ((followR k l l.length).out i).to ≤ l.length := fun i hi h => failed_to hF h3 hi (Nat.le_refl _) (by omega) h
      generalize hsa : setAt k l (followR k l l.length).out a b = sa
      refine XK.loop (ι := Nat) (fun i => ST.of [(1, intsV l), (2, .c (.int .i64 a)), (3, .c (.int .i64 b)), (4, .c (.int .i64 unit)), (5, .rptr (kC k)), (10, .ptr 10 0), (14, .vec 700 0), (79, ocsV k.clauses.length (followR k l l.length).out), (80, .c (.int .i64 k.clauses.length)), (81, .c (.int .i64 i))]
        [(10, .cells 45 [.c (.int .i64 0), .c (.int .i64 0), .c (.int .i64 0)]), (700, .vec 29 2 0 (setT k unit sa i).1.length (fun j => [.c (.int .i64 ((setT k unit sa i).1.getD j default).1), .c (.int .i64 ((setT k unit sa i).1.getD j default).2)]))] 2000 187 (fun _ => false))
        (fun i => i ≤ k.clauses.length ∧ (setT k unit sa i).2 = 0) (fun i => k.clauses.length - i) 0 ⟨Nat.zero_le _, rfl⟩
        (Weak.trans (Weak.frozenC (k := 5) hN rfl rfl rfl) (Weak.trans (Weak.ghost (j := 14) (k := 700) (e := 29) (sz := 2) (f := fun _ => []) rfl rfl) (Weak.of hN rfl rfl rfl (by (repeat' (first | exact rfl | exact AvIs.refl _ | exact trivial | exact fun _ _ => rfl | exact fun _ _ => ⟨rfl, AvIs.refl _⟩ | refine ⟨?_, ?_⟩))) ⟨by (repeat' (first | exact rfl | exact AvIs.refl _ | exact trivial | exact fun _ _ => rfl | exact fun _ _ => ⟨rfl, AvIs.refl _⟩ | refine ⟨?_, ?_⟩)), ⟨rfl, rfl, rfl⟩, rfl, fun j hj => absurd hj (Nat.not_lt_zero _)⟩))) fun i hi => ?_
      obtain ⟨hi, hst⟩ := hi
      (repeat (first | refine XK.norm rfl rfl ?_ | refine XK.rgnA hT rfl rfl rfl ?_ | refine XK.rgnB hT hm rfl rfl rfl ?_)); refine XK.cond rfl (fun hlt => ?_) (fun hlt => ?_) <;> (try simp at hlt)
      · have hfi := hf i hlt
        have hN0 := fun h => setT_none (k := k) (unit := unit) (sa := sa) (i := i) h
        have hS0 := fun c h => setT_some (k := k) (unit := unit) (sa := sa) (i := i) (c := c) h hst
        have hlen := setT_len k unit sa i
        have hlast := fun h => setT_stop (k := k) (unit := unit) (sa := sa) (i := i + 1) h k.clauses.length hlt
        have fo : (followR k l l.length).out (i : Int).toNat = (followR k l l.length).out i := rfl
        have fc : k.clauses.getD (i : Int).toNat default = clAt k i := rfl
        have hcl := hF.clB (i := i) hlt
        have hcw := hF.clW' hlt
        have hca : sa i = setAt k l (followR k l l.length).out a b i := by rw [hsa]
        unfold setAt at hca
        (repeat (first | refine XK.norm rfl rfl ?_ | refine XK.rgnA hT rfl rfl rfl ?_ | refine XK.rgnB hT hm rfl rfl rfl ?_))
        rw [fo, fc]
        generalize hsai : sa i = cm at *
        generalize (followR k l l.length).out i = o at *
        generalize clAt k i = x at *
        (repeat (first | refine XK.norm rfl rfl ?_ | refine XK.rgnA hT rfl rfl rfl ?_ | refine XK.rgnB hT hm rfl rfl rfl ?_)); refine XK.cond rfl (fun hb => ?_) (fun hb => ?_)
        · have hb : o.status ≠ 4 ∨ x.unit = -1 ∨ (o.bearer ≠ a ∧ o.bearer ≠ b) := by
            simp only [Bool.or_eq_true, bne_iff_ne, beq_iff_eq, Bool.and_eq_true] at hb
            rcases hb with (hb | hb) | hb
            · exact .inl hb
            · exact .inr (.inl hb)
            · exact .inr (.inr hb)
          rw [if_pos hb] at hca
          (repeat (first | refine XK.norm rfl rfl ?_ | refine XK.rgnA hT rfl rfl rfl ?_ | refine XK.rgnB hT hm rfl rfl rfl ?_))
          refine XK.inv ⟨i + 1, ⟨hlt, by rw [hN0 hca]; exact hst⟩, ?_, by omega⟩
          rw [hN0 hca]
          exact (Weak.of hN rfl rfl rfl (by (repeat' (first | exact rfl | exact AvIs.refl _ | exact trivial | exact fun _ _ => rfl | exact fun _ _ => ⟨rfl, AvIs.refl _⟩ | refine ⟨?_, ?_⟩))) (by (repeat' (first | exact rfl | exact AvIs.refl _ | exact trivial | exact fun _ _ => rfl | exact fun _ _ => ⟨rfl, AvIs.refl _⟩ | refine ⟨?_, ?_⟩))))
        · have hb : ¬ (o.status ≠ 4 ∨ x.unit = -1 ∨ (o.bearer ≠ a ∧ o.bearer ≠ b)) := by
            intro h
            have : (o.status != 4 || x.unit == -1 || (o.bearer != a && o.bearer != b)) = true := by
              simp only [Bool.or_eq_true, bne_iff_ne, beq_iff_eq, Bool.and_eq_true]
              rcases h with h | h | h
              · exact .inl (.inl h)
              · exact .inl (.inr h)
              · exact .inr h
            rw [this] at hb; cases hb
          rw [if_neg hb] at hca
          have h4' : o.status = 4 := Decidable.not_not.1 fun h => hb (.inl h)
          have h5' : x.unit ≠ -1 := fun h => hb (.inr (.inl h))
          have hfo := hfi h4'
          have hrole : 0 ≤ x.to ∧ x.to < k.holders.length := by
            rcases hcl.2.2.2.2.2.2 with h | h
            · exact absurd h.1 h5'
            · have := h.2.2.2.2.2
              simpa [movB] using this
          have hpos : posB x.value = true := by
            rcases hcl.2.2.2.2.2.2 with h | h
            · exact absurd h.1 h5'
            · exact h.2.2.2.2.1
          have hho : Does Try.prog 36 [kV k, intsV l, .c (.int .i64 x.to), .c (.int .i64 o.to)] (.tup [.c (.int .i64 (holdTo k l x.to o.to.toNat).1), .c (.int .i64 0)]) := by
            obtain ⟨r, hr⟩ := Int.eq_ofNat_of_zero_le hrole.1
            obtain ⟨m, hm2⟩ := Int.eq_ofNat_of_zero_le (show 0 ≤ o.to by omega)
            have := holder_ok k hk l x.to o.to
            rw [hr, hm2, holderR_at h1 (by omega) (by omega)] at this
            rw [hr, hm2]
            exact this
          generalize (holdTo k l x.to o.to.toNat).1 = hld at *
          (repeat (first | refine XK.norm rfl rfl ?_ | refine XK.rgnA hT rfl rfl rfl ?_ | refine XK.rgnB hT hm rfl rfl rfl ?_)); refine XK.region ?_; refine XL.goA hT rfl rfl rfl rfl ?_
          refine XL.callLA hE rfl rfl rfl rfl trivial rfl (hho) rfl ?_
          refine XL.goA hT rfl rfl rfl rfl ?_; refine XL.fin ?_; (repeat (first | refine XK.norm rfl rfl ?_ | refine XK.rgnA hT rfl rfl rfl ?_ | refine XK.rgnB hT hm rfl rfl rfl ?_))
          (repeat (first | refine XK.norm rfl rfl ?_ | refine XK.rgnA hT rfl rfl rfl ?_ | refine XK.rgnB hT hm rfl rfl rfl ?_)); refine XK.cond rfl (fun h6 => ?_) (fun h6 => ?_)
          · have h6 : hld = o.bearer ∨ (hld ≠ a ∧ hld ≠ b) := by simpa using h6
            rw [if_pos h6] at hca
            (repeat (first | refine XK.norm rfl rfl ?_ | refine XK.rgnA hT rfl rfl rfl ?_ | refine XK.rgnB hT hm rfl rfl rfl ?_))
            refine XK.inv ⟨i + 1, ⟨hlt, by rw [hN0 hca]; exact hst⟩, ?_, by omega⟩
            rw [hN0 hca]
            exact (Weak.of hN rfl rfl rfl (by (repeat' (first | exact rfl | exact AvIs.refl _ | exact trivial | exact fun _ _ => rfl | exact fun _ _ => ⟨rfl, AvIs.refl _⟩ | refine ⟨?_, ?_⟩))) (by (repeat' (first | exact rfl | exact AvIs.refl _ | exact trivial | exact fun _ _ => rfl | exact fun _ _ => ⟨rfl, AvIs.refl _⟩ | refine ⟨?_, ?_⟩))))
          · have h6 : ¬ (hld = o.bearer ∨ (hld ≠ a ∧ hld ≠ b)) := by
              intro h
              have h7 : (hld == o.bearer || (hld != a && hld != b)) = true := by simpa using h
              rw [h7] at h6; cases h6
            rw [if_neg h6] at hca
            have hS1 := hS0 _ hca
            have hco : Does Try.prog 26 [unitsV k.units, av ⟨x.unit, x.value⟩, .c (.int .i64 unit)] (ar (convK k ⟨x.unit, x.value⟩ unit)) := convert_ok k.units.length (fun j => k.units.getD j default) ⟨x.unit, x.value⟩ unit (all_getD hk.2.2.1) ⟨hcw.2.2.2.2.2.2.2.2.2.2.1, hcw.2.2.2.2.2.2.2.2.2.1⟩
            have hcok := fun h => convK_ok (k := k) (a := ⟨x.unit, x.value⟩) (to := unit) h
            have hcvW := convK_W k ⟨x.unit, x.value⟩ unit
            generalize convK k ⟨x.unit, x.value⟩ unit = cv at *
            (repeat (first | refine XK.norm rfl rfl ?_ | refine XK.rgnA hT rfl rfl rfl ?_ | refine XK.rgnB hT hm rfl rfl rfl ?_)); refine XK.region ?_; refine XL.goA hT rfl rfl rfl rfl ?_
            refine XL.callLA hE rfl rfl rfl rfl trivial rfl (hco) rfl ?_
            refine XL.goA hT rfl rfl rfl rfl ?_; refine XL.fin ?_; (repeat (first | refine XK.norm rfl rfl ?_ | refine XK.rgnA hT rfl rfl rfl ?_ | refine XK.rgnB hT hm rfl rfl rfl ?_))
            (repeat (first | refine XK.norm rfl rfl ?_ | refine XK.rgnA hT rfl rfl rfl ?_ | refine XK.rgnB hT hm rfl rfl rfl ?_)); refine XK.cond rfl (fun h7 => ?_) (fun h7 => ?_) <;> (try simp at h7)
            · simp only at hS1
              rw [if_pos h7] at hS1
              rw [hlast (by rw [hS1]; exact h7), hS1, setE, if_pos h7]
              (repeat (first | refine XK.norm rfl rfl ?_ | refine XK.rgnA hT rfl rfl rfl ?_ | refine XK.rgnB hT hm rfl rfl rfl ?_))
              (first | refine XK.out rfl rfl rfl ?_ | refine XK.outN rfl rfl rfl ?_)
              rfl
            · simp only at hS1
              rw [if_neg (by simpa using h7)] at hS1
              have hq := hcok h7
              obtain ⟨g1, g2, g3, g4, _⟩ := qOk_iff.1 hq
              (repeat (first | refine XK.norm rfl rfl ?_ | refine XK.rgnA hT rfl rfl rfl ?_ | refine XK.rgnB hT hm rfl rfl rfl ?_)); refine XK.cond rfl (fun h8 => ?_) (fun h8 => ?_) <;> (try simp at h8)
              · have hsg : sgQ (decide (o.bearer = b)) cv.1.val = (-cv.1.val.1, cv.1.val.2) := by simp [sgQ, h8]
                rw [hsg] at hS1
                (repeat (first | refine XK.norm rfl rfl ?_ | refine XK.rgnA hT rfl rfl rfl ?_ | refine XK.rgnB hT hm rfl rfl rfl ?_))
                refine XK.inv ⟨i + 1, ⟨hlt, by rw [hS1]⟩, ?_, by omega⟩
                rw [hS1]
                refine Weak.trans (Weak.stamp (k := 700) (t := 0) hN rfl rfl) ?_
                exact Weak.of hN rfl rfl rfl (by (repeat' (first | exact rfl | exact AvIs.refl _ | exact trivial | exact fun _ _ => rfl | exact fun _ _ => ⟨rfl, AvIs.refl _⟩ | refine ⟨?_, ?_⟩))) ⟨by (repeat' (first | exact rfl | exact AvIs.refl _ | exact trivial | exact fun _ _ => rfl | exact fun _ _ => ⟨rfl, AvIs.refl _⟩ | refine ⟨?_, ?_⟩)), ⟨rfl, rfl, rfl⟩, by simp, rats_app1 _ _ _ (by show [AV.c (.int .i64 (0 - cv.1.val.1)), _] = _; rw [Int.zero_sub])⟩
              · have hsg : sgQ (decide (o.bearer = b)) cv.1.val = cv.1.val := by simp [sgQ, h8]
                rw [hsg] at hS1
                (repeat (first | refine XK.norm rfl rfl ?_ | refine XK.rgnA hT rfl rfl rfl ?_ | refine XK.rgnB hT hm rfl rfl rfl ?_))
                refine XK.inv ⟨i + 1, ⟨hlt, by rw [hS1]⟩, ?_, by omega⟩
                rw [hS1]
                refine Weak.trans (Weak.stamp (k := 700) (t := 0) hN rfl rfl) ?_
                exact Weak.of hN rfl rfl rfl (by (repeat' (first | exact rfl | exact AvIs.refl _ | exact trivial | exact fun _ _ => rfl | exact fun _ _ => ⟨rfl, AvIs.refl _⟩ | refine ⟨?_, ?_⟩))) ⟨by (repeat' (first | exact rfl | exact AvIs.refl _ | exact trivial | exact fun _ _ => rfl | exact fun _ _ => ⟨rfl, AvIs.refl _⟩ | refine ⟨?_, ?_⟩)), ⟨rfl, rfl, rfl⟩, by simp, rats_app1 _ _ _ rfl⟩
      · have hie : i = k.clauses.length := by omega
        subst hie
        rw [setE, if_neg (by simpa using hst)]
        have hPLW : ∀ j, j < (setT k unit sa k.clauses.length).1.length → qW ((setT k unit sa k.clauses.length).1.getD j default) := fun j hj => qOk_W (setT_q k.clauses.length _ (getD_memA hj))
        have hPLn := setT_len k unit sa k.clauses.length
        generalize hPL : (setT k unit sa k.clauses.length).1 = PL at *
        refine XK.weak (Weak.trans (Weak.frozen (k := 700) hN rfl rfl) (Weak.of (L := [(4, .c (.int .i64 unit)), (10, .ptr 10 0), (14, ratV PL.length (fun j => PL.getD j default))]) (O := [(10, .cells 45 [.c (.int .i64 0), .c (.int .i64 0), .c (.int .i64 0)])]) (nx := 3000) (nt := 187) (md := fun _ => false) hN rfl rfl rfl (by (repeat' (first | exact rfl | exact AvIs.refl _ | exact trivial | exact fun _ _ => rfl | exact fun _ _ => ⟨rfl, AvIs.refl _⟩ | refine ⟨?_, ?_⟩))) (by (repeat' (first | exact rfl | exact AvIs.refl _ | exact trivial | exact fun _ _ => rfl | exact fun _ _ => ⟨rfl, AvIs.refl _⟩ | refine ⟨?_, ?_⟩))))) ?_
        (repeat (first | refine XK.norm rfl rfl ?_ | refine XK.rgnA hT rfl rfl rfl ?_ | refine XK.rgnB hT hm rfl rfl rfl ?_))
        have z : qW (0, 1) := ⟨by simp [inK], by simp [inK]⟩
        refine XK.loop (ι := Nat) (fun j => ST.of [(4, .c (.int .i64 unit)), (10, .ptr 10 0), (22, .ptr 3022 0), (168, ratV PL.length (fun j => PL.getD j default)), (169, .c (.int .i64 PL.length)), (170, .c (.int .i64 j))]
          [(10, .cells 45 [.c (.int .i64 0), .c (.int .i64 0), .c (.int .i64 0)]), (3022, .cells 29 [.c (.int .i64 (collT ((0, 1), 0) (fun i => PL.getD i default) j).1.1), .c (.int .i64 (collT ((0, 1), 0) (fun i => PL.getD i default) j).1.2)])] 5000 187 (fun _ => false))
          (fun j => j ≤ PL.length ∧ (collT ((0, 1), 0) (fun i => PL.getD i default) j).2 = 0) (fun j => PL.length - j) 0 ⟨Nat.zero_le _, rfl⟩
          (Weak.of hN rfl rfl rfl (by (repeat' (first | exact rfl | exact AvIs.refl _ | exact trivial | exact fun _ _ => rfl | exact fun _ _ => ⟨rfl, AvIs.refl _⟩ | refine ⟨?_, ?_⟩))) (by (repeat' (first | exact rfl | exact AvIs.refl _ | exact trivial | exact fun _ _ => rfl | exact fun _ _ => ⟨rfl, AvIs.refl _⟩ | refine ⟨?_, ?_⟩)))) fun j hj => ?_
        obtain ⟨hj, hcs⟩ := hj
        (repeat (first | refine XK.norm rfl rfl ?_ | refine XK.rgnA hT rfl rfl rfl ?_ | refine XK.rgnB hT hm rfl rfl rfl ?_)); refine XK.cond rfl (fun hlt2 => ?_) (fun hlt2 => ?_) <;> (try simp at hlt2)
        · have hW := collT_W (s := ((0, 1), 0)) (f := fun i => PL.getD i default) z j
          have hnx : collT ((0, 1), 0) (fun i => PL.getD i default) (j + 1) = addS (collT ((0, 1), 0) (fun i => PL.getD i default) j) (PL.getD j default) := rfl
          have had := add_ok (collT ((0, 1), 0) (fun i => PL.getD i default) j).1 (PL.getD j default) hW (hPLW j hlt2)
          have hstop : (collT ((0, 1), 0) (fun i => PL.getD i default) (j + 1)).2 ≠ 0 → (collT ((0, 1), 0) (fun i => PL.getD i default) PL.length).2 ≠ 0 := fun h => collT_stop h PL.length hlt2
          unfold addS at hnx
          rw [if_neg (by simpa using hcs)] at hnx
          generalize hs1 : collT ((0, 1), 0) (fun i => PL.getD i default) (j + 1) = s1 at *
          generalize hs0 : collT ((0, 1), 0) (fun i => PL.getD i default) j = s0 at *
          generalize hadr : addR s0.1 (PL.getD j default) = ad at *
          (repeat (first | refine XK.norm rfl rfl ?_ | refine XK.rgnA hT rfl rfl rfl ?_ | refine XK.rgnB hT hm rfl rfl rfl ?_)); refine XK.region ?_; refine XL.goA hT rfl rfl rfl rfl ?_
          refine XL.callLA hE rfl rfl rfl rfl trivial rfl (had) rfl ?_
          refine XL.goA hT rfl rfl rfl rfl ?_; refine XL.fin ?_; (repeat (first | refine XK.norm rfl rfl ?_ | refine XK.rgnA hT rfl rfl rfl ?_ | refine XK.rgnB hT hm rfl rfl rfl ?_))
          (repeat (first | refine XK.norm rfl rfl ?_ | refine XK.rgnA hT rfl rfl rfl ?_ | refine XK.rgnB hT hm rfl rfl rfl ?_)); refine XK.cond rfl (fun h9 => ?_) (fun h9 => ?_) <;> (try simp at h9)
          · rw [if_pos h9] at hnx
            rw [if_pos (hstop (by rw [hnx]; exact h9))]
            (repeat (first | refine XK.norm rfl rfl ?_ | refine XK.rgnA hT rfl rfl rfl ?_ | refine XK.rgnB hT hm rfl rfl rfl ?_))
            (first | refine XK.out rfl rfl rfl ?_ | refine XK.outN rfl rfl rfl ?_)
            rfl
          · rw [if_neg (by simpa using h9)] at hnx
            (repeat (first | refine XK.norm rfl rfl ?_ | refine XK.rgnA hT rfl rfl rfl ?_ | refine XK.rgnB hT hm rfl rfl rfl ?_))
            refine XK.inv ⟨j + 1, ⟨hlt2, ?_⟩, ?_, by omega⟩
            · rw [hs1, hnx]; exact hcs
            · rw [hs1, hnx]; exact (Weak.of hN rfl rfl rfl (by (repeat' (first | exact rfl | exact AvIs.refl _ | exact trivial | exact fun _ _ => rfl | exact fun _ _ => ⟨rfl, AvIs.refl _⟩ | refine ⟨?_, ?_⟩))) (by (repeat' (first | exact rfl | exact AvIs.refl _ | exact trivial | exact fun _ _ => rfl | exact fun _ _ => ⟨rfl, AvIs.refl _⟩ | refine ⟨?_, ?_⟩))))
        · have hje : j = PL.length := by omega
          subst hje
          rw [if_neg (by simpa using hcs)]
          (repeat (first | refine XK.norm rfl rfl ?_ | refine XK.rgnA hT rfl rfl rfl ?_ | refine XK.rgnB hT hm rfl rfl rfl ?_))
          (first | refine XK.out rfl rfl rfl ?_ | refine XK.outN rfl rfl rfl ?_)
          rfl
end Go.Proofs.Ytiiegpjpckkohaa
end
