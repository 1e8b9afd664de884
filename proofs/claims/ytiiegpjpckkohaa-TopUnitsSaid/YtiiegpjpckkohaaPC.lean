import Derived.Test.YtiiegpjpckkohaaPB
section
/- Contracts: slices.Clone; package trace: step. -/
namespace Go.Proofs.Ytiiegpjpckkohaa
open Go.Eng
set_option maxRecDepth 10000
set_option linter.unusedSimpArgs false
set_option linter.unusedVariables false
theorem clone_ok (L : List Int) (hL : L.length ≤ 1000000) : DoesM Try.prog 91 [intsV L] [] (.vec 0 0) [intsO L] := by
  refine DoesM.mk (fun d => Nat.beq d 5) 100 TT_ok Try.func91 rfl (by kernel_rfl) Try.ntmps91 rfl rfl rfl fun E hT hE hN hR => ?_
  have hm : E.P.follows .mixedOrders = true := by rw [hE]; kernel_rfl
  (repeat (first | refine XK.norm rfl rfl ?_ | refine XK.rgnA hT rfl rfl rfl ?_ | refine XK.rgnB hT hm rfl rfl rfl ?_)); refine XK.region ?_; refine XL.goA hT rfl rfl rfl rfl ?_
  refine XL.nilEq hT rfl rfl rfl rfl rfl rfl fun b hb => ?_
  refine XL.goA hT rfl rfl rfl rfl ?_; refine XL.fin ?_; (repeat (first | refine XK.norm rfl rfl ?_ | refine XK.rgnA hT rfl rfl rfl ?_ | refine XK.rgnB hT hm rfl rfl rfl ?_))
  (repeat (first | refine XK.norm rfl rfl ?_ | refine XK.rgnA hT rfl rfl rfl ?_ | refine XK.rgnB hT hm rfl rfl rfl ?_)); refine XK.cond rfl (fun h1 => ?_) (fun h1 => ?_)
  · have h0 := hb h1
    have hL0 : L = [] := List.length_eq_zero_iff.1 h0
    subst hL0
    (repeat (first | refine XK.norm rfl rfl ?_ | refine XK.rgnA hT rfl rfl rfl ?_ | refine XK.rgnB hT hm rfl rfl rfl ?_))
    refine XK.weak (Weak.trans (Weak.ghost (j := 2) (k := 99) (e := 3) (sz := 1) (f := fun _ => []) rfl rfl) (Weak.of (L := [(2, .vec 99 0)]) (O := [(99, intsO [])]) (nx := 1000) (nt := 8) (md := fun _ => false) hN rfl rfl rfl (by (repeat' (first | exact rfl | exact AvIs.refl _ | exact trivial | exact fun _ _ => rfl | exact fun _ _ => ⟨rfl, AvIs.refl _⟩ | refine ⟨?_, ?_⟩))) (by (repeat' (first | exact rfl | exact AvIs.refl _ | exact trivial | exact fun _ _ => rfl | exact fun _ _ => ⟨rfl, AvIs.refl _⟩ | exact fun _ hi => absurd hi (Nat.not_lt_zero _) | (intro i hi; cases Nat.lt_one_iff.1 hi; rfl) | (intro j hj; by_cases hji : j = (0); (· subst hji; simp [setRowF, setL, Rd.upOut, Rd.upCnt]; done); (· simp [setRowF, beq_false hji, Rd.upOut, Rd.upCnt, hji, lt_succ_ne hji]; done)) | refine ⟨?_, ?_⟩))))) ?_
    (first | refine XK.outR [99] hN rfl rfl rfl ?_ rfl rfl ?_ | refine XK.outRN [99] hN rfl rfl rfl ?_ rfl rfl ?_)
    · (repeat' (first | exact rfl | exact AvIs.refl _ | exact trivial | exact fun _ _ => rfl | exact fun _ _ => ⟨rfl, AvIs.refl _⟩ | refine ⟨?_, ?_⟩))
    · (repeat' (first | exact rfl | exact AvIs.refl _ | exact trivial | exact fun _ _ => rfl | exact fun _ _ => ⟨rfl, AvIs.refl _⟩ | refine ⟨?_, ?_⟩))
  · (repeat (first | refine XK.norm rfl rfl ?_ | refine XK.rgnA hT rfl rfl rfl ?_ | refine XK.rgnB hT hm rfl rfl rfl ?_))
    refine XK.weak (Weak.trans (Weak.stamp (k := 121) (t := 0) hN rfl rfl) (Weak.of (L := [(2, .vec 121 0)]) (O := [(121, intsO L)]) (nx := 1000) (nt := 8) (md := fun _ => false) hN rfl rfl rfl (by (repeat' (first | exact rfl | exact AvIs.refl _ | exact trivial | exact fun _ _ => rfl | exact fun _ _ => ⟨rfl, AvIs.refl _⟩ | refine ⟨?_, ?_⟩))) ⟨⟨rfl, rfl, rfl⟩, by simp, fun j hj => ?_⟩)) ?_
    · have : Nat.blt j 0 = false := by cases j <;> rfl
      simp [catF, iC, this]
    (first | refine XK.outR [121] hN rfl rfl rfl ?_ rfl rfl ?_ | refine XK.outRN [121] hN rfl rfl rfl ?_ rfl rfl ?_)
    · (repeat' (first | exact rfl | exact AvIs.refl _ | exact trivial | exact fun _ _ => rfl | exact fun _ _ => ⟨rfl, AvIs.refl _⟩ | refine ⟨?_, ?_⟩))
    · (repeat' (first | exact rfl | exact AvIs.refl _ | exact trivial | exact fun _ _ => rfl | exact fun _ _ => ⟨rfl, AvIs.refl _⟩ | refine ⟨?_, ?_⟩))
/-- The reading's numbers are small. -/
structure RdOk (k : K) (r : Rd) : Prop where
  steps : 0 ≤ r.steps ∧ r.steps ≤ 900000
  day : 0 ≤ r.day ∧ r.day ≤ r.steps
  got : ∀ j, j < k.clauses.length → 0 ≤ (r.out j).got ∧ (r.out j).got ≤ r.steps
  cnt : ∀ j, j < k.clauses.length → 0 ≤ (r.cnt j).1 ∧ (r.cnt j).1 ≤ r.steps
  wait : WaitOk k r
def stepR (k : K) (r : Rd) (s : Int) : Rd :=
  if s = -1 then startR k (tickTo k { r with steps := r.steps + 1 } (freeB k r.day) k.clauses.length) (endedT k { r with steps := r.steps + 1 } (freeB k r.day) k.clauses.length)
  else startR k (actR k { r with steps := r.steps + 1 } s.toNat) (endedA k { r with steps := r.steps + 1 } s.toNat k.clauses.length)
theorem unst_le (k : K) (out : Nat → Oc) : unst k out ≤ k.clauses.length := by
  have := List.countP_le_length (p := fun i => decide ((out i).from_ < 0)) (l := List.range k.clauses.length)
  simpa [unst] using this
theorem endedA_len (k : K) (r : Rd) (s n : Nat) : (endedA k r s n).length ≤ n := by
  have := List.length_filter_le (fun j => (actAt1 k r s j).2.2) (List.range n)
  simpa [endedA] using this
theorem endedT_len (k : K) (r : Rd) (free : Bool) (n : Nat) : (endedT k r free n).length ≤ n := by
  have := List.length_filter_le (fun j => (tickAt k r free j).2.2) (List.range n)
  simpa [endedT] using this
theorem actR_same (k : K) (r : Rd) (s : Nat) : (actR k r s).wait = r.wait ∧ (actR k r s).steps = r.steps ∧ (actR k r s).day = r.day := by
  unfold actR
  split <;> exact ⟨rfl, rfl, rfl⟩
theorem step_ok (k : K) (hk : KFacts k) (r : Rd) (hr : RdOk k r) (s : Int) (hs : s = -1 ∨ (0 ≤ s ∧ s < k.acts.length)) :
    DoesM Try.prog 83 [.ptr 0 0, .c (.int .i64 s)] (rdOs k r) (.tup []) (rdOs k (stepR k r s)) := by
  refine DoesM.mk (fun _ => false) 100 TT_ok Try.func83 rfl (by kernel_rfl) Try.ntmps83 rfl rfl rfl fun E hT hE hN hR => ?_
  have hm : E.P.follows .mixedOrders = true := by rw [hE]; kernel_rfl
  have hst := hr.steps
  have hdy := hr.day
  have hnc := hk.nc
  (repeat (first | refine XK.norm rfl rfl ?_ | refine XK.rgnA hT rfl rfl rfl ?_ | refine XK.rgnB hT hm rfl rfl rfl ?_)); refine XK.cond rfl (fun h1 => ?_) (fun h1 => ?_)
  · have h1 : s = -1 := by simpa using h1
    have hR : stepR k r s = startR k (tickTo k { r with steps := r.steps + 1 } (freeB k r.day) k.clauses.length) (endedT k { r with steps := r.steps + 1 } (freeB k r.day) k.clauses.length) := if_pos h1
    have hl := endedT_len k { r with steps := r.steps + 1 } (freeB k r.day) k.clauses.length
    have hu := unst_le k (tickTo k { r with steps := r.steps + 1 } (freeB k r.day) k.clauses.length).out
    rw [hR]
    (repeat (first | refine XK.norm rfl rfl ?_ | refine XK.rgnA hT rfl rfl rfl ?_ | refine XK.rgnB hT hm rfl rfl rfl ?_)); refine XK.region ?_; refine XL.goA hT rfl rfl rfl rfl ?_
    refine XL.callMA [0, 1, 2, 3, 4, 5, 99] hE rfl rfl rfl rfl trivial (tick_ok k hk { r with steps := r.steps + 1 } s ⟨hdy.1, by simp only; omega⟩ (fun j hj => by have := hr.cnt j hj; simp only; omega)) rfl rfl rfl rfl rfl ?_
    refine XL.goA hT rfl rfl rfl rfl ?_
    refine XL.callMA [0, 1, 2, 3, 4, 5, 99] hE rfl rfl rfl rfl trivial (start_ok k hk (tickTo k { r with steps := r.steps + 1 } (freeB k r.day) k.clauses.length) (endedT k { r with steps := r.steps + 1 } (freeB k r.day) k.clauses.length) hr.wait (by omega) (by simp only [tickTo]; omega)) rfl rfl rfl rfl rfl ?_
    refine XL.goA hT rfl rfl rfl rfl ?_; refine XL.fin ?_; (repeat (first | refine XK.norm rfl rfl ?_ | refine XK.rgnA hT rfl rfl rfl ?_ | refine XK.rgnB hT hm rfl rfl rfl ?_))
    (repeat (first | refine XK.norm rfl rfl ?_ | refine XK.rgnA hT rfl rfl rfl ?_ | refine XK.rgnB hT hm rfl rfl rfl ?_))
    (first | refine XK.outR [0, 1, 2, 3, 4, 5] hN rfl rfl rfl ?_ rfl rfl ?_ | refine XK.outRN [0, 1, 2, 3, 4, 5] hN rfl rfl rfl ?_ rfl rfl ?_)
    · (repeat' (first | exact rfl | exact AvIs.refl _ | exact trivial | exact fun _ _ => rfl | exact fun _ _ => ⟨rfl, AvIs.refl _⟩ | refine ⟨?_, ?_⟩))
    · (repeat' (first | exact rfl | exact AvIs.refl _ | exact trivial | exact fun _ _ => rfl | exact fun _ _ => ⟨rfl, AvIs.refl _⟩ | refine ⟨?_, ?_⟩))
  · have h1 : ¬ s = -1 := by simpa using h1
    have h2 := hs.resolve_left h1
    obtain ⟨i, rfl⟩ := Int.eq_ofNat_of_zero_le h2.1
    have hi : i < k.acts.length := by omega
    have hR : stepR k r i = startR k (actR k { r with steps := r.steps + 1 } i) (endedA k { r with steps := r.steps + 1 } i k.clauses.length) := if_neg h1
    have hl := endedA_len k { r with steps := r.steps + 1 } i k.clauses.length
    have hu := unst_le k (actR k { r with steps := r.steps + 1 } i).out
    have hsame := actR_same k { r with steps := r.steps + 1 } i
    rw [hR]
    (repeat (first | refine XK.norm rfl rfl ?_ | refine XK.rgnA hT rfl rfl rfl ?_ | refine XK.rgnB hT hm rfl rfl rfl ?_)); refine XK.region ?_; refine XL.goA hT rfl rfl rfl rfl ?_
    refine XL.callMA [0, 1, 2, 3, 4, 5, 99] hE rfl rfl rfl rfl trivial (act_ok k hk { r with steps := r.steps + 1 } i hi (fun j hj => by have := hr.got j hj; simp only; omega)) rfl rfl rfl rfl rfl ?_
    refine XL.goA hT rfl rfl rfl rfl ?_
    refine XL.callMA [0, 1, 2, 3, 4, 5, 99] hE rfl rfl rfl rfl trivial (start_ok k hk (actR k { r with steps := r.steps + 1 } i) (endedA k { r with steps := r.steps + 1 } i k.clauses.length) (by unfold WaitOk; rw [hsame.1]; exact hr.wait) (by omega) (by rw [hsame.2.1]; simp only; omega)) rfl rfl rfl rfl rfl ?_
    refine XL.goA hT rfl rfl rfl rfl ?_; refine XL.fin ?_; (repeat (first | refine XK.norm rfl rfl ?_ | refine XK.rgnA hT rfl rfl rfl ?_ | refine XK.rgnB hT hm rfl rfl rfl ?_))
    (repeat (first | refine XK.norm rfl rfl ?_ | refine XK.rgnA hT rfl rfl rfl ?_ | refine XK.rgnB hT hm rfl rfl rfl ?_))
    (first | refine XK.outR [0, 1, 2, 3, 4, 5] hN rfl rfl rfl ?_ rfl rfl ?_ | refine XK.outRN [0, 1, 2, 3, 4, 5] hN rfl rfl rfl ?_ rfl rfl ?_)
    · (repeat' (first | exact rfl | exact AvIs.refl _ | exact trivial | exact fun _ _ => rfl | exact fun _ _ => ⟨rfl, AvIs.refl _⟩ | refine ⟨?_, ?_⟩))
    · (repeat' (first | exact rfl | exact AvIs.refl _ | exact trivial | exact fun _ _ => rfl | exact fun _ _ => ⟨rfl, AvIs.refl _⟩ | refine ⟨?_, ?_⟩))
end Go.Proofs.Ytiiegpjpckkohaa
end
section
/- Contracts: package trace: begin. -/
namespace Go.Proofs.Ytiiegpjpckkohaa
open Go.Eng
set_option maxRecDepth 10000
set_option linter.unusedSimpArgs false
set_option linter.unusedVariables false
def encZ (z : Int) : Nat := if 0 ≤ z then 2 * z.toNat else 2 * (-z).toNat + 1
def decZ (m : Nat) : Int := if m % 2 = 0 then ((m / 2 : Nat) : Int) else -((m / 2 : Nat) : Int)
theorem decZ_encZ (z : Int) : decZ (encZ z) = z := by
  unfold encZ decZ
  by_cases h : 0 ≤ z
  · rw [if_pos h, if_pos (by omega)]; omega
  · rw [if_neg h, if_neg (by omega)]; omega
theorem encZ_ne (z : Int) : encZ z ≠ 1 := by
  unfold encZ; split <;> omega
theorem encZ_dec {m : Nat} (h : m ≠ 1) : encZ (decZ m) = m := by
  unfold encZ decZ
  by_cases h2 : m % 2 = 0
  · rw [if_pos h2, if_pos (by omega)]; omega
  · rw [if_neg h2, if_neg (by omega)]; omega
def encV : Value → Nat
  | .int _ z => encZ z
  | _ => 0
theorem encV_inj : ∀ u v : Value, (KK.int .i64).has u = true → (KK.int .i64).has v = true → encV u = encV v → u = v := by
  intro u v hu hv h
  cases u <;> simp [KK.has] at hu
  cases v <;> simp [KK.has] at hv
  subst hu hv
  rename_i a b
  have h : encZ a = encZ b := h
  have : decZ (encZ a) = decZ (encZ b) := by rw [h]
  rw [decZ_encZ, decZ_encZ] at this
  rw [this]
/-- The rows of a family, by the keys of a map. -/
def famW (g : Int → List Int) (m : Nat) : Nat × (Nat → List AV) := if m = 1 then (0, fun _ => []) else ((g (decZ m)).length, fun i => [.c (.int .i64 ((g (decZ m)).getD i default))])
theorem famW_at (g : Int → List Int) (z : Int) : famW g (encZ z) = ((g z).length, fun i => [.c (.int .i64 ((g z).getD i default))]) := by
  unfold famW; rw [if_neg (encZ_ne z), decZ_encZ]
abbrev Wt2 := (Int → List Int) × (Value → Bool)
def addW (w : Wt2) (z : Int) (i : Nat) : Wt2 := (fun y => if y = z then w.1 y ++ [(i : Int)] else w.1 y, fun u => keyEq u (.int .i64 z) || w.2 u)
theorem famW_add (w : Wt2) (z : Int) (i : Nat) {m : Nat} (h : m ≠ encZ z) : famW (addW w z i).1 m = famW w.1 m := by
  unfold famW
  by_cases h1 : m = 1
  · rw [if_pos h1, if_pos h1]
  · rw [if_neg h1, if_neg h1]
    have : decZ m ≠ z := fun e => h (by rw [← e, encZ_dec h1])
    simp [addW, this]
def condsTo (x : Cl) (i : Nat) (w : Wt2) : Nat → Wt2
  | 0 => w
  | m + 1 => addW (condsTo x i w m) (x.start.getD m default).clause i
def waitTo (k : K) : Nat → Wt2
  | 0 => (fun _ => [], fun _ => false)
  | n + 1 => if (clAt k n).waived = true then waitTo k n else condsTo (clAt k n) n (if (clAt k n).start.length = 0 then addW (waitTo k n) (-1) n else waitTo k n) (clAt k n).start.length
def firstOut (x : Cl) : Oc := if x.waived = true then ⟨5, -1, 0, 0, -1⟩ else ⟨0, -1, -1, 0, -1⟩
def knownTo (k : K) (n : Nat) : List Int := (-1) :: ((List.range n).filter (fun j => (clAt k j).waived)).map (fun j : Nat => (j : Int))
def begin0 (k : K) : Rd := { steps := 0, day := 0, hold := fun i => k.holders.getD i default, hap := fun _ => false, dom := (waitTo k k.clauses.length).2, wait := (waitTo k k.clauses.length).1, cnt := fun _ => (0, false), out := fun j => firstOut (clAt k j) }
def beginR (k : K) : Rd := startR k (begin0 k) (knownTo k k.clauses.length)
/-- The reading while it is made. -/
def begT (k : K) (n : Nat) : Rd := { begin0 k with out := fun j => if j < n then firstOut (clAt k j) else ⟨0, 0, 0, 0, 0⟩ }
def rdO2 (k : K) (r : Rd) : Ob := .cells 121 [.c (.int .i64 k.parties), intsV k.holders, unitsV k.units, actsV k.acts, clsV k.clauses, .c (.int .i64 k.days), intsV k.off,
  .c (.int .i64 r.steps), .c (.int .i64 r.day), .vec 99 0, .vec 229 0, freeV k, .mp 230, .vec 234 0, .vec 238 0]
theorem addW_ok {k : K} {w : Wt2} {z : Int} {i : Nat} {m : Nat} (hi : i < k.clauses.length) (h : ∀ y, (w.1 y).length ≤ m ∧ ∀ x ∈ w.1 y, 0 ≤ x ∧ x < k.clauses.length) : ∀ y, ((addW w z i).1 y).length ≤ m + 1 ∧ ∀ x ∈ (addW w z i).1 y, 0 ≤ x ∧ x < k.clauses.length := by
  intro y
  obtain ⟨h1, h2⟩ := h y
  simp only [addW]
  split
  · refine ⟨by simp; omega, fun x hx => ?_⟩
    simp at hx
    rcases hx with hx | rfl
    · exact h2 x hx
    · omega
  · exact ⟨by omega, h2⟩
theorem condsTo_ok {k : K} {w : Wt2} {x : Cl} {i : Nat} {m : Nat} (hi : i < k.clauses.length) (h : ∀ y, (w.1 y).length ≤ m ∧ ∀ x ∈ w.1 y, 0 ≤ x ∧ x < k.clauses.length) : ∀ p, ∀ y, ((condsTo x i w p).1 y).length ≤ m + p ∧ ∀ x_1 ∈ (condsTo x i w p).1 y, 0 ≤ x_1 ∧ x_1 < k.clauses.length
  | 0 => h
  | p + 1 => addW_ok hi (condsTo_ok hi h p)
theorem waitTo_ok {k : K} (hk : KFacts k) : ∀ n, n ≤ k.clauses.length → ∀ y, ((waitTo k n).1 y).length ≤ 9 * n ∧ ∀ x ∈ (waitTo k n).1 y, 0 ≤ x ∧ x < k.clauses.length
  | 0, _ => fun y => ⟨by simp [waitTo], fun x hx => by simp [waitTo] at hx⟩
  | n + 1, hn => by
    have ih := waitTo_ok hk n (by omega)
    have hs := (hk.clB (i := n) (by omega)).2.2.2.1
    intro y
    simp only [waitTo]
    split
    · exact ⟨by have := (ih y).1; omega, (ih y).2⟩
    · split
      · have := condsTo_ok (x := clAt k n) (i := n) (by omega) (addW_ok (z := -1) (i := n) (by omega) ih) (clAt k n).start.length y
        exact ⟨by have := this.1; omega, this.2⟩
      · have := condsTo_ok (x := clAt k n) (i := n) (by omega) ih (clAt k n).start.length y
        exact ⟨by have := this.1; omega, this.2⟩
theorem waitF_fam (g : Int → List Int) : ∀ u, (KK.int .i64).has u = true → AvIs (AV.rs 1 (famW g (encV u)).1 (famW g (encV u)).2) (waitF g u) := by
  intro u hu
  cases u <;> simp [KK.has] at hu
  rename_i kk y
  subst hu
  show AvIs (AV.rs 1 (famW g (encZ y)).1 (famW g (encZ y)).2) _
  rw [famW_at]
  exact AvIs.refl _
theorem begin_ok (k : K) (hk : KFacts k) : DoesM Try.prog 82 [kV k] [] (.ptr 0 0) (rdOs k (beginR k)) := by
  refine DoesM.mk (fun d => Nat.beq d 32) 100 TT_ok Try.func82 rfl (by kernel_rfl) Try.ntmps82 rfl rfl rfl fun E hT hE hN hR => ?_
  have hm : E.P.follows .mixedOrders = true := by rw [hE]; kernel_rfl
  have hnc := hk.nc
  have hna := hk.na
  have hnh := hk.nh
  (repeat (first | refine XK.norm rfl rfl ?_ | refine XK.rgnA hT rfl rfl rfl ?_ | refine XK.rgnB hT hm rfl rfl rfl ?_)); refine XK.drawn hm ?_; refine XD.goA hT rfl rfl rfl rfl ?_
  refine XD.callMA [99] hE rfl rfl rfl rfl trivial (clone_ok k.holders (by omega)) rfl rfl rfl rfl rfl ?_
  refine XD.goA hT rfl rfl rfl rfl ?_; refine XD.fin (by kernel_rfl) ?_; (repeat (first | refine XK.norm rfl rfl ?_ | refine XK.rgnA hT rfl rfl rfl ?_ | refine XK.rgnB hT hm rfl rfl rfl ?_))
  (repeat (first | refine XK.norm rfl rfl ?_ | refine XK.rgnA hT rfl rfl rfl ?_ | refine XK.rgnB hT hm rfl rfl rfl ?_))
  refine XK.loop (ι := Nat) (fun i => ⟨mkFr [(1, .rptr (kC k)), (3, .ptr 240 0), (4, .vec 471 0), (34, clsV k.clauses), (35, .c (.int .i64 k.clauses.length)), (36, .c (.int .i64 i))], obF 1000000 3 1 (famW (waitTo k i).1) ((230, mapF 1000000 (.int .i64) (waitTo k i).2 encV) :: [(240, rdO2 k (begT k i)), (99, holdO k (begT k i)), (229, hapO k (begT k i)), (234, cntO k (begT k i)), (238, outO k (begT k i)), (471, intsO (knownTo k i))]), 2000, 113, fun _ => false⟩)
    (fun i => i ≤ k.clauses.length) (fun i => k.clauses.length - i) 0 (Nat.zero_le _)
    (Weak.trans (Weak.frozenC (k := 101) hN rfl rfl rfl) (Weak.trans (Weak.of (L := [(1, .rptr (kC k)), (3, .ptr 240 0), (4, .vec 471 0), (34, clsV k.clauses), (35, .c (.int .i64 k.clauses.length)), (36, .c (.int .i64 (0 : Nat)))]) (O := (230, .mapb (.int .i64) (.slice none 0 0) (fun _ => false) (fun _ => .c (.slice none 0 0))) :: [(240, rdO2 k (begT k 0)), (99, holdO k (begT k 0)), (229, hapO k (begT k 0)), (234, cntO k (begT k 0)), (238, outO k (begT k 0)), (471, intsO (knownTo k 0))]) (nx := 2000) (nt := 113) (md := fun _ => false) hN rfl rfl rfl (by (repeat' (first | exact rfl | exact AvIs.refl _ | exact trivial | exact fun _ _ => rfl | exact fun _ _ => ⟨rfl, AvIs.refl _⟩ | refine ⟨?_, ?_⟩))) (by (repeat' (first | exact rfl | exact AvIs.refl _ | exact trivial | exact fun _ _ => rfl | exact fun _ _ => ⟨rfl, AvIs.refl _⟩ | exact fun _ hi => absurd hi (Nat.not_lt_zero _) | (intro i hi; cases Nat.lt_one_iff.1 hi; rfl) | (intro j hj; by_cases hji : j = (0); (· subst hji; simp [setRowF, setL, Rd.upOut, Rd.upCnt, begT]; done); (· simp [setRowF, beq_false hji, Rd.upOut, Rd.upCnt, begT, hji, lt_succ_ne hji]; done)) | refine ⟨?_, ?_⟩))))
      (Weak.famIn encV (famW (fun _ => [])) (fun m => by unfold famW; split <;> rfl) hN rfl rfl (fun _ => rfl)))) fun i hi => ?_
  (repeat (first | refine XK.norm rfl rfl ?_ | refine XK.rgnA hT rfl rfl rfl ?_ | refine XK.rgnB hT hm rfl rfl rfl ?_)); refine XK.cond rfl (fun hlt0 => ?_) (fun hlt0 => ?_)
  · have hlt : i < k.clauses.length := by simpa using hlt0
    have fc : k.clauses.getD (i : Int).toNat default = clAt k i := rfl
    have hkl : (knownTo k i).length ≤ i + 1 := by
      have := List.length_filter_le (fun j => (clAt k j).waived) (List.range i)
      simpa [knownTo] using this
    (repeat (first | refine XK.norm rfl rfl ?_ | refine XK.rgnA hT rfl rfl rfl ?_ | refine XK.rgnB hT hm rfl rfl rfl ?_))
    rw [fc]
    (repeat (first | refine XK.norm rfl rfl ?_ | refine XK.rgnA hT rfl rfl rfl ?_ | refine XK.rgnB hT hm rfl rfl rfl ?_)); refine XK.cond rfl (fun hw => ?_) (fun hw => ?_)
    · have hw1 : (waitTo k (i + 1)) = waitTo k i := by simp [waitTo, hw]
      have hw2 : knownTo k (i + 1) = knownTo k i ++ [(i : Int)] := by simp [knownTo, List.range_succ, List.filter_append, hw]
      (repeat (first | refine XK.norm rfl rfl ?_ | refine XK.rgnA hT rfl rfl rfl ?_ | refine XK.rgnB hT hm rfl rfl rfl ?_))
      refine XK.inv ⟨i + 1, hlt, ?_, by omega⟩
      rw [hw1, hw2]
      exact Weak.trans (Weak.stamp (k := 471) (t := 0) hN rfl rfl) (Weak.famOf hN rfl rfl (by (repeat' (first | exact rfl | exact AvIs.refl _ | exact trivial | exact fun _ _ => rfl | exact fun _ _ => ⟨rfl, AvIs.refl _⟩ | refine ⟨?_, ?_⟩))) ⟨by (repeat' (first | exact rfl | exact AvIs.refl _ | exact trivial | exact fun _ _ => rfl | exact fun _ _ => ⟨rfl, AvIs.refl _⟩ | refine ⟨?_, ?_⟩)), by (repeat' (first | exact rfl | exact AvIs.refl _ | exact trivial | exact fun _ _ => rfl | exact fun _ _ => ⟨rfl, AvIs.refl _⟩ | refine ⟨?_, ?_⟩)), by (repeat' (first | exact rfl | exact AvIs.refl _ | exact trivial | exact fun _ _ => rfl | exact fun _ _ => ⟨rfl, AvIs.refl _⟩ | refine ⟨?_, ?_⟩)), by (repeat' (first | exact rfl | exact AvIs.refl _ | exact trivial | exact fun _ _ => rfl | exact fun _ _ => ⟨rfl, AvIs.refl _⟩ | refine ⟨?_, ?_⟩)), ⟨⟨rfl, rfl, rfl⟩, rfl, by
        intro j hj
        by_cases hji : j = i
        · subst hji; simp [setRowF, setL, begT, firstOut, hw]
        · simp [setRowF, beq_false hji, begT, hji, lt_succ_ne hji]⟩, ⟨⟨rfl, rfl, rfl⟩, by simp, ints_app (knownTo k i) i _ rfl⟩⟩ (by show some (Ob.map _ (mapF _ _ _ _)) = _; rw [mapF_stamp rfl]) (fun j hj => ST.stamp_vec hj rfl (by (try dsimp only); (repeat (rw [upd_big hj rfl])); exact obF_ge hj)))
    · have hw2 : knownTo k (i + 1) = knownTo k i := by simp [knownTo, List.range_succ, List.filter_append, hw]
      have hrow : ∀ j, j < k.clauses.length → [AV.c (.int .i64 ((begT k (i + 1)).out j).status), .c (.int .i64 ((begT k (i + 1)).out j).from_), .c (.int .i64 ((begT k (i + 1)).out j).to), .c (.int .i64 ((begT k (i + 1)).out j).got), .c (.int .i64 ((begT k (i + 1)).out j).bearer)]
          = setRowF (fun j => [AV.c (.int .i64 ((begT k i).out j).status), .c (.int .i64 ((begT k i).out j).from_), .c (.int .i64 ((begT k i).out j).to), .c (.int .i64 ((begT k i).out j).got), .c (.int .i64 ((begT k i).out j).bearer)]) (i : Int).toNat 0 [.c (.int .i64 0), .c (.int .i64 (-1)), .c (.int .i64 (-1)), .c (.int .i64 0), .c (.int .i64 (-1))] j := by
        intro j hj
        by_cases hji : j = i
        · subst hji; simp [setRowF, setL, begT, firstOut, hw]
        · simp [setRowF, beq_false hji, begT, hji, lt_succ_ne hji]
      have hLn : (clAt k i).start.length ≤ 8 := (hk.clB hlt).2.2.2.1
      have hwk := waitTo_ok hk i (by omega)
      have hall : ∀ (w : Wt2) (q : Nat), (∀ y, (w.1 y).length ≤ q ∧ ∀ x ∈ w.1 y, 0 ≤ x ∧ x < k.clauses.length) → ∀ z, (w.1 z).length ≤ q := fun w q h z => (h z).1
      generalize hw1 : (if (clAt k i).start.length = 0 then addW (waitTo k i) (-1) i else waitTo k i) = w1
      have hw1k : ∀ y, (w1.1 y).length ≤ 9 * i + 1 ∧ ∀ x ∈ w1.1 y, 0 ≤ x ∧ x < k.clauses.length := by
        rw [← hw1]
        split
        · exact addW_ok hlt hwk
        · exact fun y => ⟨by have := (hwk y).1; omega, (hwk y).2⟩
      have hw3 : waitTo k (i + 1) = condsTo (clAt k i) i w1 (clAt k i).start.length := by rw [← hw1]; simp [waitTo, hw]
      have e1 : (famW (waitTo k i).1 (encV (.int .i64 (-1)))).1 = ((waitTo k i).1 (-1)).length := by show (famW _ (encZ (-1))).1 = _; rw [famW_at]
      (repeat (first | refine XK.norm rfl rfl ?_ | refine XK.rgnA hT rfl rfl rfl ?_ | refine XK.rgnB hT hm rfl rfl rfl ?_)); refine XK.join (⟨mkFr [(5, .c (.int .i64 i)), (6, .ptr 2119 0), (1, .rptr (kC k)), (3, .ptr 240 0), (4, .vec 471 0), (34, clsV k.clauses), (35, .c (.int .i64 k.clauses.length)), (36, .c (.int .i64 i))], obF 1000000 3 1 (famW (w1).1) ((230, mapF 1000000 (.int .i64) (w1).2 encV) :: [(2119, .cells 86 (clC (clAt k i))), (240, rdO2 k (begT k (i + 1))), (99, holdO k (begT k (i + 1))), (229, hapO k (begT k (i + 1))), (234, cntO k (begT k (i + 1))), (238, outO k (begT k (i + 1))), (471, intsO (knownTo k i))]), 5000, 113, fun _ => false⟩) rfl (fun h0 => ?_) (fun h0 => ?_) ?_
      · have h0 : (clAt k i).start.length = 0 := by simpa using h0
        rw [if_pos h0] at hw1
        refine XK.weak (Weak.trans (Weak.famOf (B := 1000000) (k := 230) (e := 3) (sz := 1) (kk := .int .i64) (d := (waitTo k i).2) (enc := encV) (F := famW (waitTo k i).1) (L := [(5, .c (.int .i64 i)), (6, .ptr 2119 0), (1, .rptr (kC k)), (3, .ptr 240 0), (4, .vec 471 0), (34, clsV k.clauses), (35, .c (.int .i64 k.clauses.length)), (36, .c (.int .i64 i))]) (O := [(2119, .cells 86 (clC (clAt k i))), (240, rdO2 k (begT k (i + 1))), (99, holdO k (begT k (i + 1))), (229, hapO k (begT k (i + 1))), (234, cntO k (begT k (i + 1))), (238, outO k (begT k (i + 1))), (471, intsO (knownTo k i))]) (nx := 6000) (md := fun _ => false) hN rfl rfl (by (repeat' (first | exact rfl | exact AvIs.refl _ | exact trivial | exact fun _ _ => rfl | exact fun _ _ => ⟨rfl, AvIs.refl _⟩ | refine ⟨?_, ?_⟩))) ⟨by (repeat' (first | exact rfl | exact AvIs.refl _ | exact trivial | exact fun _ _ => rfl | exact fun _ _ => ⟨rfl, AvIs.refl _⟩ | refine ⟨?_, ?_⟩)), by (repeat' (first | exact rfl | exact AvIs.refl _ | exact trivial | exact fun _ _ => rfl | exact fun _ _ => ⟨rfl, AvIs.refl _⟩ | refine ⟨?_, ?_⟩)), by (repeat' (first | exact rfl | exact AvIs.refl _ | exact trivial | exact fun _ _ => rfl | exact fun _ _ => ⟨rfl, AvIs.refl _⟩ | refine ⟨?_, ?_⟩)), by (repeat' (first | exact rfl | exact AvIs.refl _ | exact trivial | exact fun _ _ => rfl | exact fun _ _ => ⟨rfl, AvIs.refl _⟩ | refine ⟨?_, ?_⟩)), by (repeat' (first | exact rfl | exact AvIs.refl _ | exact trivial | exact fun _ _ => rfl | exact fun _ _ => ⟨rfl, AvIs.refl _⟩ | refine ⟨?_, ?_⟩)), ⟨⟨rfl, rfl, rfl⟩, rfl, hrow⟩, by (repeat' (first | exact rfl | exact AvIs.refl _ | exact trivial | exact fun _ _ => rfl | exact fun _ _ => ⟨rfl, AvIs.refl _⟩ | refine ⟨?_, ?_⟩))⟩ rfl (fun j hj => by (try dsimp only); (repeat (rw [upd_big hj rfl])); exact obF_ge hj))
          (Weak.famOpen 700 (.int .i64 (-1)) hN rfl rfl rfl rfl rfl rfl rfl rfl encV_inj)) ?_
        have hb := (hwk (-1)).1
        rw [← e1] at hb
        (repeat (first | refine XK.norm rfl rfl ?_ | refine XK.rgnA hT rfl rfl rfl ?_ | refine XK.rgnB hT hm rfl rfl rfl ?_))
        subst hw1
        exact XK.inv (Weak.famClose 700 (.int .i64 (-1)) (famW (addW (waitTo k i) (-1) i).1) hN rfl rfl (by (repeat' (first | exact rfl | exact AvIs.refl _ | exact trivial | exact fun _ _ => rfl | exact fun _ _ => ⟨rfl, AvIs.refl _⟩ | refine ⟨?_, ?_⟩))) (by (repeat' (first | exact rfl | exact AvIs.refl _ | exact trivial | exact fun _ _ => rfl | exact fun _ _ => ⟨rfl, AvIs.refl _⟩ | refine ⟨?_, ?_⟩))) rfl rfl (fun j hj => by (try dsimp only); (repeat (rw [upd_big hj rfl])); exact obQ_ge hj) (fun v _ => by show (bif keyEq v (.int .i64 (-1)) then AV.vec 700 1 else bif keyEq v (.int .i64 (-1)) then AV.vec 700 0 else AV.vec (1000000 + encV v) 0) = _; cases keyEq v (.int .i64 (-1)) <;> rfl) (fun _ _ => rfl)
          (by show (famW _ (encZ (-1))).1 = (famW _ (encZ (-1))).1 + 1; rw [famW_at, famW_at]; simp [addW])
          (by show ∀ j, j < (famW _ (encZ (-1))).1 + 1 → (famW _ (encZ (-1))).2 j = catF (famW _ (encZ (-1))).1 (famW _ (encZ (-1))).2 (rowOf [AV.c (.int .i64 i)] 1) j; rw [famW_at, famW_at]; have := ints_app ((waitTo k i).1 (-1)) i (rowOf [AV.c (.int .i64 i)] 1) rfl; simpa [addW] using this)
          (fun j hj => famW_add _ _ _ hj) rfl encV_inj)
      · have h0 : ¬ (clAt k i).start.length = 0 := by simpa using h0
        rw [if_neg h0] at hw1
        subst hw1
        (repeat (first | refine XK.norm rfl rfl ?_ | refine XK.rgnA hT rfl rfl rfl ?_ | refine XK.rgnB hT hm rfl rfl rfl ?_))
        exact XK.inv (Weak.famOf hN rfl rfl (by (repeat' (first | exact rfl | exact AvIs.refl _ | exact trivial | exact fun _ _ => rfl | exact fun _ _ => ⟨rfl, AvIs.refl _⟩ | refine ⟨?_, ?_⟩))) ⟨by (repeat' (first | exact rfl | exact AvIs.refl _ | exact trivial | exact fun _ _ => rfl | exact fun _ _ => ⟨rfl, AvIs.refl _⟩ | refine ⟨?_, ?_⟩)), by (repeat' (first | exact rfl | exact AvIs.refl _ | exact trivial | exact fun _ _ => rfl | exact fun _ _ => ⟨rfl, AvIs.refl _⟩ | refine ⟨?_, ?_⟩)), by (repeat' (first | exact rfl | exact AvIs.refl _ | exact trivial | exact fun _ _ => rfl | exact fun _ _ => ⟨rfl, AvIs.refl _⟩ | refine ⟨?_, ?_⟩)), by (repeat' (first | exact rfl | exact AvIs.refl _ | exact trivial | exact fun _ _ => rfl | exact fun _ _ => ⟨rfl, AvIs.refl _⟩ | refine ⟨?_, ?_⟩)), by (repeat' (first | exact rfl | exact AvIs.refl _ | exact trivial | exact fun _ _ => rfl | exact fun _ _ => ⟨rfl, AvIs.refl _⟩ | refine ⟨?_, ?_⟩)), ⟨⟨rfl, rfl, rfl⟩, rfl, hrow⟩, by (repeat' (first | exact rfl | exact AvIs.refl _ | exact trivial | exact fun _ _ => rfl | exact fun _ _ => ⟨rfl, AvIs.refl _⟩ | refine ⟨?_, ?_⟩))⟩ rfl (fun j hj => by (try dsimp only); (repeat (rw [upd_big hj rfl])); exact obF_ge hj))
      (repeat (first | refine XK.norm rfl rfl ?_ | refine XK.rgnA hT rfl rfl rfl ?_ | refine XK.rgnB hT hm rfl rfl rfl ?_))
      have hcd := fun m (hm : m < (clAt k i).start.length) => hk.cond hlt (s := (clAt k i).start.getD m default) (by simp only [List.getD_eq_getElem?_getD, List.getElem?_eq_getElem hm, Option.getD_some]; exact List.getElem_mem hm)
      refine XK.loop (ι := Nat) (fun m => ⟨mkFr [(5, .c (.int .i64 i)), (6, .ptr 2119 0), (85, cndsV (clAt k i).start), (86, .c (.int .i64 (clAt k i).start.length)), (87, .c (.int .i64 m)), (1, .rptr (kC k)), (3, .ptr 240 0), (4, .vec 471 0), (34, clsV k.clauses), (35, .c (.int .i64 k.clauses.length)), (36, .c (.int .i64 i))], obF 1000000 3 1 (famW (condsTo (clAt k i) i w1 m).1) ((230, mapF 1000000 (.int .i64) (condsTo (clAt k i) i w1 m).2 encV) :: [(2119, .cells 86 (clC (clAt k i))), (240, rdO2 k (begT k (i + 1))), (99, holdO k (begT k (i + 1))), (229, hapO k (begT k (i + 1))), (234, cntO k (begT k (i + 1))), (238, outO k (begT k (i + 1))), (471, intsO (knownTo k i))]), 7000, 113, fun _ => false⟩)
        (fun m => m ≤ (clAt k i).start.length) (fun m => (clAt k i).start.length - m) 0 (Nat.zero_le _)
        (Weak.famOf hN rfl rfl (by (repeat' (first | exact rfl | exact AvIs.refl _ | exact trivial | exact fun _ _ => rfl | exact fun _ _ => ⟨rfl, AvIs.refl _⟩ | refine ⟨?_, ?_⟩))) (by (repeat' (first | exact rfl | exact AvIs.refl _ | exact trivial | exact fun _ _ => rfl | exact fun _ _ => ⟨rfl, AvIs.refl _⟩ | refine ⟨?_, ?_⟩))) rfl (fun j hj => by (try dsimp only); (repeat (rw [upd_big hj rfl])); exact obF_ge hj)) fun m hm0 => ?_
      (repeat (first | refine XK.norm rfl rfl ?_ | refine XK.rgnA hT rfl rfl rfl ?_ | refine XK.rgnB hT hm rfl rfl rfl ?_)); refine XK.cond rfl (fun hml0 => ?_) (fun hml0 => ?_)
      · have hml : m < (clAt k i).start.length := by simpa using hml0
        have hb := (condsTo_ok (x := clAt k i) hlt hw1k m ((clAt k i).start.getD m default).clause).1
        have hcm := hcd m hml
        have fz : ((clAt k i).start.getD (m : Int).toNat default) = (clAt k i).start.getD m default := rfl
        generalize hwm : condsTo (clAt k i) i w1 m = wm at hb
        have hwm1 : condsTo (clAt k i) i w1 (m + 1) = addW wm ((clAt k i).start.getD m default).clause i := by rw [← hwm]; rfl
        (repeat (first | refine XK.norm rfl rfl ?_ | refine XK.rgnA hT rfl rfl rfl ?_ | refine XK.rgnB hT hm rfl rfl rfl ?_))
        rw [fz]
        generalize hzz : ((clAt k i).start.getD m default).clause = z at hb hwm1
        have hcc : [AV.c (.int .i64 z), .c (.int .i64 ((clAt k i).start.getD m default).is)] = cndC ((clAt k i).start.getD m default) := by rw [← hzz]; rfl
        have e2 : (famW wm.1 (encV (.int .i64 z))).1 = (wm.1 z).length := by show (famW _ (encZ z)).1 = _; rw [famW_at]
        rw [← e2] at hb
        refine XK.weak (Weak.trans (Weak.famOf (B := 1000000) (k := 230) (e := 3) (sz := 1) (kk := .int .i64) (d := wm.2) (enc := encV) (F := famW wm.1) (L := (8, .ptr 7121 0) :: [(5, .c (.int .i64 i)), (6, .ptr 2119 0), (85, cndsV (clAt k i).start), (86, .c (.int .i64 (clAt k i).start.length)), (87, .c (.int .i64 m)), (1, .rptr (kC k)), (3, .ptr 240 0), (4, .vec 471 0), (34, clsV k.clauses), (35, .c (.int .i64 k.clauses.length)), (36, .c (.int .i64 i))]) (O := (7121, .cells 160 [.c (.int .i64 z), .c (.int .i64 ((clAt k i).start.getD m default).is)]) :: [(2119, .cells 86 (clC (clAt k i))), (240, rdO2 k (begT k (i + 1))), (99, holdO k (begT k (i + 1))), (229, hapO k (begT k (i + 1))), (234, cntO k (begT k (i + 1))), (238, outO k (begT k (i + 1))), (471, intsO (knownTo k i))]) (nx := 8000) (md := fun _ => false) hN rfl rfl (by (repeat' (first | exact rfl | exact AvIs.refl _ | exact trivial | exact fun _ _ => rfl | exact fun _ _ => ⟨rfl, AvIs.refl _⟩ | refine ⟨?_, ?_⟩))) (by (repeat' (first | exact rfl | exact AvIs.refl _ | exact trivial | exact fun _ _ => rfl | exact fun _ _ => ⟨rfl, AvIs.refl _⟩ | refine ⟨?_, ?_⟩))) rfl (fun j hj => by (try dsimp only); (repeat (rw [upd_big hj rfl])); exact obF_ge hj))
          (Weak.famOpen 700 (.int .i64 z) hN rfl rfl rfl rfl rfl rfl rfl rfl encV_inj)) ?_
        refine XK.drawn hm ?_
        refine XD.goN 12 hT rfl rfl rfl rfl rfl rfl ?_ ?_
        · exact trivial
        refine XD.opE hT (y := .vec 700 0) rfl rfl rfl rfl trivial rfl (by simp [keyEq]) ?_
        refine XD.goA hT rfl rfl rfl rfl ?_; refine XD.fin (by kernel_rfl) ?_; (repeat (first | refine XK.norm rfl rfl ?_ | refine XK.rgnA hT rfl rfl rfl ?_ | refine XK.rgnB hT hm rfl rfl rfl ?_))
        refine XK.inv ⟨m + 1, hml, ?_, by omega⟩
        rw [hwm1]
        exact Weak.famClose 700 (.int .i64 z) (famW (addW wm z i).1) hN rfl rfl (by (repeat' (first | exact rfl | exact AvIs.refl _ | exact trivial | exact fun _ _ => rfl | exact fun _ _ => ⟨rfl, AvIs.refl _⟩ | refine ⟨?_, ?_⟩))) (by (repeat' (first | exact rfl | exact AvIs.refl _ | exact trivial | exact fun _ _ => rfl | exact fun _ _ => ⟨rfl, AvIs.refl _⟩ | refine ⟨?_, ?_⟩))) rfl rfl (fun j hj => by (try dsimp only); (repeat (rw [upd_big hj rfl])); exact obQ_ge hj) (fun v _ => by show (bif keyEq v (.int .i64 z) then AV.vec 700 1 else bif keyEq v (.int .i64 z) then AV.vec 700 0 else AV.vec (1000000 + encV v) 0) = _; cases keyEq v (.int .i64 z) <;> rfl) (fun _ _ => rfl)
          (by show (famW _ (encZ z)).1 = (famW _ (encZ z)).1 + 1; rw [famW_at, famW_at]; simp [addW])
          (by show ∀ j, j < (famW _ (encZ z)).1 + 1 → (famW _ (encZ z)).2 j = catF (famW _ (encZ z)).1 (famW _ (encZ z)).2 (rowOf [AV.c (.int .i64 i)] 1) j; rw [famW_at, famW_at]; have := ints_app (wm.1 z) i (rowOf [AV.c (.int .i64 i)] 1) rfl; simpa [addW] using this)
          (fun j hj => famW_add _ _ _ hj) rfl encV_inj
      · have hml : ¬ m < (clAt k i).start.length := by simpa using hml0
        have hme : m = (clAt k i).start.length := by omega
        subst hme
        (repeat (first | refine XK.norm rfl rfl ?_ | refine XK.rgnA hT rfl rfl rfl ?_ | refine XK.rgnB hT hm rfl rfl rfl ?_))
        refine XK.inv ⟨i + 1, hlt, ?_, by omega⟩
        rw [hw3, hw2]
        exact Weak.famOf hN rfl rfl (by (repeat' (first | exact rfl | exact AvIs.refl _ | exact trivial | exact fun _ _ => rfl | exact fun _ _ => ⟨rfl, AvIs.refl _⟩ | refine ⟨?_, ?_⟩))) (by (repeat' (first | exact rfl | exact AvIs.refl _ | exact trivial | exact fun _ _ => rfl | exact fun _ _ => ⟨rfl, AvIs.refl _⟩ | refine ⟨?_, ?_⟩))) rfl (fun j hj => by (try dsimp only); (repeat (rw [upd_big hj rfl])); exact obF_ge hj)
  · have hlt : ¬ i < k.clauses.length := by simpa using hlt0
    have hin : i = k.clauses.length := by omega
    subst hin
    have hwk := waitTo_ok hk k.clauses.length (Nat.le_refl _)
    have hkl : (knownTo k k.clauses.length).length ≤ k.clauses.length + 1 := by
      have := List.length_filter_le (fun j => (clAt k j).waived) (List.range k.clauses.length)
      simpa [knownTo] using this
    have hu := unst_le k (begin0 k).out
    (repeat (first | refine XK.norm rfl rfl ?_ | refine XK.rgnA hT rfl rfl rfl ?_ | refine XK.rgnB hT hm rfl rfl rfl ?_))
    refine XK.weak (Weak.trans (Weak.famOf (B := 1000000) (k := 230) (e := 3) (sz := 1) (kk := .int .i64) (d := (waitTo k k.clauses.length).2) (enc := encV) (F := famW (waitTo k k.clauses.length).1) (L := [(3, .ptr 240 0), (4, .vec 471 0)]) (O := [(240, rdO2 k (begin0 k)), (99, holdO k (begin0 k)), (229, hapO k (begin0 k)), (234, cntO k (begin0 k)), (238, outO k (begin0 k)), (471, intsO (knownTo k k.clauses.length))]) (nx := 4000) (md := fun _ => false) hN rfl rfl (by (repeat' (first | exact rfl | exact AvIs.refl _ | exact trivial | exact fun _ _ => rfl | exact fun _ _ => ⟨rfl, AvIs.refl _⟩ | refine ⟨?_, ?_⟩))) ⟨by (repeat' (first | exact rfl | exact AvIs.refl _ | exact trivial | exact fun _ _ => rfl | exact fun _ _ => ⟨rfl, AvIs.refl _⟩ | refine ⟨?_, ?_⟩)), by (repeat' (first | exact rfl | exact AvIs.refl _ | exact trivial | exact fun _ _ => rfl | exact fun _ _ => ⟨rfl, AvIs.refl _⟩ | refine ⟨?_, ?_⟩)), by (repeat' (first | exact rfl | exact AvIs.refl _ | exact trivial | exact fun _ _ => rfl | exact fun _ _ => ⟨rfl, AvIs.refl _⟩ | refine ⟨?_, ?_⟩)), by (repeat' (first | exact rfl | exact AvIs.refl _ | exact trivial | exact fun _ _ => rfl | exact fun _ _ => ⟨rfl, AvIs.refl _⟩ | refine ⟨?_, ?_⟩)), ⟨⟨rfl, rfl, rfl⟩, rfl, fun j hj => by simp [begT, hj, begin0]⟩, by (repeat' (first | exact rfl | exact AvIs.refl _ | exact trivial | exact fun _ _ => rfl | exact fun _ _ => ⟨rfl, AvIs.refl _⟩ | refine ⟨?_, ?_⟩))⟩ rfl (fun j hj => by (try dsimp only); (repeat (rw [upd_big hj rfl])); exact obF_ge hj))
      (Weak.trans (Weak.famOut hN rfl rfl) (Weak.of (L := [(3, .ptr 240 0), (4, .vec 471 0)]) (O := (230, waitO (begin0 k)) :: [(240, rdO2 k (begin0 k)), (99, holdO k (begin0 k)), (229, hapO k (begin0 k)), (234, cntO k (begin0 k)), (238, outO k (begin0 k)), (471, intsO (knownTo k k.clauses.length))]) (nx := 4000) (nt := 113) (md := fun _ => false) hN rfl rfl rfl (by (repeat' (first | exact rfl | exact AvIs.refl _ | exact trivial | exact fun _ _ => rfl | exact fun _ _ => ⟨rfl, AvIs.refl _⟩ | refine ⟨?_, ?_⟩))) ⟨⟨rfl, rfl, fun u hu => ⟨rfl, waitF_fam _ u hu⟩⟩, by (repeat' (first | exact rfl | exact AvIs.refl _ | exact trivial | exact fun _ _ => rfl | exact fun _ _ => ⟨rfl, AvIs.refl _⟩ | refine ⟨?_, ?_⟩))⟩))) ?_
    (repeat (first | refine XK.norm rfl rfl ?_ | refine XK.rgnA hT rfl rfl rfl ?_ | refine XK.rgnB hT hm rfl rfl rfl ?_)); refine XK.region ?_; refine XL.goA hT rfl rfl rfl rfl ?_
    refine XL.callMA [240, 99, 229, 230, 234, 238, 471] hE rfl rfl rfl rfl trivial (start_ok k hk (begin0 k) (knownTo k k.clauses.length) (fun z => ⟨by have := (hwk z).1; show _ ≤ 4000; simp only [begin0]; omega, (hwk z).2⟩) (by omega) ⟨by simp [begin0], by simp [begin0]⟩) rfl rfl rfl rfl rfl ?_
    refine XL.goA hT rfl rfl rfl rfl ?_; refine XL.fin ?_; (repeat (first | refine XK.norm rfl rfl ?_ | refine XK.rgnA hT rfl rfl rfl ?_ | refine XK.rgnB hT hm rfl rfl rfl ?_))
    (repeat (first | refine XK.norm rfl rfl ?_ | refine XK.rgnA hT rfl rfl rfl ?_ | refine XK.rgnB hT hm rfl rfl rfl ?_))
    (first | refine XK.outR [240, 99, 229, 230, 234, 238] hN rfl rfl rfl ?_ rfl rfl ?_ | refine XK.outRN [240, 99, 229, 230, 234, 238] hN rfl rfl rfl ?_ rfl rfl ?_)
    · (repeat' (first | exact rfl | exact AvIs.refl _ | exact trivial | exact fun _ _ => rfl | exact fun _ _ => ⟨rfl, AvIs.refl _⟩ | refine ⟨?_, ?_⟩))
    · (repeat' (first | exact rfl | exact AvIs.refl _ | exact trivial | exact fun _ _ => rfl | exact fun _ _ => ⟨rfl, AvIs.refl _⟩ | refine ⟨?_, ?_⟩))
end Go.Proofs.Ytiiegpjpckkohaa
end
