import Derived.Test.YtbheoblmfjjaaaaS8
section
/- Contracts: package project: Joint and View. -/
namespace Go.Proofs.Ytbheoblmfjjaaaa
open Go.Eng
set_option maxRecDepth 10000
set_option linter.unusedSimpArgs false
set_option linter.unusedVariables false
def badPs (k : K) (ps : List Int) : Bool := (ps.length : Int) == 0 || decide ((12 : Int) < ps.length) || ps.any (strB k)
noncomputable def jointR (k : K) (l ps : List Int) : List Int × Int :=
  if (startS k).2 ≠ 0 then ([], 1) else if badPs k ps = true then ([], 1) else if 4000 < l.length then ([], 3) else seenR k ps l
def lr (r : List Int × Int) : AV := .tup [intsV r.1, .c (.int .i64 r.2)]
theorem joint_ok (k : K) (hk : kW k) (l ps : List Int) : Does Try.prog 38 [kV k, intsV l, intsV ps] (lr (jointR k l ps)) := by
  refine Does.mk (fun _ => false) TT_ok Try.func38 rfl (by kernel_rfl) Try.ntmps38 rfl rfl fun E hT hE hN hR => ?_
  have hm : E.P.follows .mixedOrders = true := by rw [hE]; kernel_rfl
  refine XK.fact (Sat.rs_len (j := 1) rfl) fun hlen => ?_
  have hm1 : l.length ≤ 9223372036854775807 := hlen.1
  refine XK.fact (Sat.rs_len (j := 2) rfl) fun hlen2 => ?_
  have hm2 : ps.length ≤ 9223372036854775807 := hlen2.1
  (repeat (first | refine XK.norm rfl rfl ?_ | refine XK.rgnA hT rfl rfl rfl ?_ | refine XK.rgnB hT hm rfl rfl rfl ?_)); refine XK.region ?_; refine XL.goA hT rfl rfl rfl rfl ?_
  refine XL.callKA hE rfl rfl rfl rfl trivial rfl rfl (startS_ok k hk) ?_
  refine XL.goA hT rfl rfl rfl rfl ?_; refine XL.fin ?_; (repeat (first | refine XK.norm rfl rfl ?_ | refine XK.rgnA hT rfl rfl rfl ?_ | refine XK.rgnB hT hm rfl rfl rfl ?_))
  unfold jointR
  (repeat (first | refine XK.norm rfl rfl ?_ | refine XK.rgnA hT rfl rfl rfl ?_ | refine XK.rgnB hT hm rfl rfl rfl ?_)); refine XK.cond rfl (fun h1 => ?_) (fun h1 => ?_) <;> (try simp at h1)
  · rw [if_pos h1]
    (repeat (first | refine XK.norm rfl rfl ?_ | refine XK.rgnA hT rfl rfl rfl ?_ | refine XK.rgnB hT hm rfl rfl rfl ?_))
    (first | refine XK.outL rfl rfl rfl ?_ | refine XK.outLN rfl rfl rfl ?_)
    exact ⟨⟨rfl, rfl⟩, rfl⟩
  · rw [if_neg (by simpa using h1)]
    refine XK.weak (Weak.trans (Weak.frozenC (k := 3) hN rfl rfl rfl) (Weak.trans (Weak.frozenC (k := 5) hN rfl rfl rfl) (Weak.of (L := [(1, intsV l), (3, .rptr (kC k)), (5, .rptr [intsV ps])]) (O := []) (nx := 1000) (nt := 41) (md := fun _ => false) hN rfl rfl rfl (by (repeat' (first | exact rfl | exact AvIs.refl _ | exact trivial | exact fun _ _ => rfl | exact fun _ _ => ⟨rfl, AvIs.refl _⟩ | refine ⟨?_, ?_⟩))) (by (repeat' (first | exact rfl | exact AvIs.refl _ | exact trivial | exact fun _ _ => rfl | exact fun _ _ => ⟨rfl, AvIs.refl _⟩ | refine ⟨?_, ?_⟩)))))) ?_
    have hcf := containsJ_ok k ps (strB k) (fun i hi => str_ok k _)
    iterate 2 (first | refine XK.norm rfl rfl ?_ | refine XK.rgnA hT rfl rfl rfl ?_ | refine XK.rgnB hT hm rfl rfl rfl ?_)
    (repeat (first | refine XK.norm rfl rfl ?_ | refine XK.rgnA hT rfl rfl rfl ?_ | refine XK.rgnB hT hm rfl rfl rfl ?_)); refine XK.region ?_; refine XL.goA hT rfl rfl rfl rfl ?_
    refine XL.callGA hE rfl rfl rfl rfl rfl rfl rfl rfl (hcf) rfl ?_
    refine XL.goA hT rfl rfl rfl rfl ?_; refine XL.fin ?_; (repeat (first | refine XK.norm rfl rfl ?_ | refine XK.rgnA hT rfl rfl rfl ?_ | refine XK.rgnB hT hm rfl rfl rfl ?_))
    (repeat (first | refine XK.norm rfl rfl ?_ | refine XK.rgnA hT rfl rfl rfl ?_ | refine XK.rgnB hT hm rfl rfl rfl ?_)); refine XK.cond rfl (fun h2 => ?_) (fun h2 => ?_)
    · rw [if_pos (show badPs k ps = true from h2)]
      (repeat (first | refine XK.norm rfl rfl ?_ | refine XK.rgnA hT rfl rfl rfl ?_ | refine XK.rgnB hT hm rfl rfl rfl ?_))
      (first | refine XK.outL rfl rfl rfl ?_ | refine XK.outLN rfl rfl rfl ?_)
      exact ⟨⟨rfl, rfl⟩, rfl⟩
    · have h2 : badPs k ps = false := h2
      rw [if_neg (by rw [h2]; simp)]
      (repeat (first | refine XK.norm rfl rfl ?_ | refine XK.rgnA hT rfl rfl rfl ?_ | refine XK.rgnB hT hm rfl rfl rfl ?_)); refine XK.cond rfl (fun h3 => ?_) (fun h3 => ?_) <;> (try simp at h3)
      · rw [if_pos (by omega)]
        (repeat (first | refine XK.norm rfl rfl ?_ | refine XK.rgnA hT rfl rfl rfl ?_ | refine XK.rgnB hT hm rfl rfl rfl ?_))
        (first | refine XK.outL rfl rfl rfl ?_ | refine XK.outLN rfl rfl rfl ?_)
        exact ⟨⟨rfl, rfl⟩, rfl⟩
      · rw [if_neg (by omega)]
        (repeat (first | refine XK.norm rfl rfl ?_ | refine XK.rgnA hT rfl rfl rfl ?_ | refine XK.rgnB hT hm rfl rfl rfl ?_))
        (repeat (first | refine XK.norm rfl rfl ?_ | refine XK.rgnA hT rfl rfl rfl ?_ | refine XK.rgnB hT hm rfl rfl rfl ?_)); refine XK.region ?_; refine XL.goA hT rfl rfl rfl rfl ?_
        refine XL.callKA hE rfl rfl rfl rfl trivial rfl rfl (seenGo_ok k hk h1 ps l (by omega)) ?_
        refine XL.goA hT rfl rfl rfl rfl ?_; refine XL.fin ?_; (repeat (first | refine XK.norm rfl rfl ?_ | refine XK.rgnA hT rfl rfl rfl ?_ | refine XK.rgnB hT hm rfl rfl rfl ?_))
        (first | refine XK.out rfl rfl rfl ?_ | refine XK.outN rfl rfl rfl ?_)
        rfl
theorem view_ok (k : K) (hk : kW k) (l : List Int) (p : Int) : Does Try.prog 40 [kV k, intsV l, .c (.int .i64 p)] (lr (jointR k l [p])) := by
  refine Does.mk (fun _ => false) TT_ok Try.func40 rfl (by kernel_rfl) Try.ntmps40 rfl rfl fun E hT hE hN hR => ?_
  have hm : E.P.follows .mixedOrders = true := by rw [hE]; kernel_rfl
  (repeat (first | refine XK.norm rfl rfl ?_ | refine XK.rgnA hT rfl rfl rfl ?_ | refine XK.rgnB hT hm rfl rfl rfl ?_)); refine XK.region ?_; refine XL.goA hT rfl rfl rfl rfl ?_
  refine XL.callK hE rfl rfl rfl rfl trivial rfl rfl (joint_ok k hk l [p]) ?_ ?_
  · exact ⟨AvIs.refl _, AvIs.refl _, rfl, rfl, fun i hi => by
      match i, hi with
      | 0, _ => rfl⟩
  refine XL.goA hT rfl rfl rfl rfl ?_; refine XL.fin ?_; (repeat (first | refine XK.norm rfl rfl ?_ | refine XK.rgnA hT rfl rfl rfl ?_ | refine XK.rgnB hT hm rfl rfl rfl ?_))
  (first | refine XK.out rfl rfl rfl ?_ | refine XK.outN rfl rfl rfl ?_)
  rfl
end Go.Proofs.Ytbheoblmfjjaaaa
end
section
/- Contracts: the helpers and the head of the statements about layer 36. -/
namespace Go.Proofs.Ytbheoblmfjjaaaa
open Go.Eng
set_option maxRecDepth 10000
set_option linter.unusedSimpArgs false
set_option linter.unusedVariables false
theorem ints36_ok (l r : List Int) : Does Try.prog 39 [intsV l, intsV r] (.c (.bool (eqIS l r))) := by
  refine Does.mk (fun _ => false) TT_ok Try.func39 rfl (by kernel_rfl) Try.ntmps39 rfl rfl fun E hT hE hN hR => ?_
  have hm : E.P.follows .mixedOrders = true := by rw [hE]; kernel_rfl
  unfold eqIS
  refine XK.fact (Sat.rs_len (j := 0) rfl) fun hlen => ?_
  have hm' : l.length ≤ 9223372036854775807 := hlen.1
  (repeat (first | refine XK.norm rfl rfl ?_ | refine XK.rgnA hT rfl rfl rfl ?_ | refine XK.rgnB hT hm rfl rfl rfl ?_)); refine XK.cond rfl (fun h1 => ?_) (fun h1 => ?_) <;> (try simp at h1)
  · rw [show (l.length == r.length) = false from beq_false_of_ne (by omega)]
    (repeat (first | refine XK.norm rfl rfl ?_ | refine XK.rgnA hT rfl rfl rfl ?_ | refine XK.rgnB hT hm rfl rfl rfl ?_))
    (first | refine XK.out rfl rfl rfl ?_ | refine XK.outN rfl rfl rfl ?_)
    rfl
  · have h1 : l.length = r.length := by omega
    rw [show (l.length == r.length) = true from beq_iff_eq.2 h1]
    (repeat (first | refine XK.norm rfl rfl ?_ | refine XK.rgnA hT rfl rfl rfl ?_ | refine XK.rgnB hT hm rfl rfl rfl ?_))
    refine XK.loop (ι := Nat) (fun i => ST.of [(0, intsV l), (1, intsV r), (5, .c (.int .i64 i))] [] 1000 26 (fun _ => false))
      (fun i => i ≤ l.length ∧ ∀ q, q < i → (fun i => l.getD i default == r.getD i default) q = true) (fun i => l.length - i) 0 ⟨Nat.zero_le _, fun q hq => absurd hq (Nat.not_lt_zero _)⟩
      (Weak.of hN rfl rfl rfl (by (repeat' (first | exact rfl | exact AvIs.refl _ | exact trivial | exact fun _ _ => rfl | exact fun _ _ => ⟨rfl, AvIs.refl _⟩ | refine ⟨?_, ?_⟩))) (by (repeat' (first | exact rfl | exact AvIs.refl _ | exact trivial | exact fun _ _ => rfl | exact fun _ _ => ⟨rfl, AvIs.refl _⟩ | refine ⟨?_, ?_⟩)))) fun i hi => ?_
    obtain ⟨hi1, hi2⟩ := hi
    (repeat (first | refine XK.norm rfl rfl ?_ | refine XK.rgnA hT rfl rfl rfl ?_ | refine XK.rgnB hT hm rfl rfl rfl ?_)); refine XK.cond rfl (fun hlt => ?_) (fun hlt => ?_) <;> (try simp at hlt)
    · have f1 : l.getD (i : Int).toNat default = l.getD i default := rfl
      have f2 : r.getD (i : Int).toNat default = r.getD i default := rfl
      (repeat (first | refine XK.norm rfl rfl ?_ | refine XK.rgnA hT rfl rfl rfl ?_ | refine XK.rgnB hT hm rfl rfl rfl ?_))
      try rw [f1, f2]
      (repeat (first | refine XK.norm rfl rfl ?_ | refine XK.rgnA hT rfl rfl rfl ?_ | refine XK.rgnB hT hm rfl rfl rfl ?_)); refine XK.cond rfl (fun hb => ?_) (fun hb => ?_)
      · rw [rall_not hlt (by simpa using hb)]
        (repeat (first | refine XK.norm rfl rfl ?_ | refine XK.rgnA hT rfl rfl rfl ?_ | refine XK.rgnB hT hm rfl rfl rfl ?_))
        (first | refine XK.out rfl rfl rfl ?_ | refine XK.outN rfl rfl rfl ?_)
        rfl
      · (repeat (first | refine XK.norm rfl rfl ?_ | refine XK.rgnA hT rfl rfl rfl ?_ | refine XK.rgnB hT hm rfl rfl rfl ?_))
        refine XK.inv ⟨i + 1, ⟨hlt, fun q hq => ?_⟩, (Weak.of hN rfl rfl rfl (by (repeat' (first | exact rfl | exact AvIs.refl _ | exact trivial | exact fun _ _ => rfl | exact fun _ _ => ⟨rfl, AvIs.refl _⟩ | refine ⟨?_, ?_⟩))) (by (repeat' (first | exact rfl | exact AvIs.refl _ | exact trivial | exact fun _ _ => rfl | exact fun _ _ => ⟨rfl, AvIs.refl _⟩ | refine ⟨?_, ?_⟩)))), by omega⟩
        by_cases hqi : q = i
        · subst hqi; simpa using hb
        · exact hi2 q (by omega)
    · rw [rall.2 fun q hq => hi2 q (by omega)]
      (repeat (first | refine XK.norm rfl rfl ?_ | refine XK.rgnA hT rfl rfl rfl ?_ | refine XK.rgnB hT hm rfl rfl rfl ?_))
      (first | refine XK.out rfl rfl rfl ?_ | refine XK.outN rfl rfl rfl ?_)
      rfl
def exJ36 : K := { parties := 3, holders := [0, 1, 2], units := [], acts := [⟨1, 0, 0, 1, -1, (0, 1)⟩, ⟨1, 1, 0, -1, -1, (0, 1)⟩], clauses := [], days := 5, off := [] }
theorem exJ36_W : kW exJ36 := by
  simp [kW, exJ36, inK, actW, qW]
theorem sample36_ok : Does Try.prog 66 [] (kV exJ36) := by
  refine Does.weaken (res := ?x) ?_ ?_
  rotate_left
  refine Does.mk (fun _ => false) TT_ok Try.func66 rfl (by kernel_rfl) Try.ntmps66 rfl rfl fun E hT hE hN hR => ?_
  have hm : E.P.follows .mixedOrders = true := by rw [hE]; kernel_rfl
  (repeat (first | refine XK.norm rfl rfl ?_ | refine XK.rgnA hT rfl rfl rfl ?_ | refine XK.rgnB hT hm rfl rfl rfl ?_))
  (first | refine XK.out rfl rfl rfl ?_ | refine XK.outN rfl rfl rfl ?_)
  rfl
  · refine AvS.agg ⟨AvS.refl _, AvS.rs (fun i hi => ?_), AvS.nil, AvS.rs (fun i hi => ?_), AvS.nil, AvS.refl _, AvS.nil, trivial⟩
    · rcases i with _ | _ | _ | i <;> first | exact AvSL.refl _ | omega
    · rcases i with _ | _ | i <;> first | exact AvSL.refl _ | omega
theorem view_at {l : List Int} {p : Int} {r : List Int × Int} (h : jointR exJ36 l [p] = r) : Does Try.prog 40 [kV exJ36, intsV l, .c (.int .i64 p)] (lr r) := h ▸ view_ok exJ36 exJ36_W l p
theorem joint_at {l ps : List Int} {r : List Int × Int} (h : jointR exJ36 l ps = r) : Does Try.prog 38 [kV exJ36, intsV l, intsV ps] (lr r) := h ▸ joint_ok exJ36 exJ36_W l ps
theorem ints_at {l r : List Int} {b : Bool} (h : eqIS l r = b) : Does Try.prog 39 [intsV l, intsV r] (.c (.bool b)) := h ▸ ints36_ok l r
theorem head36_ok : Does Try.prog 37 [] (.c (.bool true)) := by
  refine Does.mk (fun _ => false) TT_ok Try.func37 rfl (by kernel_rfl) Try.ntmps37 rfl rfl fun E hT hE hN hR => ?_
  have hm : E.P.follows .mixedOrders = true := by rw [hE]; kernel_rfl
  (repeat (first | refine XK.norm rfl rfl ?_ | refine XK.rgnA hT rfl rfl rfl ?_ | refine XK.rgnB hT hm rfl rfl rfl ?_)); refine XK.region ?_; refine XL.goA hT rfl rfl rfl rfl ?_
  refine XL.callKA hE rfl rfl rfl rfl trivial rfl rfl (sample36_ok) ?_
  refine XL.goA hT rfl rfl rfl rfl ?_
  refine XL.callKA hE rfl rfl rfl rfl trivial rfl rfl (view_at (l := [0, -1, 1]) (p := 0) (r := ([0, -1, 1], 0)) (by kernel_rfl)) ?_
  refine XL.goA hT rfl rfl rfl rfl ?_; refine XL.fin ?_; (repeat (first | refine XK.norm rfl rfl ?_ | refine XK.rgnA hT rfl rfl rfl ?_ | refine XK.rgnB hT hm rfl rfl rfl ?_))
  (repeat (first | refine XK.norm rfl rfl ?_ | refine XK.rgnA hT rfl rfl rfl ?_ | refine XK.rgnB hT hm rfl rfl rfl ?_)); refine XK.region ?_; refine XL.goA hT rfl rfl rfl rfl ?_
  refine XL.callKA hE rfl rfl rfl rfl trivial rfl rfl (sample36_ok) ?_
  refine XL.goA hT rfl rfl rfl rfl ?_
  refine XL.callKA hE rfl rfl rfl rfl trivial rfl rfl (view_at (l := [0, -1, 1]) (p := 2) (r := ([-1, 1], 0)) (by kernel_rfl)) ?_
  refine XL.goA hT rfl rfl rfl rfl ?_; refine XL.fin ?_; (repeat (first | refine XK.norm rfl rfl ?_ | refine XK.rgnA hT rfl rfl rfl ?_ | refine XK.rgnB hT hm rfl rfl rfl ?_))
  (repeat (first | refine XK.norm rfl rfl ?_ | refine XK.rgnA hT rfl rfl rfl ?_ | refine XK.rgnB hT hm rfl rfl rfl ?_)); refine XK.region ?_; refine XL.goA hT rfl rfl rfl rfl ?_
  refine XL.callKA hE rfl rfl rfl rfl trivial rfl rfl (sample36_ok) ?_
  refine XL.goA hT rfl rfl rfl rfl ?_
  refine XL.callKA hE rfl rfl rfl rfl trivial rfl rfl (joint_at (l := [0, -1, 1]) (ps := [2, 1]) (r := ([0, -1, 1], 0)) (by kernel_rfl)) ?_
  refine XL.goA hT rfl rfl rfl rfl ?_; refine XL.fin ?_; (repeat (first | refine XK.norm rfl rfl ?_ | refine XK.rgnA hT rfl rfl rfl ?_ | refine XK.rgnB hT hm rfl rfl rfl ?_))
  (repeat (first | refine XK.norm rfl rfl ?_ | refine XK.rgnA hT rfl rfl rfl ?_ | refine XK.rgnB hT hm rfl rfl rfl ?_)); refine XK.region ?_; refine XL.goA hT rfl rfl rfl rfl ?_
  refine XL.callKA hE rfl rfl rfl rfl trivial rfl rfl (sample36_ok) ?_
  refine XL.goA hT rfl rfl rfl rfl ?_
  refine XL.callKA hE rfl rfl rfl rfl trivial rfl rfl (view_at (l := [0, -1, 1]) (p := 3) (r := ([], 1)) (by kernel_rfl)) ?_
  refine XL.goA hT rfl rfl rfl rfl ?_; refine XL.fin ?_; (repeat (first | refine XK.norm rfl rfl ?_ | refine XK.rgnA hT rfl rfl rfl ?_ | refine XK.rgnB hT hm rfl rfl rfl ?_))
  (repeat (first | refine XK.norm rfl rfl ?_ | refine XK.rgnA hT rfl rfl rfl ?_ | refine XK.rgnB hT hm rfl rfl rfl ?_)); refine XK.region ?_; refine XL.goA hT rfl rfl rfl rfl ?_
  refine XL.callGA hE rfl rfl rfl rfl rfl rfl rfl rfl (ints_at (l := [0, -1, 1]) (r := [0, -1, 1]) (b := true) (by kernel_rfl)) rfl ?_
  refine XL.goA hT rfl rfl rfl rfl ?_
  refine XL.callGA hE rfl rfl rfl rfl rfl rfl rfl rfl (ints_at (l := [-1, 1]) (r := [-1, 1]) (b := true) (by kernel_rfl)) rfl ?_
  refine XL.goA hT rfl rfl rfl rfl ?_
  refine XL.callGA hE rfl rfl rfl rfl rfl rfl rfl rfl (ints_at (l := [0, -1, 1]) (r := [0, -1, 1]) (b := true) (by kernel_rfl)) rfl ?_
  refine XL.goA hT rfl rfl rfl rfl ?_; refine XL.fin ?_; (repeat (first | refine XK.norm rfl rfl ?_ | refine XK.rgnA hT rfl rfl rfl ?_ | refine XK.rgnB hT hm rfl rfl rfl ?_))
  (first | refine XK.out rfl rfl rfl ?_ | refine XK.outN rfl rfl rfl ?_)
  rfl
end Go.Proofs.Ytbheoblmfjjaaaa
end
