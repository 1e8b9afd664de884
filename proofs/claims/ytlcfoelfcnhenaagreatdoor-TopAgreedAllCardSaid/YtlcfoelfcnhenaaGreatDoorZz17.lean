import Derived.Test.YtlcfoelfcnhenaaGreatDoorZz14
import Derived.Test.YtlcfoelfcnhenaaGreatDoorZz16
import Derived.Test.YtlcfoelfcnhenaaGreatDoorZz12
set_option linter.unusedSimpArgs false
set_option linter.unusedVariables false
set_option maxRecDepth 10000
namespace Go.Proofs.YtlcfoelfcnhenaaGreatDoor
section
open Go.Eng
def badCl (k : K) : Option Nat := (List.range k.clauses.length).find? (fun i => !clauseB k i (k.clauses.getD i default))
noncomputable def kValid (k : K) : Int × Int :=
  if (decide (12 < k.parties) || decide (2000 < k.days) || decide ((12 : Int) < k.holders.length) || decide ((20 : Int) < k.units.length) || decide ((60 : Int) < k.acts.length) || decide ((400 : Int) < k.clauses.length)) = true then (3, -1)
  else if framedB k = false then (1, -1)
  else match badCl k with
    | some i => (1, (i : Int))
    | none => (0, -1)
theorem find_range {p : Nat → Bool} {n i : Nat} (hi : i < n) (h : p i = true) (hl : ∀ j, j < i → p j = false) : (List.range n).find? p = some i := by
  rw [List.find?_range_eq_some]
  exact ⟨h, by simpa using hi, fun j hj => by simpa using hl j hj⟩
theorem kValid_ok (k : K) (hk : kW k) : Does Tryz.prog 34 [kV k] (.tup [.c (.int .i64 (kValid k).1), .c (.int .i64 (kValid k).2)]) := by
  refine Does.mk (fun _ => false) TT_ok Tryz.func34 rfl (by kernel_rfl) Tryz.ntmps34 rfl rfl fun E hT hE hN hR => ?_
  have hm := mixO hE
  (repeat (first | refine XK.n ?_ | refine XK.a ?_ | refine XK.b ?_)); refine XK.cond rfl (fun h1 => ?_) (fun h1 => ?_)
  · (repeat (first | refine XK.n ?_ | refine XK.a ?_ | refine XK.b ?_))
    (first | refine XK.o ?_ | refine XK.p ?_)
    simp only [kValid, if_pos h1]
  · rw [kValid, if_neg (by rw [h1]; simp)]
    (repeat (first | refine XK.n ?_ | refine XK.a ?_ | refine XK.b ?_)); refine XK.region ?_; refine XL.g ?_
    refine XL.callLA hE rfl rfl rfl rfl trivial rfl (framed_ok k hk) rfl ?_
    refine XL.g ?_; refine XL.fin ?_; (repeat (first | refine XK.n ?_ | refine XK.a ?_ | refine XK.b ?_))
    (repeat (first | refine XK.n ?_ | refine XK.a ?_ | refine XK.b ?_)); refine XK.cond rfl (fun h2 => ?_) (fun h2 => ?_) <;> (try simp at h2)
    · (repeat (first | refine XK.n ?_ | refine XK.a ?_ | refine XK.b ?_))
      (first | refine XK.o ?_ | refine XK.p ?_)
      simp only [if_pos h2]
    · rw [if_neg (by rw [h2]; simp)]
      (repeat (first | refine XK.n ?_ | refine XK.a ?_ | refine XK.b ?_))
      refine XK.loop (ι := Nat) (fun j => ST.of [(1, .ptr 1 0), (42, .c (.int .i64 k.clauses.length)), (43, .c (.int .i64 j))] [(1, .cells 27 (kC k))] 3000 52 (fun _ => false))
        (fun j => j ≤ k.clauses.length ∧ ∀ q, q < j → clauseB k q (k.clauses.getD q default) = true) (fun j => k.clauses.length - j) 0 ⟨Nat.zero_le _, fun j hj => absurd hj (Nat.not_lt_zero _)⟩
        (Weak.of hN rfl rfl rfl ⟨rfl, rfl, rfl⟩ ⟨rfl, rfl⟩) fun j hj => ?_
      obtain ⟨hj1, hj2⟩ := hj
      (repeat (first | refine XK.n ?_ | refine XK.a ?_ | refine XK.b ?_)); refine XK.cond rfl (fun hlt => ?_) (fun hlt => ?_) <;> (try simp at hlt)
      · (repeat (first | refine XK.n ?_ | refine XK.a ?_ | refine XK.b ?_)); refine XK.region ?_; refine XL.g ?_
        refine XL.callLA hE rfl rfl rfl rfl trivial rfl (validClause_ok k hk j hlt) rfl ?_
        refine XL.g ?_; refine XL.fin ?_; (repeat (first | refine XK.n ?_ | refine XK.a ?_ | refine XK.b ?_))
        (repeat (first | refine XK.n ?_ | refine XK.a ?_ | refine XK.b ?_)); refine XK.cond rfl (fun hb => ?_) (fun hb => ?_)
        · (repeat (first | refine XK.n ?_ | refine XK.a ?_ | refine XK.b ?_))
          (first | refine XK.o ?_ | refine XK.p ?_)
          have : badCl k = some j := find_range hlt hb fun q hq => by rw [hj2 q hq]; rfl
          rw [this]
        · (repeat (first | refine XK.n ?_ | refine XK.a ?_ | refine XK.b ?_))
          refine XK.inv ⟨j + 1, ⟨hlt, fun q hq => ?_⟩, Weak.of hN rfl rfl rfl ⟨rfl, rfl, rfl⟩ ⟨rfl, rfl⟩, by omega⟩
          by_cases h : q = j
          · subst h; simpa using hb
          · exact hj2 q (by omega)
      · (repeat (first | refine XK.n ?_ | refine XK.a ?_ | refine XK.b ?_))
        (first | refine XK.o ?_ | refine XK.p ?_)
        have : badCl k = none := by
          unfold badCl
          rw [List.find?_eq_none]
          intro q hq
          rw [List.mem_range] at hq
          simp only [Bool.not_eq_true', Bool.not_eq_false]
          exact hj2 q (by omega)
        rw [this]
end
section
open Go.Eng
structure Pt where
  kind : Int
  clauses : List Int
  new : Cl
  days : Int
structure Am where
  number : Int
  day : Int
  known : Int
  patch : Pt
instance : Inhabited Pt := ⟨⟨0, [], default, 0⟩⟩
instance : Inhabited Am := ⟨⟨0, 0, 0, default⟩⟩
def ptC (p : Pt) : List AV := [.c (.int .i64 p.kind), intsV p.clauses, .c (.int .i64 p.new.kind), .c (.int .i64 p.new.role), .c (.int .i64 p.new.act), .c (.int .i64 p.new.need), cndsV p.new.start, .c (.int .i64 p.new.after), .c (.int .i64 p.new.grace), .c (.bool p.new.business), .c (.bool p.new.final), .c (.int .i64 p.new.pause), .c (.int .i64 p.new.resume), .c (.int .i64 p.new.value.1), .c (.int .i64 p.new.value.2), .c (.int .i64 p.new.unit), .c (.int .i64 p.new.to), .c (.bool p.new.waived), .c (.int .i64 p.days)]
def ptV (p : Pt) : AV := .agg [.c (.int .i64 p.kind), intsV p.clauses, .c (.int .i64 p.new.kind), .c (.int .i64 p.new.role), .c (.int .i64 p.new.act), .c (.int .i64 p.new.need), cndsV p.new.start, .c (.int .i64 p.new.after), .c (.int .i64 p.new.grace), .c (.bool p.new.business), .c (.bool p.new.final), .c (.int .i64 p.new.pause), .c (.int .i64 p.new.resume), .c (.int .i64 p.new.value.1), .c (.int .i64 p.new.value.2), .c (.int .i64 p.new.unit), .c (.int .i64 p.new.to), .c (.bool p.new.waived), .c (.int .i64 p.days)]
def amC (a : Am) : List AV := [.c (.int .i64 a.number), .c (.int .i64 a.day), .c (.int .i64 a.known), .c (.int .i64 a.patch.kind), intsV a.patch.clauses, .c (.int .i64 a.patch.new.kind), .c (.int .i64 a.patch.new.role), .c (.int .i64 a.patch.new.act), .c (.int .i64 a.patch.new.need), cndsV a.patch.new.start, .c (.int .i64 a.patch.new.after), .c (.int .i64 a.patch.new.grace), .c (.bool a.patch.new.business), .c (.bool a.patch.new.final), .c (.int .i64 a.patch.new.pause), .c (.int .i64 a.patch.new.resume), .c (.int .i64 a.patch.new.value.1), .c (.int .i64 a.patch.new.value.2), .c (.int .i64 a.patch.new.unit), .c (.int .i64 a.patch.new.to), .c (.bool a.patch.new.waived), .c (.int .i64 a.patch.days)]
def amV (a : Am) : AV := .agg [.c (.int .i64 a.number), .c (.int .i64 a.day), .c (.int .i64 a.known), .c (.int .i64 a.patch.kind), intsV a.patch.clauses, .c (.int .i64 a.patch.new.kind), .c (.int .i64 a.patch.new.role), .c (.int .i64 a.patch.new.act), .c (.int .i64 a.patch.new.need), cndsV a.patch.new.start, .c (.int .i64 a.patch.new.after), .c (.int .i64 a.patch.new.grace), .c (.bool a.patch.new.business), .c (.bool a.patch.new.final), .c (.int .i64 a.patch.new.pause), .c (.int .i64 a.patch.new.resume), .c (.int .i64 a.patch.new.value.1), .c (.int .i64 a.patch.new.value.2), .c (.int .i64 a.patch.new.unit), .c (.int .i64 a.patch.new.to), .c (.bool a.patch.new.waived), .c (.int .i64 a.patch.days)]
def clV (k : Cl) : AV := .agg [.c (.int .i64 k.kind), .c (.int .i64 k.role), .c (.int .i64 k.act), .c (.int .i64 k.need), cndsV k.start, .c (.int .i64 k.after), .c (.int .i64 k.grace), .c (.bool k.business), .c (.bool k.final), .c (.int .i64 k.pause), .c (.int .i64 k.resume), .c (.int .i64 k.value.1), .c (.int .i64 k.value.2), .c (.int .i64 k.unit), .c (.int .i64 k.to), .c (.bool k.waived)]
def amsV (l : List Am) : AV := rowL amC 22 l
def ptW (p : Pt) : Prop := inK .i64 p.kind ∧ (∀ z ∈ p.clauses, inK .i64 z) ∧ clW p.new ∧ inK .i64 p.days
def amW (a : Am) : Prop := inK .i64 a.number ∧ inK .i64 a.day ∧ inK .i64 a.known ∧ ptW a.patch
noncomputable def cPt : Codec Tryz.prog 58 Pt := (Codec.struct ty58_k rfl (.cons cInt (.cons cInts (.cons cCl (.cons cInt (.nil _ _))))) (by kernel_rfl)).map (fun x => ⟨x.1, x.2.1, x.2.2.1, x.2.2.2.1⟩) ptC ptW (fun _ => rfl) (fun _ => rfl) (fun _ h => ⟨h.1, h.2.1, h.2.2.1, h.2.2.2.1⟩)
def zeroK : K := ⟨0, [], [], [], [], 0, []⟩
def incB (n : Int) : Int → List Int → Bool
  | _, [] => true
  | last, i :: l => decide (last < i) && decide (i < n) && incB n i l
def zeroCl (k : Cl) : Bool := (k.start.length : Int) == 0 && k.kind == 0 && k.role == 0 && k.act == 0 && k.need == 0 && k.after == 0 && k.grace == 0 && !k.business && !k.final && k.pause == 0 && k.resume == 0 && (k.value.1 == 0 && k.value.2 == 0) && k.unit == 0 && k.to == 0 && !k.waived
structure Ef where
  least : Int
  most : Int
  renewed : Bool
  spanned : Bool
def efOf (kind : Int) : Option Ef :=
  if kind = 1 then some ⟨0, 0, true, false⟩ else if kind = 2 then some ⟨1, 1, true, false⟩ else if kind = 3 then some ⟨1, 1, false, false⟩
  else if kind = 4 then some ⟨1, 400, false, false⟩ else if kind = 5 then some ⟨1, 400, false, true⟩ else none
def fitsB (n : Int) (p : Pt) (e : Ef) : Bool :=
  decide (e.least ≤ (p.clauses.length : Int)) && decide ((p.clauses.length : Int) ≤ e.most) && incB n (-1) p.clauses && (e.renewed || zeroCl p.new) && (if e.spanned then decide (1 ≤ p.days) && decide (p.days ≤ 400) else p.days == 0)
def waiveL (cs : List Cl) (l : List Int) : List Cl := l.foldl (fun cs i => cs.set i.toNat { cs.getD i.toNat default with waived := true }) cs
def spanL (d : Int) (cs : List Cl) (l : List Int) : List Cl := l.foldl (fun cs i => cs.set i.toNat { cs.getD i.toNat default with after := d }) cs
def doP (cs : List Cl) (p : Pt) : List Cl :=
  if p.kind = 1 then cs ++ [p.new] else if p.kind = 2 then cs.set (p.clauses.getD 0 default).toNat p.new else if p.kind = 5 then spanL p.days cs p.clauses else waiveL cs p.clauses
noncomputable def applyR (k : K) (p : Pt) : K × Int :=
  if (kValid k).1 ≠ 0 then (zeroK, 1)
  else match efOf p.kind with
    | none => (zeroK, 1)
    | some e =>
      if fitsB k.clauses.length p e = false then (zeroK, 1)
      else if p.kind = 1 ∧ k.clauses.length = 400 then (zeroK, 3)
      else if (kValid { k with clauses := doP k.clauses p }).1 ≠ 0 then (zeroK, 1)
      else ({ k with clauses := doP k.clauses p }, 0)
end
section
open Go.Eng
theorem cln_ints (l : List Int) (hl : l.length ≤ 1000000) : Does Tryz.prog 35 [intsV l] (intsV l) := by
  refine Does.mk (fun d => Nat.beq d 5) TT_ok Tryz.func35 rfl (by kernel_rfl) Tryz.ntmps35 rfl rfl fun E hT hE hN hR => ?_
  have hm := mixO hE
  by_cases h0 : l.length = 0
  · obtain rfl : l = [] := List.length_eq_zero_iff.1 h0
    refine XK.rsNil 0 rfl fun A cap hc => ?_
    (repeat (first | refine XK.n ?_ | refine XK.a ?_ | refine XK.b ?_)); refine XK.cond rfl (fun h1 => ?_) (fun h1 => ?_)
    · (repeat (first | refine XK.n ?_ | refine XK.a ?_ | refine XK.b ?_))
      refine XK.weak (Weak.rsNil 2 1 (fun i => iC (([] : List Int).getD i default)) (Nat.zero_le _) rfl) ?_
      (repeat (first | refine XK.n ?_ | refine XK.a ?_ | refine XK.b ?_))
      (first | refine XK.o ?_ | refine XK.p ?_)
      rfl
    · refine XK.weak (Weak.rsNil 0 1 (fun i => iC (([] : List Int).getD i default)) hc rfl) ?_
      (repeat (first | refine XK.n ?_ | refine XK.a ?_ | refine XK.b ?_))
      refine XK.weak (Weak.frozen (k := 21) hN rfl rfl) ?_
      (repeat (first | refine XK.n ?_ | refine XK.a ?_ | refine XK.b ?_))
      (first | refine XK.outL rfl rfl rfl ?_ | refine XK.outLN rfl rfl rfl ?_)
      exact ⟨rfl, rfl, fun i hi => absurd hi (Nat.not_lt_zero _)⟩
  · (repeat (first | refine XK.n ?_ | refine XK.a ?_ | refine XK.b ?_)); refine XK.cond rfl (fun h1 => ?_) (fun h1 => ?_)
    · cases h1
    · (repeat (first | refine XK.n ?_ | refine XK.a ?_ | refine XK.b ?_))
      refine XK.weak (Weak.frozen (k := 21) hN rfl rfl) ?_
      (repeat (first | refine XK.n ?_ | refine XK.a ?_ | refine XK.b ?_))
      (first | refine XK.outL rfl rfl rfl ?_ | refine XK.outLN rfl rfl rfl ?_)
      exact ⟨rfl, Nat.zero_add _, fun i hi => by cases i <;> rfl⟩
theorem cln_units (l : List U) (hl : l.length ≤ 1000000) : Does Tryz.prog 56 [unitsV l] (unitsV l) := by
  refine Does.mk (fun d => Nat.beq d 5) TT_ok Tryz.func56 rfl (by kernel_rfl) Tryz.ntmps56 rfl rfl fun E hT hE hN hR => ?_
  have hm := mixO hE
  by_cases h0 : l.length = 0
  · obtain rfl : l = [] := List.length_eq_zero_iff.1 h0
    refine XK.rsNil 0 rfl fun A cap hc => ?_
    (repeat (first | refine XK.n ?_ | refine XK.a ?_ | refine XK.b ?_)); refine XK.cond rfl (fun h1 => ?_) (fun h1 => ?_)
    · (repeat (first | refine XK.n ?_ | refine XK.a ?_ | refine XK.b ?_))
      refine XK.weak (Weak.rsNil 2 5 (fun i => uc (([] : List U).getD i default)) (Nat.zero_le _) rfl) ?_
      (repeat (first | refine XK.n ?_ | refine XK.a ?_ | refine XK.b ?_))
      (first | refine XK.o ?_ | refine XK.p ?_)
      rfl
    · refine XK.weak (Weak.rsNil 0 5 (fun i => uc (([] : List U).getD i default)) hc rfl) ?_
      (repeat (first | refine XK.n ?_ | refine XK.a ?_ | refine XK.b ?_))
      refine XK.weak (Weak.frozen (k := 21) hN rfl rfl) ?_
      (repeat (first | refine XK.n ?_ | refine XK.a ?_ | refine XK.b ?_))
      (first | refine XK.outL rfl rfl rfl ?_ | refine XK.outLN rfl rfl rfl ?_)
      exact ⟨rfl, rfl, fun i hi => absurd hi (Nat.not_lt_zero _)⟩
  · (repeat (first | refine XK.n ?_ | refine XK.a ?_ | refine XK.b ?_)); refine XK.cond rfl (fun h1 => ?_) (fun h1 => ?_)
    · cases h1
    · (repeat (first | refine XK.n ?_ | refine XK.a ?_ | refine XK.b ?_))
      refine XK.weak (Weak.frozen (k := 21) hN rfl rfl) ?_
      (repeat (first | refine XK.n ?_ | refine XK.a ?_ | refine XK.b ?_))
      (first | refine XK.outL rfl rfl rfl ?_ | refine XK.outLN rfl rfl rfl ?_)
      exact ⟨rfl, Nat.zero_add _, fun i hi => by cases i <;> rfl⟩
theorem cln_acts (l : List Act) (hl : l.length ≤ 1000000) : Does Tryz.prog 57 [actsV l] (actsV l) := by
  refine Does.mk (fun d => Nat.beq d 5) TT_ok Tryz.func57 rfl (by kernel_rfl) Tryz.ntmps57 rfl rfl fun E hT hE hN hR => ?_
  have hm := mixO hE
  by_cases h0 : l.length = 0
  · obtain rfl : l = [] := List.length_eq_zero_iff.1 h0
    refine XK.rsNil 0 rfl fun A cap hc => ?_
    (repeat (first | refine XK.n ?_ | refine XK.a ?_ | refine XK.b ?_)); refine XK.cond rfl (fun h1 => ?_) (fun h1 => ?_)
    · (repeat (first | refine XK.n ?_ | refine XK.a ?_ | refine XK.b ?_))
      refine XK.weak (Weak.rsNil 2 7 (fun i => actC (([] : List Act).getD i default)) (Nat.zero_le _) rfl) ?_
      (repeat (first | refine XK.n ?_ | refine XK.a ?_ | refine XK.b ?_))
      (first | refine XK.o ?_ | refine XK.p ?_)
      rfl
    · refine XK.weak (Weak.rsNil 0 7 (fun i => actC (([] : List Act).getD i default)) hc rfl) ?_
      (repeat (first | refine XK.n ?_ | refine XK.a ?_ | refine XK.b ?_))
      refine XK.weak (Weak.frozen (k := 21) hN rfl rfl) ?_
      (repeat (first | refine XK.n ?_ | refine XK.a ?_ | refine XK.b ?_))
      (first | refine XK.outL rfl rfl rfl ?_ | refine XK.outLN rfl rfl rfl ?_)
      exact ⟨rfl, rfl, fun i hi => absurd hi (Nat.not_lt_zero _)⟩
  · (repeat (first | refine XK.n ?_ | refine XK.a ?_ | refine XK.b ?_)); refine XK.cond rfl (fun h1 => ?_) (fun h1 => ?_)
    · cases h1
    · (repeat (first | refine XK.n ?_ | refine XK.a ?_ | refine XK.b ?_))
      refine XK.weak (Weak.frozen (k := 21) hN rfl rfl) ?_
      (repeat (first | refine XK.n ?_ | refine XK.a ?_ | refine XK.b ?_))
      (first | refine XK.outL rfl rfl rfl ?_ | refine XK.outLN rfl rfl rfl ?_)
      exact ⟨rfl, Nat.zero_add _, fun i hi => by cases i <;> rfl⟩
theorem cln_cls (l : List Cl) (hl : l.length ≤ 1000000) : Does Tryz.prog 58 [clsV l] (clsV l) := by
  refine Does.mk (fun d => Nat.beq d 5) TT_ok Tryz.func58 rfl (by kernel_rfl) Tryz.ntmps58 rfl rfl fun E hT hE hN hR => ?_
  have hm := mixO hE
  by_cases h0 : l.length = 0
  · obtain rfl : l = [] := List.length_eq_zero_iff.1 h0
    refine XK.rsNil 0 rfl fun A cap hc => ?_
    (repeat (first | refine XK.n ?_ | refine XK.a ?_ | refine XK.b ?_)); refine XK.cond rfl (fun h1 => ?_) (fun h1 => ?_)
    · (repeat (first | refine XK.n ?_ | refine XK.a ?_ | refine XK.b ?_))
      refine XK.weak (Weak.rsNil 2 16 (fun i => clC (([] : List Cl).getD i default)) (Nat.zero_le _) rfl) ?_
      (repeat (first | refine XK.n ?_ | refine XK.a ?_ | refine XK.b ?_))
      (first | refine XK.o ?_ | refine XK.p ?_)
      rfl
    · refine XK.weak (Weak.rsNil 0 16 (fun i => clC (([] : List Cl).getD i default)) hc rfl) ?_
      (repeat (first | refine XK.n ?_ | refine XK.a ?_ | refine XK.b ?_))
      refine XK.weak (Weak.frozen (k := 21) hN rfl rfl) ?_
      (repeat (first | refine XK.n ?_ | refine XK.a ?_ | refine XK.b ?_))
      (first | refine XK.outL rfl rfl rfl ?_ | refine XK.outLN rfl rfl rfl ?_)
      exact ⟨rfl, rfl, fun i hi => absurd hi (Nat.not_lt_zero _)⟩
  · (repeat (first | refine XK.n ?_ | refine XK.a ?_ | refine XK.b ?_)); refine XK.cond rfl (fun h1 => ?_) (fun h1 => ?_)
    · cases h1
    · (repeat (first | refine XK.n ?_ | refine XK.a ?_ | refine XK.b ?_))
      refine XK.weak (Weak.frozen (k := 21) hN rfl rfl) ?_
      (repeat (first | refine XK.n ?_ | refine XK.a ?_ | refine XK.b ?_))
      (first | refine XK.outL rfl rfl rfl ?_ | refine XK.outLN rfl rfl rfl ?_)
      exact ⟨rfl, Nat.zero_add _, fun i hi => by cases i <;> rfl⟩
theorem cln_cnds (l : List Cnd) (hl : l.length ≤ 1000000) : Does Tryz.prog 53 [cndsV l] (cndsV l) := by
  refine Does.mk (fun d => Nat.beq d 5) TT_ok Tryz.func53 rfl (by kernel_rfl) Tryz.ntmps53 rfl rfl fun E hT hE hN hR => ?_
  have hm := mixO hE
  by_cases h0 : l.length = 0
  · obtain rfl : l = [] := List.length_eq_zero_iff.1 h0
    refine XK.rsNil 0 rfl fun A cap hc => ?_
    (repeat (first | refine XK.n ?_ | refine XK.a ?_ | refine XK.b ?_)); refine XK.cond rfl (fun h1 => ?_) (fun h1 => ?_)
    · (repeat (first | refine XK.n ?_ | refine XK.a ?_ | refine XK.b ?_))
      refine XK.weak (Weak.rsNil 2 2 (fun i => cndC (([] : List Cnd).getD i default)) (Nat.zero_le _) rfl) ?_
      (repeat (first | refine XK.n ?_ | refine XK.a ?_ | refine XK.b ?_))
      (first | refine XK.o ?_ | refine XK.p ?_)
      rfl
    · refine XK.weak (Weak.rsNil 0 2 (fun i => cndC (([] : List Cnd).getD i default)) hc rfl) ?_
      (repeat (first | refine XK.n ?_ | refine XK.a ?_ | refine XK.b ?_))
      refine XK.weak (Weak.frozen (k := 21) hN rfl rfl) ?_
      (repeat (first | refine XK.n ?_ | refine XK.a ?_ | refine XK.b ?_))
      (first | refine XK.outL rfl rfl rfl ?_ | refine XK.outLN rfl rfl rfl ?_)
      exact ⟨rfl, rfl, fun i hi => absurd hi (Nat.not_lt_zero _)⟩
  · (repeat (first | refine XK.n ?_ | refine XK.a ?_ | refine XK.b ?_)); refine XK.cond rfl (fun h1 => ?_) (fun h1 => ?_)
    · cases h1
    · (repeat (first | refine XK.n ?_ | refine XK.a ?_ | refine XK.b ?_))
      refine XK.weak (Weak.frozen (k := 21) hN rfl rfl) ?_
      (repeat (first | refine XK.n ?_ | refine XK.a ?_ | refine XK.b ?_))
      (first | refine XK.outL rfl rfl rfl ?_ | refine XK.outLN rfl rfl rfl ?_)
      exact ⟨rfl, Nat.zero_add _, fun i hi => by cases i <;> rfl⟩
theorem clnM_cls (l : List Cl) (h0 : 0 < l.length) (hl : l.length ≤ 1000000) : DoesM Tryz.prog 58 [clsV l] [] (.vec 0 0) [.vec 56 16 0 l.length (fun i => clC (l.getD i default))] := by
  refine DoesM.mk (fun d => Nat.beq d 5) 100 TT_ok Tryz.func58 rfl (by kernel_rfl) Tryz.ntmps58 rfl rfl rfl fun E hT hE hN hR => ?_
  have hm := mixO hE
  (repeat (first | refine XK.n ?_ | refine XK.a ?_ | refine XK.b ?_)); refine XK.cond rfl (fun h1 => ?_) (fun h1 => ?_)
  · cases h1
  · (repeat (first | refine XK.n ?_ | refine XK.a ?_ | refine XK.b ?_))
    refine XK.weak (Weak.trans (Weak.stamp (k := 121) (t := 0) hN rfl rfl) (Weak.of (L := [(2, .vec 121 0)]) (O := [(121, .vec 56 16 0 l.length (fun i => clC (l.getD i default)))]) (nx := 1000) (nt := 8) (md := fun _ => false) hN rfl rfl rfl frI ⟨⟨rfl, rfl, rfl⟩, Nat.zero_add _, fun j hj => by rcases j with _ | j <;> rfl⟩)) ?_
    (first | refine XK.outR [121] hN rfl rfl rfl ?_ rfl rfl ?_ | refine XK.outRN [121] hN rfl rfl rfl ?_ rfl rfl ?_)
    · exact frI
    · exact frI
end
section
open Go.Eng
theorem clCopied_ok (k : Cl) (hs : k.start.length ≤ 1000000) : Does Tryz.prog 62 [clV k] (clV k) := by
  refine Does.mk (fun _ => false) TT_ok Tryz.func62 rfl (by kernel_rfl) Tryz.ntmps62 rfl rfl fun E hT hE hN hR => ?_
  have hm := mixO hE
  (repeat (first | refine XK.n ?_ | refine XK.a ?_ | refine XK.b ?_)); refine XK.region ?_; refine XL.g ?_
  refine XL.callKA hE rfl rfl rfl rfl trivial rfl rfl (cln_cnds k.start hs) ?_
  refine XL.g ?_; refine XL.fin ?_; (repeat (first | refine XK.n ?_ | refine XK.a ?_ | refine XK.b ?_))
  (first | refine XK.o ?_ | refine XK.p ?_)
  rfl
theorem zeroCl_ok (k : Cl) : Does Tryz.prog 105 [clV k] (.c (.bool (zeroCl k))) := by
  refine Does.mk (fun _ => false) TT_ok Tryz.func105 rfl (by kernel_rfl) Tryz.ntmps105 rfl rfl fun E hT hE hN hR => ?_
  have hm := mixO hE
  (repeat (first | refine XK.n ?_ | refine XK.a ?_ | refine XK.b ?_))
  (first | refine XK.o ?_ | refine XK.p ?_)
  rfl
def efV (e : Ef) (f : Nat) : AV := .agg [.c (.int .i64 e.least), .c (.int .i64 e.most), .c (.bool e.renewed), .c (.bool e.spanned), .fn (.func f) [] []]
def lastAt (l : List Int) : Nat → Int
  | 0 => -1
  | i + 1 => l.getD i default
theorem incB_drop {n : Int} {l : List Int} {i : Nat} (hi : i < l.length) : incB n (lastAt l i) (l.drop i) = (decide (lastAt l i < l.getD i default) && decide (l.getD i default < n) && incB n (lastAt l (i + 1)) (l.drop (i + 1))) := by
  rw [List.drop_eq_getElem_cons hi]
  have e : l[i] = l.getD i default := by simp [List.getD, hi]
  rw [e]
  rfl
theorem fits_ok (k : K) (p : Pt) (hp : ptW p) (hl : p.clauses.length ≤ 1000000) (e : Ef) (f : Nat) : Does Tryz.prog 61 [kV k, ptV p, efV e f] (.c (.bool (fitsB k.clauses.length p e))) := by
  refine Does.mk (fun _ => false) TT_ok Tryz.func61 rfl (by kernel_rfl) Tryz.ntmps61 rfl rfl fun E hT hE hN hR => ?_
  have hm := mixO hE
  (repeat (first | refine XK.n ?_ | refine XK.a ?_ | refine XK.b ?_)); refine XK.cond rfl (fun h1 => ?_) (fun h1 => ?_)
  · (repeat (first | refine XK.n ?_ | refine XK.a ?_ | refine XK.b ?_))
    (first | refine XK.o ?_ | refine XK.p ?_)
    refine cB ?_
    simp only [Bool.or_eq_true, decide_eq_true_eq] at h1
    have : (decide (e.least ≤ (p.clauses.length : Int)) && decide ((p.clauses.length : Int) ≤ e.most)) = false := by
      rw [Bool.and_eq_false_iff, decide_eq_false_iff_not, decide_eq_false_iff_not]; omega
    simp only [fitsB, this, Bool.false_and]
  · have hb : (decide (e.least ≤ (p.clauses.length : Int)) && decide ((p.clauses.length : Int) ≤ e.most)) = true := by
      simp only [Bool.or_eq_false_iff, decide_eq_false_iff_not] at h1
      rw [Bool.and_eq_true, decide_eq_true_eq, decide_eq_true_eq]; omega
    (repeat (first | refine XK.n ?_ | refine XK.a ?_ | refine XK.b ?_))
    refine XK.loop (ι := Nat) (fun i => ST.of [(3, .rptr (kC k)), (4, .rptr (ptC p)), (5, .ptr 5 0), (7, .c (.int .i64 (lastAt p.clauses i))), (25, intsV p.clauses), (26, .c (.int .i64 p.clauses.length)), (27, .c (.int .i64 i))]
      [(5, .cells 142 [.c (.int .i64 e.least), .c (.int .i64 e.most), .c (.bool e.renewed), .c (.bool e.spanned), .fn (.func f) [] []])] 1000 65 (fun _ => false))
      (fun i => i ≤ p.clauses.length ∧ incB k.clauses.length (-1) p.clauses = incB k.clauses.length (lastAt p.clauses i) (p.clauses.drop i)) (fun i => p.clauses.length - i) 0 ⟨Nat.zero_le _, rfl⟩
      (Weak.trans (Weak.frozenC (k := 3) hN rfl rfl rfl) (Weak.trans (Weak.frozenC (k := 4) hN rfl rfl rfl) (Weak.of hN rfl rfl rfl frI frI))) fun i hi => ?_
    obtain ⟨hi, hc⟩ := hi
    (repeat (first | refine XK.n ?_ | refine XK.a ?_ | refine XK.b ?_)); refine XK.cond rfl (fun hlt => ?_) (fun hlt => ?_) <;> (try simp at hlt)
    · have hd := incB_drop (n := k.clauses.length) hlt
      have fx : p.clauses.getD (i : Int).toNat default = p.clauses.getD i default := rfl
      have hls : lastAt p.clauses (i + 1) = p.clauses.getD i default := rfl
      rw [hls] at hd
      (repeat (first | refine XK.n ?_ | refine XK.a ?_ | refine XK.b ?_))
      rw [fx]
      generalize p.clauses.getD i default = x at *
      (repeat (first | refine XK.n ?_ | refine XK.a ?_ | refine XK.b ?_)); refine XK.cond rfl (fun h2 => ?_) (fun h2 => ?_)
      · (repeat (first | refine XK.n ?_ | refine XK.a ?_ | refine XK.b ?_))
        (first | refine XK.o ?_ | refine XK.p ?_)
        refine cB ?_
        have : (decide (lastAt p.clauses i < x) && decide (x < (k.clauses.length : Int))) = false := by
          simp only [Bool.or_eq_true, decide_eq_true_eq] at h2
          rw [Bool.and_eq_false_iff, decide_eq_false_iff_not, decide_eq_false_iff_not]; omega
        simp only [fitsB, hc, hd, this, Bool.and_false, Bool.false_and]
      · have h2' : (decide (lastAt p.clauses i < x) && decide (x < (k.clauses.length : Int))) = true := by
          simp only [Bool.or_eq_false_iff, decide_eq_false_iff_not] at h2
          rw [Bool.and_eq_true, decide_eq_true_eq, decide_eq_true_eq]; omega
        rw [h2', Bool.true_and] at hd
        (repeat (first | refine XK.n ?_ | refine XK.a ?_ | refine XK.b ?_))
        exact XK.inv ⟨i + 1, ⟨hlt, by rw [hc, hd, hls]⟩, (by rw [hls]; exact (Weak.of hN rfl rfl rfl frI frI)), by omega⟩
    · have hie : i = p.clauses.length := by omega
      subst hie
      have hc : incB k.clauses.length (-1) p.clauses = true := by rw [hc, List.drop_length]; rfl
      have zk := zeroCl_ok p.new
      (repeat (first | refine XK.n ?_ | refine XK.a ?_ | refine XK.b ?_)); refine XK.region ?_; refine XL.g ?_
      refine XL.callGA hE rfl rfl rfl rfl rfl rfl rfl rfl (zk) rfl ?_
      refine XL.g ?_; refine XL.fin ?_; (repeat (first | refine XK.n ?_ | refine XK.a ?_ | refine XK.b ?_))
      (repeat (first | refine XK.n ?_ | refine XK.a ?_ | refine XK.b ?_)); refine XK.cond rfl (fun h3 => ?_) (fun h3 => ?_)
      · (repeat (first | refine XK.n ?_ | refine XK.a ?_ | refine XK.b ?_))
        (first | refine XK.o ?_ | refine XK.p ?_)
        refine cB ?_
        have : (e.renewed || zeroCl p.new) = false := by
          cases h4 : e.renewed <;> cases h5 : zeroCl p.new <;> simp_all
        simp only [fitsB, this, Bool.and_false, Bool.false_and]
      · have h3 : (e.renewed || zeroCl p.new) = true := by
          cases h4 : e.renewed <;> cases h5 : zeroCl p.new <;> simp_all
        have hf : fitsB k.clauses.length p e = if e.spanned then decide (1 ≤ p.days) && decide (p.days ≤ 400) else p.days == 0 := by
          simp only [fitsB, hb, hc, h3, Bool.true_and]
        (repeat (first | refine XK.n ?_ | refine XK.a ?_ | refine XK.b ?_)); refine XK.cond rfl (fun h4 => ?_) (fun h4 => ?_)
        · (repeat (first | refine XK.n ?_ | refine XK.a ?_ | refine XK.b ?_))
          (first | refine XK.o ?_ | refine XK.p ?_)
          refine cB ?_
          rw [hf, if_pos (by simpa using h4)]
        · (repeat (first | refine XK.n ?_ | refine XK.a ?_ | refine XK.b ?_))
          (first | refine XK.o ?_ | refine XK.p ?_)
          refine cB ?_
          rw [hf, if_neg (by simpa using h4)]
end
section
open Go.Eng
theorem catF_oneV {i : Nat} {f g h : Nat → List AV} (h0 : h 0 = g i) (hf : ∀ j, j < i → f j = g j) : ∀ j, j < i + 1 → catF i f h j = g j := by
  intro j hj
  unfold catF
  by_cases h1 : j < i
  · have : Nat.blt j i = true := by simpa using h1
    rw [this, cond_true]
    exact hf j h1
  · have : Nat.blt j i = false := by
      cases hb : Nat.blt j i with
      | false => rfl
      | true => simp at hb; exact absurd hb h1
    have e : j = i := by omega
    rw [this, cond_false, e, Nat.sub_self, h0]
def clsO (s : Nat) (cs : List Cl) : Ob := .vec 56 16 s cs.length (fun i => clC (cs.getD i default))
theorem getD_setA {α : Type} [Inhabited α] (l : List α) (i j : Nat) (x : α) (hi : i < l.length) : (l.set i x).getD j default = if j = i then x else l.getD j default := by
  simp only [List.getD_eq_getElem?_getD, List.getElem?_set]
  by_cases h : i = j
  · subst h; simp [hi]
  · rw [if_neg h, if_neg (fun h' => h h'.symm)]
theorem setRow_cls {cs : List Cl} {x : Nat} (hx : x < cs.length) {off : Nat} {c : List AV} {y : Cl} (hc : setL (clC (cs.getD x default)) off c = clC y) : ∀ j, clC ((cs.set x y).getD j default) = setRowF (fun i => clC (cs.getD i default)) x off c j := by
  intro j
  rw [getD_setA _ _ _ _ hx]
  unfold setRowF
  by_cases h : j = x
  · subst h; rw [if_pos rfl, show Nat.beq j j = true by simp]; exact hc.symm
  · rw [if_neg h, beq_false h]; rfl
def waive1 (cs : List Cl) (i : Int) : List Cl := cs.set i.toNat { cs.getD i.toNat default with waived := true }
def span1 (d : Int) (cs : List Cl) (i : Int) : List Cl := cs.set i.toNat { cs.getD i.toNat default with after := d }
theorem waive_len (cs : List Cl) (l : List Int) : (waiveL cs l).length = cs.length := by
  unfold waiveL
  induction l generalizing cs with
  | nil => rfl
  | cons i l ih => rw [List.foldl_cons, ih, List.length_set]
theorem span_len (d : Int) (cs : List Cl) (l : List Int) : (spanL d cs l).length = cs.length := by
  unfold spanL
  induction l generalizing cs with
  | nil => rfl
  | cons i l ih => rw [List.foldl_cons, ih, List.length_set]
theorem take_snoc (l : List Int) {i : Nat} (hi : i < l.length) : l.take (i + 1) = l.take i ++ [l.getD i default] := by
  rw [List.take_add_one, List.getElem?_eq_getElem hi]; simp [List.getD, hi]
theorem waive_take (cs : List Cl) (l : List Int) {i : Nat} (hi : i < l.length) : waiveL cs (l.take (i + 1)) = waive1 (waiveL cs (l.take i)) (l.getD i default) := by
  rw [take_snoc l hi]; unfold waiveL; rw [List.foldl_append]; rfl
theorem span_take (d : Int) (cs : List Cl) (l : List Int) {i : Nat} (hi : i < l.length) : spanL d cs (l.take (i + 1)) = span1 d (spanL d cs (l.take i)) (l.getD i default) := by
  rw [take_snoc l hi]; unfold spanL; rw [List.foldl_append]; rfl
def idxOk (n : Nat) (l : List Int) : Prop := ∀ i, i < l.length → 0 ≤ l.getD i default ∧ l.getD i default < n
theorem eff1_ok (cs : List Cl) (p : Pt) (hp : ptW p) (hx : idxOk cs.length p.clauses) (hl : p.clauses.length ≤ 1000000) (hn : cs.length ≤ 1000000) :
    DoesM Tryz.prog 101 [.vec 0 0, ptV p] [clsO 0 cs] (.vec 0 1) [clsO 1 (waiveL cs p.clauses)] := by
  refine DoesM.mk (fun _ => false) 100 TT_ok Tryz.func101 rfl (by kernel_rfl) Tryz.ntmps101 rfl rfl rfl fun E hT hE hN hR => ?_
  have hm := mixO hE
  (repeat (first | refine XK.n ?_ | refine XK.a ?_ | refine XK.b ?_))
  refine XK.loop (ι := Nat) (fun i => ST.of [(0, .vec 0 0), (3, .rptr (ptC p)), (8, intsV p.clauses), (9, .c (.int .i64 p.clauses.length)), (10, .c (.int .i64 i))] [(0, clsO 0 (waiveL cs (p.clauses.take i)))] 1000 20 (fun _ => false))
    (fun i => i ≤ p.clauses.length) (fun i => p.clauses.length - i) 0 (Nat.zero_le _) (Weak.trans (Weak.frozenC (k := 103) hN rfl rfl rfl) (Weak.of hN rfl rfl rfl frI frI)) fun i hi => ?_
  have hlen := waive_len cs (p.clauses.take i)
  (repeat (first | refine XK.n ?_ | refine XK.a ?_ | refine XK.b ?_)); refine XK.cond rfl (fun hlt => ?_) (fun hlt => ?_) <;> (try simp at hlt)
  · have hxi := hx i hlt
    have ht := waive_take cs p.clauses hlt
    have fx : p.clauses.getD (i : Int).toNat default = p.clauses.getD i default := rfl
    generalize waiveL cs (p.clauses.take i) = c1 at *
    unfold clsO
    (repeat (first | refine XK.n ?_ | refine XK.a ?_ | refine XK.b ?_))
    rw [fx]
    have hxc : (p.clauses.getD i default).toNat < c1.length := by omega
    refine XK.inv ⟨i + 1, hlt, Weak.of hN rfl rfl rfl frV ⟨⟨rfl, rfl, rfl⟩, ?_, fun j hj => ?_⟩, by omega⟩
    · rw [ht, waive1, List.length_set]
    · rw [ht, waive1]
      exact setRow_cls hxc rfl j
  · have hie : i = p.clauses.length := by omega
    subst hie
    rw [List.take_length]
    (repeat (first | refine XK.n ?_ | refine XK.a ?_ | refine XK.b ?_))
    refine XK.weak (Weak.stamp (k := 0) (t := 1) hN rfl rfl) ?_
    (first | refine XK.outR [0] hN rfl rfl rfl ?_ rfl rfl ?_ | refine XK.outRN [0] hN rfl rfl rfl ?_ rfl rfl ?_)
    · exact frI
    · exact frI
theorem eff4_ok (cs : List Cl) (p : Pt) (hp : ptW p) (hx : idxOk cs.length p.clauses) (hl : p.clauses.length ≤ 1000000) (hn : cs.length ≤ 1000000) :
    DoesM Tryz.prog 104 [.vec 0 0, ptV p] [clsO 0 cs] (.vec 0 1) [clsO 1 (spanL p.days cs p.clauses)] := by
  refine DoesM.mk (fun _ => false) 100 TT_ok Tryz.func104 rfl (by kernel_rfl) Tryz.ntmps104 rfl rfl rfl fun E hT hE hN hR => ?_
  have hm := mixO hE
  (repeat (first | refine XK.n ?_ | refine XK.a ?_ | refine XK.b ?_))
  refine XK.loop (ι := Nat) (fun i => ST.of [(0, .vec 0 0), (3, .rptr (ptC p)), (8, intsV p.clauses), (9, .c (.int .i64 p.clauses.length)), (10, .c (.int .i64 i))] [(0, clsO 0 (spanL p.days cs (p.clauses.take i)))] 1000 22 (fun _ => false))
    (fun i => i ≤ p.clauses.length) (fun i => p.clauses.length - i) 0 (Nat.zero_le _) (Weak.trans (Weak.frozenC (k := 103) hN rfl rfl rfl) (Weak.of hN rfl rfl rfl frI frI)) fun i hi => ?_
  have hlen := span_len p.days cs (p.clauses.take i)
  (repeat (first | refine XK.n ?_ | refine XK.a ?_ | refine XK.b ?_)); refine XK.cond rfl (fun hlt => ?_) (fun hlt => ?_) <;> (try simp at hlt)
  · have hxi := hx i hlt
    have ht := span_take p.days cs p.clauses hlt
    have fx : p.clauses.getD (i : Int).toNat default = p.clauses.getD i default := rfl
    generalize spanL p.days cs (p.clauses.take i) = c1 at *
    unfold clsO
    (repeat (first | refine XK.n ?_ | refine XK.a ?_ | refine XK.b ?_))
    rw [fx]
    have hxc : (p.clauses.getD i default).toNat < c1.length := by omega
    refine XK.inv ⟨i + 1, hlt, Weak.of hN rfl rfl rfl frV ⟨⟨rfl, rfl, rfl⟩, ?_, fun j hj => ?_⟩, by omega⟩
    · rw [ht, span1, List.length_set]
    · rw [ht, span1]
      exact setRow_cls hxc rfl j
  · have hie : i = p.clauses.length := by omega
    subst hie
    rw [List.take_length]
    (repeat (first | refine XK.n ?_ | refine XK.a ?_ | refine XK.b ?_))
    refine XK.weak (Weak.stamp (k := 0) (t := 1) hN rfl rfl) ?_
    (first | refine XK.outR [0] hN rfl rfl rfl ?_ rfl rfl ?_ | refine XK.outRN [0] hN rfl rfl rfl ?_ rfl rfl ?_)
    · exact frI
    · exact frI
theorem eff2_ok (cs : List Cl) (p : Pt) (hs : p.new.start.length ≤ 1000000) (hn : cs.length ≤ 1000000) :
    DoesM Tryz.prog 102 [.vec 0 0, ptV p] [clsO 0 cs] (.vec 0 1) [clsO 1 (cs ++ [p.new])] := by
  refine DoesM.mk (fun _ => false) 100 TT_ok Tryz.func102 rfl (by kernel_rfl) Tryz.ntmps102 rfl rfl rfl fun E hT hE hN hR => ?_
  have hm := mixO hE
  unfold clsO
  (repeat (first | refine XK.n ?_ | refine XK.a ?_ | refine XK.b ?_)); refine XK.region ?_; refine XL.g ?_
  refine XL.callKA hE rfl rfl rfl rfl trivial rfl rfl (clCopied_ok p.new hs) ?_
  refine XL.g ?_; refine XL.fin ?_; (repeat (first | refine XK.n ?_ | refine XK.a ?_ | refine XK.b ?_))
  refine XK.weak (Weak.of (L := [(4, .vec 0 1)]) (O := [(0, .vec 56 16 1 (cs ++ [p.new]).length (fun i => clC ((cs ++ [p.new]).getD i default)))]) (nx := 1000) (nt := 11) (md := fun _ => false) hN rfl rfl rfl frI
    ⟨⟨rfl, rfl, rfl⟩, by simp, fun j hj => (catF_oneV (g := fun i => clC ((cs ++ [p.new]).getD i default)) ?_ (fun k hk => ?_) j hj).symm⟩) ?_
  · show clC p.new = clC ((cs ++ [p.new]).getD cs.length default)
    simp [List.getD]
  · show clC (cs.getD k default) = clC ((cs ++ [p.new]).getD k default)
    simp [List.getD, List.getElem?_append_left hk]
  (first | refine XK.outR [0] hN rfl rfl rfl ?_ rfl rfl ?_ | refine XK.outRN [0] hN rfl rfl rfl ?_ rfl rfl ?_)
  · exact frI
  · exact frI
theorem eff3_ok (cs : List Cl) (p : Pt) (hs : p.new.start.length ≤ 1000000) (h0 : 0 < p.clauses.length) (hx : idxOk cs.length p.clauses) (hn : cs.length ≤ 1000000) :
    DoesM Tryz.prog 103 [.vec 0 0, ptV p] [clsO 0 cs] (.vec 0 1) [clsO 1 (cs.set (p.clauses.getD 0 default).toNat p.new)] := by
  have hx0 := hx 0 h0
  refine DoesM.mk (fun _ => false) 100 TT_ok Tryz.func103 rfl (by kernel_rfl) Tryz.ntmps103 rfl rfl rfl fun E hT hE hN hR => ?_
  have hm := mixO hE
  unfold clsO
  (repeat (first | refine XK.n ?_ | refine XK.a ?_ | refine XK.b ?_)); refine XK.drawn hm ?_; refine XD.goA hT rfl rfl rfl rfl ?_
  refine XD.callKA hE rfl rfl rfl rfl trivial rfl rfl (clCopied_ok p.new hs) ?_
  refine XD.goA hT rfl rfl rfl rfl ?_; refine XD.fin (by kernel_rfl) ?_; (repeat (first | refine XK.n ?_ | refine XK.a ?_ | refine XK.b ?_))
  have f0 : p.clauses.getD (Int.toNat 0) default = p.clauses.getD 0 default := rfl
  rw [f0]
  have hxc : (p.clauses.getD 0 default).toNat < cs.length := by omega
  refine XK.weak (Weak.of (L := [(4, .vec 0 0)]) (O := [(0, .vec 56 16 0 (cs.set (p.clauses.getD 0 default).toNat p.new).length (fun i => clC ((cs.set (p.clauses.getD 0 default).toNat p.new).getD i default)))]) (nx := 1000) (nt := 15) (md := fun _ => false) hN rfl rfl rfl frI
    ⟨⟨rfl, rfl, rfl⟩, by rw [List.length_set], fun j hj => setRow_cls hxc rfl j⟩) ?_
  refine XK.weak (Weak.stamp (k := 0) (t := 1) hN rfl rfl) ?_
  (first | refine XK.outR [0] hN rfl rfl rfl ?_ rfl rfl ?_ | refine XK.outRN [0] hN rfl rfl rfl ?_ rfl rfl ?_)
  · exact frI
  · exact frI
end
section
open Go.Eng
def effFn (n : Int) : Nat := if n = 1 then 102 else if n = 2 then 103 else if n = 5 then 104 else 101
def effAt (n : Int) : AV := match efOf n with
  | some e => efV e (effFn n)
  | none => .agg [.c (.int .i64 0), .c (.int .i64 0), .c (.bool false), .c (.bool false), .c .nilFunc]
def effDom (v : Value) : Bool := match v with
  | .int .i64 n => (efOf n).isSome
  | _ => false
def effVal (v : Value) : AV := match v with
  | .int .i64 n => effAt n
  | _ => .junk
def effO : Ob := .mapb (.int .i64) ty142.zv effDom effVal
theorem ke (n m : Int) (h : n ≠ m) : keyEq (.int .i64 n) (.int .i64 m) = false := by simp [keyEq, cellSame, h]
theorem effects_ok : DoesM Tryz.prog 60 [] [] (.mp 0) [effO] := by
  refine DoesM.mk (fun _ => false) 100 TT_ok Tryz.func60 rfl (by kernel_rfl) Tryz.ntmps60 rfl rfl rfl fun E hT hE hN hR => ?_
  have hm := mixO hE
  (repeat (first | refine XK.n ?_ | refine XK.a ?_ | refine XK.b ?_))
  refine XK.weak (Weak.of (L := [(0, .mp 124)]) (O := [(124, effO)]) (nx := 1000) (nt := 11) (md := fun _ => false) hN rfl rfl rfl rfl ⟨rfl, rfl, fun z hz => ?_⟩) ?_
  · have : ∃ n, z = .int .i64 n := by
      cases z <;> simp [KK.has, LK.has] at hz
      subst hz; exact ⟨_, rfl⟩
    obtain ⟨n, rfl⟩ := this
    by_cases h1 : n = 1
    · subst h1; exact ⟨rfl, rfl⟩
    by_cases h2 : n = 2
    · subst h2; exact ⟨rfl, rfl⟩
    by_cases h3 : n = 3
    · subst h3; exact ⟨rfl, rfl⟩
    by_cases h4 : n = 4
    · subst h4; exact ⟨rfl, rfl⟩
    by_cases h5 : n = 5
    · subst h5; exact ⟨rfl, rfl⟩
    have e : efOf n = none := by simp [efOf, h1, h2, h3, h4, h5]
    dsimp only [effDom, effVal, effAt]
    rw [e, ke n 1 h1, ke n 2 h2, ke n 3 h3, ke n 4 h4, ke n 5 h5]
    exact ⟨rfl, rfl⟩
  · (first | refine XK.outR [124] hN rfl rfl rfl ?_ rfl rfl ?_ | refine XK.outRN [124] hN rfl rfl rfl ?_ rfl rfl ?_)
    · exact frI
    · exact frI
theorem eff_ok (cs : List Cl) (p : Pt) (hp : ptW p) {e : Ef} (he : efOf p.kind = some e) (hx : idxOk cs.length p.clauses) (h2 : p.kind = 2 → 0 < p.clauses.length) (hl : p.clauses.length ≤ 1000000) (hs : p.new.start.length ≤ 1000000) (hn : cs.length ≤ 1000000) :
    DoesM Tryz.prog (effFn p.kind) [.vec 0 0, ptV p] [clsO 0 cs] (.vec 0 1) [clsO 1 (doP cs p)] := by
  unfold effFn doP
  by_cases k1 : p.kind = 1
  · rw [if_pos k1, if_pos k1]; exact eff2_ok cs p hs hn
  rw [if_neg k1, if_neg k1]
  by_cases k2 : p.kind = 2
  · rw [if_pos k2, if_pos k2]; exact eff3_ok cs p hs (h2 k2) hx hn
  rw [if_neg k2, if_neg k2]
  by_cases k5 : p.kind = 5
  · rw [if_pos k5, if_pos k5]; exact eff4_ok cs p hp hx hl hn
  rw [if_neg k5, if_neg k5]
  exact eff1_ok cs p hp hx hl hn
theorem doP_len {cs : List Cl} {p : Pt} : (doP cs p).length ≤ cs.length + 1 := by
  unfold doP
  split
  · simp
  · split
    · simp
    · split
      · rw [span_len]; omega
      · rw [waive_len]; omega
theorem mem_set_or {α : Type} {l : List α} {i : Nat} {x y : α} (h : y ∈ l.set i x) : y ∈ l ∨ y = x := List.mem_or_eq_of_mem_set h
theorem getD_W {cs : List Cl} (h : ∀ x ∈ cs, clW x) (i : Nat) : clW (cs.getD i default) := by
  by_cases hi : i < cs.length
  · simp only [List.getD_eq_getElem?_getD, List.getElem?_eq_getElem hi, Option.getD_some]
    exact h _ (List.getElem_mem hi)
  · rw [List.getD_eq_getElem?_getD, List.getElem?_eq_none (by omega), Option.getD_none]
    refine ⟨?_, ?_, ?_, ?_, fun x hx => (by cases hx), ?_, ?_, ?_, ?_, ⟨?_, ?_⟩, ?_, ?_⟩ <;> (show _ ≤ _ ∧ _ ≤ _; decide)
theorem waive_W {l : List Int} : ∀ {cs : List Cl}, (∀ x ∈ cs, clW x) → ∀ x ∈ waiveL cs l, clW x := by
  unfold waiveL
  induction l with
  | nil => exact fun h => h
  | cons i l ih =>
    intro cs h
    rw [List.foldl_cons]
    refine ih fun x hx => ?_
    rcases mem_set_or hx with hx | rfl
    · exact h x hx
    · exact getD_W h _
theorem span_W {d : Int} (hd : inK .i64 d) {l : List Int} : ∀ {cs : List Cl}, (∀ x ∈ cs, clW x) → ∀ x ∈ spanL d cs l, clW x := by
  unfold spanL
  induction l with
  | nil => exact fun h => h
  | cons i l ih =>
    intro cs h
    rw [List.foldl_cons]
    refine ih fun x hx => ?_
    rcases mem_set_or hx with hx | rfl
    · exact h x hx
    · obtain ⟨a, b, c, d', e, f, g⟩ := getD_W h i.toNat
      exact ⟨a, b, c, d', e, hd, g⟩
theorem doP_W {cs : List Cl} {p : Pt} (hp : ptW p) (h : ∀ x ∈ cs, clW x) : ∀ x ∈ doP cs p, clW x := by
  unfold doP
  split
  · intro x hx
    rcases List.mem_append.1 hx with hx | hx
    · exact h x hx
    · rw [List.mem_singleton] at hx; subst hx; exact hp.2.2.1
  · split
    · intro x hx
      rcases mem_set_or hx with hx | rfl
      · exact h x hx
      · exact hp.2.2.1
    · split
      · exact span_W hp.2.2.2 h
      · exact waive_W h
end
section
open Go.Eng
theorem lt_succ_ne {i j : Nat} (h : j ≠ i) : (j < i + 1) = (j < i) := by
  rw [eq_iff_iff]; omega
def kOk (k : K) : Prop := kW k ∧ (kValid k).1 = 0
def clAt (k : K) (i : Nat) : Cl := k.clauses.getD i default
def acAt (k : K) (i : Nat) : Act := k.acts.getD i default
structure KFacts (k : K) : Prop where
  w : kW k
  parties : 1 ≤ k.parties ∧ k.parties ≤ 12
  days : 1 ≤ k.days ∧ k.days ≤ 2000
  nh : 0 < k.holders.length ∧ k.holders.length ≤ 12
  na : k.acts.length ≤ 60
  nc : k.clauses.length ≤ 400
  held : heldB k = true
  off : offB k = true
  act : ∀ i, i < k.acts.length → actB k (acAt k i) = true
  cl : ∀ i, i < k.clauses.length → clauseB k i (clAt k i) = true
theorem kOk.facts {k : K} (h : kOk k) : KFacts k := by
  obtain ⟨hw, hv⟩ := h
  unfold kValid at hv
  split at hv
  · simp at hv
  · rename_i h1
    simp only [Bool.or_eq_true, decide_eq_true_eq, not_or] at h1
    split at hv
    · simp at hv
    · rename_i h2
      split at hv
      · simp at hv
      · rename_i h3
        have h2 : framedB k = true := by simpa using h2
        unfold framedB at h2
        split at h2
        · cases h2
        · rename_i h4
          simp only [not_or] at h4
          split at h2
          · cases h2
          · simp only [Bool.and_eq_true] at h2
            refine ⟨hw, by omega, by omega, by omega, by omega, by omega, by simpa using h4.2.2.2, h2.2, fun i hi => all_at.1 h2.1 i hi, fun i hi => ?_⟩
            have := List.find?_eq_none.1 h3 i (by simpa using hi)
            simpa [clAt] using this
namespace KFacts
variable {k : K} (h : KFacts k)
include h
theorem clW' {i : Nat} (hi : i < k.clauses.length) : clW (clAt k i) := all_getD h.w.2.2.2.2.1 i hi
theorem clB {i : Nat} (hi : i < k.clauses.length) : (0 ≤ (clAt k i).act ∧ (clAt k i).act < k.acts.length) ∧ (1 ≤ (clAt k i).after ∧ (clAt k i).after ≤ 400) ∧ kindB k (clAt k i) = true ∧ (clAt k i).start.length ≤ 8 ∧ (∀ s ∈ (clAt k i).start, condB k i s = true) ∧
    (((clAt k i).pause = -1 ∧ (clAt k i).resume = -1) ∨ ((clAt k i).pause ≠ (clAt k i).resume ∧ natB k (clAt k i).pause = true ∧ natB k (clAt k i).resume = true)) ∧
    ((clAt k i).unit = -1 ∧ (clAt k i).value = (0, 1) ∧ (clAt k i).to = -1 ∨ (clAt k i).unit ≠ -1 ∧ ((clAt k i).kind = 1 ∨ (clAt k i).kind = 2) ∧ (0 ≤ (clAt k i).unit ∧ (clAt k i).unit < k.units.length) ∧ (k.units.getD (clAt k i).unit.toNat default).kind = 2 ∧ posB (clAt k i).value = true ∧ movB k (clAt k i).to = true) := by
  have := h.cl i hi
  generalize clAt k i = x at *
  unfold clauseB at this
  split at this
  · cases this
  · rename_i h1
    simp only [Bool.or_eq_true, decide_eq_true_eq, not_or] at h1
    split at this
    · cases this
    · rename_i h2
      simp only [Bool.or_eq_true, Bool.not_eq_true', decide_eq_true_eq, not_or, Bool.not_eq_false] at h2
      split at this
      · cases this
      · rename_i h3
        have h3 : ∀ s ∈ x.start, condB k i s = true := List.all_eq_true.1 (by simpa using h3)
        split at this
        · cases this
        · rename_i h4
          refine ⟨by omega, by omega, h2.1, by omega, h3, ?_, ?_⟩
          · by_cases h5 : x.pause ≠ -1 ∨ x.resume ≠ -1
            · right
              simp only [h5, true_and, Bool.or_eq_true, beq_iff_eq, Bool.not_eq_true', not_or, Bool.not_eq_false] at h4
              exact ⟨h4.1.1, h4.1.2, h4.2⟩
            · left; omega
          · split at this
            · rename_i h6
              simp only [Bool.and_eq_true, beq_iff_eq] at this
              exact .inl ⟨h6, Prod.ext this.1.1 this.1.2, this.2⟩
            · rename_i h6
              simp only [Bool.and_eq_true, Bool.or_eq_true, beq_iff_eq, decide_eq_true_eq] at this
              exact .inr ⟨h6, this.1.1.1.1.1, ⟨this.1.1.1.1.2, this.1.1.1.2⟩, this.1.1.2, this.1.2, this.2⟩
theorem cond {i : Nat} (hi : i < k.clauses.length) {s : Cnd} (hs : s ∈ (clAt k i).start) : 0 ≤ s.clause ∧ s.clause < k.clauses.length ∧ s.clause ≠ i ∧ 1 ≤ s.is ∧ s.is ≤ 4 := by
  have := (h.clB hi).2.2.2.2.1 s hs
  simp only [condB, Bool.not_eq_true', Bool.or_eq_false_iff, decide_eq_false_iff_not, beq_eq_false_iff_ne, ne_eq] at this
  omega
end KFacts
end
end Go.Proofs.YtlcfoelfcnhenaaGreatDoor
