import Derived.Test.YtofdehlikigonaaGreatP6
section
/- Contracts (of the program's layer 13) as values of Lean types. -/
namespace Go.Proofs.YtofdehlikigonaaGreat
open Go.Eng
set_option maxRecDepth 10000
set_option linter.unusedSimpArgs false
set_option linter.unusedVariables false
structure Cnd where
  clause : Int
  is : Int
structure Act where
  kind : Int
  role : Int
  give : Int
  to : Int
  unit : Int
  lot : Q
structure Cl where
  kind : Int
  role : Int
  act : Int
  need : Int
  start : List Cnd
  after : Int
  grace : Int
  business : Bool
  final : Bool
  pause : Int
  resume : Int
  value : Q
  unit : Int
  to : Int
  waived : Bool
structure K where
  parties : Int
  holders : List Int
  units : List U
  acts : List Act
  clauses : List Cl
  days : Int
  off : List Int
instance : Inhabited Cnd := ⟨⟨0, 0⟩⟩
instance : Inhabited Act := ⟨⟨0, 0, 0, 0, 0, (0, 0)⟩⟩
instance : Inhabited Cl := ⟨⟨0, 0, 0, 0, [], 0, 0, false, false, 0, 0, (0, 0), 0, 0, false⟩⟩
def cI64 (z : Int) : AV := .c (.int .i64 z)
def cBo (b : Bool) : AV := .c (.bool b)
def iC (z : Int) : List AV := [.c (.int .i64 z)]
def bC (b : Bool) : List AV := [.c (.bool b)]
def cndC (x : Cnd) : List AV := [.c (.int .i64 x.clause), .c (.int .i64 x.is)]
def actC (a : Act) : List AV := [.c (.int .i64 a.kind), .c (.int .i64 a.role), .c (.int .i64 a.give), .c (.int .i64 a.to), .c (.int .i64 a.unit), .c (.int .i64 a.lot.1), .c (.int .i64 a.lot.2)]
def intsV (l : List Int) : AV := rowL iC 1 l
def boolsV (l : List Bool) : AV := rowL bC 1 l
def cndsV (l : List Cnd) : AV := rowL cndC 2 l
def actsV (l : List Act) : AV := rowL actC 7 l
def unitsV (l : List U) : AV := rowL uc 5 l
def clC (k : Cl) : List AV := [.c (.int .i64 k.kind), .c (.int .i64 k.role), .c (.int .i64 k.act), .c (.int .i64 k.need), cndsV k.start, .c (.int .i64 k.after), .c (.int .i64 k.grace), .c (.bool k.business), .c (.bool k.final), .c (.int .i64 k.pause), .c (.int .i64 k.resume), .c (.int .i64 k.value.1), .c (.int .i64 k.value.2), .c (.int .i64 k.unit), .c (.int .i64 k.to), .c (.bool k.waived)]
def clsV (l : List Cl) : AV := rowL clC 16 l
def kC (k : K) : List AV := [.c (.int .i64 k.parties), intsV k.holders, unitsV k.units, actsV k.acts, clsV k.clauses, .c (.int .i64 k.days), intsV k.off]
def kV (k : K) : AV := .agg [.c (.int .i64 k.parties), intsV k.holders, unitsV k.units, actsV k.acts, clsV k.clauses, .c (.int .i64 k.days), intsV k.off]
def cndW (x : Cnd) : Prop := inK .i64 x.clause ∧ inK .i64 x.is
def actW (a : Act) : Prop := inK .i64 a.kind ∧ inK .i64 a.role ∧ inK .i64 a.give ∧ inK .i64 a.to ∧ inK .i64 a.unit ∧ qW a.lot
def clW (k : Cl) : Prop := inK .i64 k.kind ∧ inK .i64 k.role ∧ inK .i64 k.act ∧ inK .i64 k.need ∧ (∀ x ∈ k.start, cndW x) ∧ inK .i64 k.after ∧ inK .i64 k.grace ∧ inK .i64 k.pause ∧ inK .i64 k.resume ∧ qW k.value ∧ inK .i64 k.unit ∧ inK .i64 k.to
def kW (k : K) : Prop := inK .i64 k.parties ∧ (∀ z ∈ k.holders, inK .i64 z) ∧ (∀ u ∈ k.units, uW u) ∧ (∀ a ∈ k.acts, actW a) ∧ (∀ x ∈ k.clauses, clW x) ∧ inK .i64 k.days ∧ ∀ z ∈ k.off, inK .i64 z
noncomputable def cBool : Codec Tryz.prog 4 Bool := Codec.bool (show Tryz.prog.underlying 4 = some .bool from by kernel_rfl) (by kernel_rfl)
noncomputable def cInts : Codec Tryz.prog 22 (List Int) := Codec.slice cInt ty22_k (by decide) (by kernel_rfl)
noncomputable def cCnd : Codec Tryz.prog 112 Cnd := (Codec.struct ty112_k rfl (.cons cInt (.cons cInt (.nil _ _))) (by kernel_rfl)).map (fun x => ⟨x.1, x.2.1⟩) cndC cndW (fun _ => rfl) (fun _ => rfl) (fun _ h => ⟨h.1, h.2.1⟩)
noncomputable def cCnds : Codec Tryz.prog 28 (List Cnd) := Codec.slice cCnd ty28_k (by decide) (by kernel_rfl)
noncomputable def cAct : Codec Tryz.prog 76 Act := (Codec.struct ty76_k rfl (.cons cInt (.cons cInt (.cons cInt (.cons cInt (.cons cInt (.cons cQ (.nil _ _))))))) (by kernel_rfl)).map (fun x => ⟨x.1, x.2.1, x.2.2.1, x.2.2.2.1, x.2.2.2.2.1, x.2.2.2.2.2.1⟩) actC actW (fun _ => rfl) (fun _ => rfl) (fun _ h => ⟨h.1, h.2.1, h.2.2.1, h.2.2.2.1, h.2.2.2.2.1, h.2.2.2.2.2.1⟩)
noncomputable def cActs : Codec Tryz.prog 24 (List Act) := Codec.slice cAct ty24_k (by decide) (by kernel_rfl)
noncomputable def cCl : Codec Tryz.prog 32 Cl := (Codec.struct ty32_k rfl (.cons cInt (.cons cInt (.cons cInt (.cons cInt (.cons cCnds (.cons cInt (.cons cInt (.cons cBool (.cons cBool (.cons cInt (.cons cInt (.cons cQ (.cons cInt (.cons cInt (.cons cBool (.nil _ _)))))))))))))))) (by kernel_rfl)).map
  (fun ⟨a, b, c, d, e, f, g, h, i, j, k, l, m, n, o, _⟩ => ⟨a, b, c, d, e, f, g, h, i, j, k, l, m, n, o⟩) clC clW (fun _ => rfl) (fun _ => rfl) (fun _ ⟨a, b, c, d, e, f, g, _, _, j, k, l, m, n, _⟩ => ⟨a, b, c, d, e, f, g, j, k, l, m, n⟩)
noncomputable def cCls : Codec Tryz.prog 25 (List Cl) := Codec.slice cCl ty25_k (by decide) (by kernel_rfl)
noncomputable def cK : Codec Tryz.prog 27 K := (Codec.struct ty27_k rfl (.cons cInt (.cons cInts (.cons cUs (.cons cActs (.cons cCls (.cons cInt (.cons cInts (.nil _ _)))))))) (by kernel_rfl)).map
  (fun ⟨a, b, c, d, e, f, g, _⟩ => ⟨a, b, c, d, e, f, g⟩) kC kW (fun _ => rfl) (fun _ => rfl) (fun _ ⟨a, b, c, d, e, f, g, _⟩ => ⟨a, b, c, d, e, f, g⟩)
end Go.Proofs.YtofdehlikigonaaGreat
end
section
/- Contracts: package contract, the small functions. -/
namespace Go.Proofs.YtofdehlikigonaaGreat
open Go.Eng
set_option maxRecDepth 10000
set_option linter.unusedSimpArgs false
set_option linter.unusedVariables false
def movB (k : K) (r : Int) : Bool := decide (0 ≤ r) && decide (r < k.holders.length)
def posB (q : Q) : Bool := decide (0 < q.1) && qOk q
theorem movable_ok (k : K) (r : Int) : Does Tryz.prog 83 [kV k, .c (.int .i64 r)] (.c (.bool (movB k r))) := by
  refine Does.mk (fun _ => false) TT_ok Tryz.func83 rfl (by kernel_rfl) Tryz.ntmps83 rfl rfl fun E hT hE hN hR => ?_
  have hm : E.P.follows .mixedOrders = true := by rw [hE]; kernel_rfl
  (repeat (first | refine XK.norm rfl rfl ?_ | refine XK.rgnA hT rfl rfl rfl ?_ | refine XK.rgnB hT hm rfl rfl rfl ?_))
  (first | refine XK.out rfl rfl rfl ?_ | refine XK.outN rfl rfl rfl ?_)
  simp [movB]
theorem none_ok : Does Tryz.prog 81 [] (qv (0, 1)) := by
  refine Does.mk (fun _ => false) TT_ok Tryz.func81 rfl (by kernel_rfl) Tryz.ntmps81 rfl rfl fun E hT hE hN hR => ?_
  have hm : E.P.follows .mixedOrders = true := by rw [hE]; kernel_rfl
  (repeat (first | refine XK.norm rfl rfl ?_ | refine XK.rgnA hT rfl rfl rfl ?_ | refine XK.rgnB hT hm rfl rfl rfl ?_))
  (first | refine XK.out rfl rfl rfl ?_ | refine XK.outN rfl rfl rfl ?_)
  rfl
theorem positive_ok (q : Q) (h : qW q) : Does Tryz.prog 82 [qv q] (.c (.bool (posB q))) := by
  refine Does.mk (fun _ => false) TT_ok Tryz.func82 rfl (by kernel_rfl) Tryz.ntmps82 rfl rfl fun E hT hE hN hR => ?_
  have hm : E.P.follows .mixedOrders = true := by rw [hE]; kernel_rfl
  (repeat (first | refine XK.norm rfl rfl ?_ | refine XK.rgnA hT rfl rfl rfl ?_ | refine XK.rgnB hT hm rfl rfl rfl ?_)); refine XK.region ?_; refine XL.goA hT rfl rfl rfl rfl ?_
  refine XL.callGA hE rfl rfl rfl rfl rfl rfl rfl rfl (valid_ok q h) rfl ?_
  refine XL.goA hT rfl rfl rfl rfl ?_; refine XL.fin ?_; (repeat (first | refine XK.norm rfl rfl ?_ | refine XK.rgnA hT rfl rfl rfl ?_ | refine XK.rgnB hT hm rfl rfl rfl ?_))
  (repeat (first | refine XK.norm rfl rfl ?_ | refine XK.rgnA hT rfl rfl rfl ?_ | refine XK.rgnB hT hm rfl rfl rfl ?_))
  (first | refine XK.out rfl rfl rfl ?_ | refine XK.outN rfl rfl rfl ?_)
  simp [posB]
def actAt (k : K) (i : Int) : Act := k.acts.getD i.toNat default
def natB (k : K) (i : Int) : Bool := decide (0 ≤ i) && decide (i < k.acts.length) && (actAt k i).kind == 1 && (actAt k i).role == -1
theorem natural_ok (k : K) (i : Int) : Does Tryz.prog 80 [kV k, .c (.int .i64 i)] (.c (.bool (natB k i))) := by
  refine Does.mk (fun _ => false) TT_ok Tryz.func80 rfl (by kernel_rfl) Tryz.ntmps80 rfl rfl fun E hT hE hN hR => ?_
  have hm : E.P.follows .mixedOrders = true := by rw [hE]; kernel_rfl
  (repeat (first | refine XK.norm rfl rfl ?_ | refine XK.rgnA hT rfl rfl rfl ?_ | refine XK.rgnB hT hm rfl rfl rfl ?_))
  (first | refine XK.out rfl rfl rfl ?_ | refine XK.outN rfl rfl rfl ?_)
  rfl
def kindB (k : K) (x : Cl) : Bool :=
  if x.kind = 4 then x.role == -1 && x.need == 1 && x.grace == 0 && !x.final
  else if !movB k x.role || natB k x.act then false
  else if x.kind = 1 then decide (1 ≤ x.need) && decide (x.need ≤ 9) && decide (0 ≤ x.grace) && decide (x.grace ≤ 400)
  else if x.kind = 2 then x.need == 1 && x.grace == 0
  else if x.kind = 3 then x.need == 1 && x.grace == 0 && !x.final
  else false
theorem validKind_ok (k : K) (x : Cl) : Does Tryz.prog 79 [kV k, .agg (clC x)] (.c (.bool (kindB k x))) := by
  refine Does.mk (fun _ => false) TT_ok Tryz.func79 rfl (by kernel_rfl) Tryz.ntmps79 rfl rfl fun E hT hE hN hR => ?_
  have hm : E.P.follows .mixedOrders = true := by rw [hE]; kernel_rfl
  (repeat (first | refine XK.norm rfl rfl ?_ | refine XK.rgnA hT rfl rfl rfl ?_ | refine XK.rgnB hT hm rfl rfl rfl ?_)); refine XK.cond rfl (fun h4 => ?_) (fun h4 => ?_) <;> (try simp at h4)
  · (repeat (first | refine XK.norm rfl rfl ?_ | refine XK.rgnA hT rfl rfl rfl ?_ | refine XK.rgnB hT hm rfl rfl rfl ?_))
    (first | refine XK.out rfl rfl rfl ?_ | refine XK.outN rfl rfl rfl ?_)
    simp [kindB, h4]
  · (repeat (first | refine XK.norm rfl rfl ?_ | refine XK.rgnA hT rfl rfl rfl ?_ | refine XK.rgnB hT hm rfl rfl rfl ?_)); refine XK.region ?_; refine XL.goA hT rfl rfl rfl rfl ?_
    refine XL.callLA hE rfl rfl rfl rfl trivial rfl (movable_ok k x.role) rfl ?_
    refine XL.goA hT rfl rfl rfl rfl ?_
    refine XL.callGA hE rfl rfl rfl rfl rfl rfl rfl rfl (natural_ok k x.act) rfl ?_
    refine XL.goA hT rfl rfl rfl rfl ?_; refine XL.fin ?_; (repeat (first | refine XK.norm rfl rfl ?_ | refine XK.rgnA hT rfl rfl rfl ?_ | refine XK.rgnB hT hm rfl rfl rfl ?_))
    (repeat (first | refine XK.norm rfl rfl ?_ | refine XK.rgnA hT rfl rfl rfl ?_ | refine XK.rgnB hT hm rfl rfl rfl ?_)); refine XK.cond rfl (fun hm => ?_) (fun hm => ?_)
    · (repeat (first | refine XK.norm rfl rfl ?_ | refine XK.rgnA hT rfl rfl rfl ?_ | refine XK.rgnB hT hm rfl rfl rfl ?_))
      (first | refine XK.out rfl rfl rfl ?_ | refine XK.outN rfl rfl rfl ?_)
      simp [kindB, h4, hm]
    · (repeat (first | refine XK.norm rfl rfl ?_ | refine XK.rgnA hT rfl rfl rfl ?_ | refine XK.rgnB hT hm rfl rfl rfl ?_)); refine XK.cond rfl (fun h1 => ?_) (fun h1 => ?_) <;> (try simp at h1)
      · (repeat (first | refine XK.norm rfl rfl ?_ | refine XK.rgnA hT rfl rfl rfl ?_ | refine XK.rgnB hT hm rfl rfl rfl ?_))
        (first | refine XK.out rfl rfl rfl ?_ | refine XK.outN rfl rfl rfl ?_)
        simp [kindB, h4, hm, h1]
      · (repeat (first | refine XK.norm rfl rfl ?_ | refine XK.rgnA hT rfl rfl rfl ?_ | refine XK.rgnB hT hm rfl rfl rfl ?_)); refine XK.cond rfl (fun h2 => ?_) (fun h2 => ?_) <;> (try simp at h2)
        · (repeat (first | refine XK.norm rfl rfl ?_ | refine XK.rgnA hT rfl rfl rfl ?_ | refine XK.rgnB hT hm rfl rfl rfl ?_))
          (first | refine XK.out rfl rfl rfl ?_ | refine XK.outN rfl rfl rfl ?_)
          simp [kindB, h4, hm, h1, h2]
        · (repeat (first | refine XK.norm rfl rfl ?_ | refine XK.rgnA hT rfl rfl rfl ?_ | refine XK.rgnB hT hm rfl rfl rfl ?_)); refine XK.cond rfl (fun h3 => ?_) (fun h3 => ?_) <;> (try simp at h3)
          · (repeat (first | refine XK.norm rfl rfl ?_ | refine XK.rgnA hT rfl rfl rfl ?_ | refine XK.rgnB hT hm rfl rfl rfl ?_))
            (first | refine XK.out rfl rfl rfl ?_ | refine XK.outN rfl rfl rfl ?_)
            simp [kindB, h4, hm, h1, h2, h3]
          · (repeat (first | refine XK.norm rfl rfl ?_ | refine XK.rgnA hT rfl rfl rfl ?_ | refine XK.rgnB hT hm rfl rfl rfl ?_))
            (first | refine XK.out rfl rfl rfl ?_ | refine XK.outN rfl rfl rfl ?_)
            simp [kindB, h4, hm, h1, h2, h3]
end Go.Proofs.YtofdehlikigonaaGreat
end
section
/- Contracts: package contract, validAct. -/
namespace Go.Proofs.YtofdehlikigonaaGreat
open Go.Eng
set_option maxRecDepth 10000
set_option linter.unusedSimpArgs false
set_option linter.unusedVariables false
def actB (k : K) (a : Act) : Bool :=
  if !movB k a.role then a.kind == 1 && a.role == -1 && a.give == 0 && (a.to == -1 || movB k a.to) && a.unit == -1 && (a.lot.1 == 0 && a.lot.2 == 1)
  else if a.kind = 1 then
    if a.give ≠ 0 ∨ (a.to ≠ -1 ∧ movB k a.to = false) then false
    else if a.unit = -1 then a.lot.1 == 0 && a.lot.2 == 1
    else decide (0 ≤ a.unit) && decide (a.unit < k.units.length) && posB a.lot
  else if a.kind = 2 ∨ a.kind = 3 then movB k a.give && decide (0 ≤ a.to) && decide (a.to < k.parties) && a.unit == -1 && (a.lot.1 == 0 && a.lot.2 == 1)
  else false
theorem validAct_ok (k : K) (a : Act) (ha : actW a) : Does Tryz.prog 78 [kV k, .agg (actC a)] (.c (.bool (actB k a))) := by
  refine Does.mk (fun _ => false) TT_ok Tryz.func78 rfl (by kernel_rfl) Tryz.ntmps78 rfl rfl fun E hT hE hN hR => ?_
  have hm : E.P.follows .mixedOrders = true := by rw [hE]; kernel_rfl
  (repeat (first | refine XK.norm rfl rfl ?_ | refine XK.rgnA hT rfl rfl rfl ?_ | refine XK.rgnB hT hm rfl rfl rfl ?_)); refine XK.region ?_; refine XL.goA hT rfl rfl rfl rfl ?_
  refine XL.callLA hE rfl rfl rfl rfl trivial rfl (movable_ok k a.role) rfl ?_
  refine XL.goA hT rfl rfl rfl rfl ?_; refine XL.fin ?_; (repeat (first | refine XK.norm rfl rfl ?_ | refine XK.rgnA hT rfl rfl rfl ?_ | refine XK.rgnB hT hm rfl rfl rfl ?_))
  (repeat (first | refine XK.norm rfl rfl ?_ | refine XK.rgnA hT rfl rfl rfl ?_ | refine XK.rgnB hT hm rfl rfl rfl ?_)); refine XK.cond rfl (fun hv => ?_) (fun hv => ?_)
  · (repeat (first | refine XK.norm rfl rfl ?_ | refine XK.rgnA hT rfl rfl rfl ?_ | refine XK.rgnB hT hm rfl rfl rfl ?_)); refine XK.drawn hm ?_; refine XD.goA hT rfl rfl rfl rfl ?_
    refine XD.callGA hE rfl rfl rfl rfl rfl rfl rfl rfl rfl (movable_ok k a.to) rfl ?_
    refine XD.goA hT rfl rfl rfl rfl ?_
    refine XD.callGA hE rfl rfl rfl rfl rfl rfl rfl rfl rfl (none_ok) rfl ?_
    refine XD.goA hT rfl rfl rfl rfl ?_; refine XD.fin (by kernel_rfl) ?_; (repeat (first | refine XK.norm rfl rfl ?_ | refine XK.rgnA hT rfl rfl rfl ?_ | refine XK.rgnB hT hm rfl rfl rfl ?_))
    (repeat (first | refine XK.norm rfl rfl ?_ | refine XK.rgnA hT rfl rfl rfl ?_ | refine XK.rgnB hT hm rfl rfl rfl ?_))
    (first | refine XK.out rfl rfl rfl ?_ | refine XK.outN rfl rfl rfl ?_)
    simp [actB, hv]
  · (repeat (first | refine XK.norm rfl rfl ?_ | refine XK.rgnA hT rfl rfl rfl ?_ | refine XK.rgnB hT hm rfl rfl rfl ?_)); refine XK.cond rfl (fun h1 => ?_) (fun h1 => ?_) <;> (try simp at h1)
    · (repeat (first | refine XK.norm rfl rfl ?_ | refine XK.rgnA hT rfl rfl rfl ?_ | refine XK.rgnB hT hm rfl rfl rfl ?_)); refine XK.region ?_; refine XL.goA hT rfl rfl rfl rfl ?_
      refine XL.callGA hE rfl rfl rfl rfl rfl rfl rfl rfl (movable_ok k a.to) rfl ?_
      refine XL.goA hT rfl rfl rfl rfl ?_; refine XL.fin ?_; (repeat (first | refine XK.norm rfl rfl ?_ | refine XK.rgnA hT rfl rfl rfl ?_ | refine XK.rgnB hT hm rfl rfl rfl ?_))
      (repeat (first | refine XK.norm rfl rfl ?_ | refine XK.rgnA hT rfl rfl rfl ?_ | refine XK.rgnB hT hm rfl rfl rfl ?_)); refine XK.cond rfl (fun hx => ?_) (fun hx => ?_) <;> (try simp at hx)
      · (repeat (first | refine XK.norm rfl rfl ?_ | refine XK.rgnA hT rfl rfl rfl ?_ | refine XK.rgnB hT hm rfl rfl rfl ?_))
        (first | refine XK.out rfl rfl rfl ?_ | refine XK.outN rfl rfl rfl ?_)
        simp [actB, hv, h1, hx]
      · have hx2 : a.to = -1 ∨ movB k a.to = true := by
          by_cases h : a.to = -1
          · exact .inl h
          · exact .inr (hx.2 h)
        (repeat (first | refine XK.norm rfl rfl ?_ | refine XK.rgnA hT rfl rfl rfl ?_ | refine XK.rgnB hT hm rfl rfl rfl ?_)); refine XK.cond rfl (fun hu => ?_) (fun hu => ?_) <;> (try simp at hu)
        · (repeat (first | refine XK.norm rfl rfl ?_ | refine XK.rgnA hT rfl rfl rfl ?_ | refine XK.rgnB hT hm rfl rfl rfl ?_)); refine XK.drawn hm ?_; refine XD.goA hT rfl rfl rfl rfl ?_
          refine XD.callLA hE rfl rfl rfl rfl trivial rfl (none_ok) rfl ?_
          refine XD.goA hT rfl rfl rfl rfl ?_; refine XD.fin (by kernel_rfl) ?_; (repeat (first | refine XK.norm rfl rfl ?_ | refine XK.rgnA hT rfl rfl rfl ?_ | refine XK.rgnB hT hm rfl rfl rfl ?_))
          (repeat (first | refine XK.norm rfl rfl ?_ | refine XK.rgnA hT rfl rfl rfl ?_ | refine XK.rgnB hT hm rfl rfl rfl ?_))
          (first | refine XK.out rfl rfl rfl ?_ | refine XK.outN rfl rfl rfl ?_)
          simp [actB, hv, h1, hx, hu]
          exact fun _ _ => hx2
        · (repeat (first | refine XK.norm rfl rfl ?_ | refine XK.rgnA hT rfl rfl rfl ?_ | refine XK.rgnB hT hm rfl rfl rfl ?_)); refine XK.region ?_; refine XL.goA hT rfl rfl rfl rfl ?_
          refine XL.callGA hE rfl rfl rfl rfl rfl rfl rfl rfl (positive_ok a.lot ha.2.2.2.2.2) rfl ?_
          refine XL.goA hT rfl rfl rfl rfl ?_; refine XL.fin ?_; (repeat (first | refine XK.norm rfl rfl ?_ | refine XK.rgnA hT rfl rfl rfl ?_ | refine XK.rgnB hT hm rfl rfl rfl ?_))
          (repeat (first | refine XK.norm rfl rfl ?_ | refine XK.rgnA hT rfl rfl rfl ?_ | refine XK.rgnB hT hm rfl rfl rfl ?_))
          (first | refine XK.out rfl rfl rfl ?_ | refine XK.outN rfl rfl rfl ?_)
          simp [actB, hv, h1, hx, hu]
          exact fun _ _ _ => hx2
    · (repeat (first | refine XK.norm rfl rfl ?_ | refine XK.rgnA hT rfl rfl rfl ?_ | refine XK.rgnB hT hm rfl rfl rfl ?_)); refine XK.cond rfl (fun h2 => ?_) (fun h2 => ?_) <;> (try simp at h2)
      · (repeat (first | refine XK.norm rfl rfl ?_ | refine XK.rgnA hT rfl rfl rfl ?_ | refine XK.rgnB hT hm rfl rfl rfl ?_)); refine XK.cond rfl (fun h3 => ?_) (fun h3 => ?_) <;> (try simp at h3)
        · (repeat (first | refine XK.norm rfl rfl ?_ | refine XK.rgnA hT rfl rfl rfl ?_ | refine XK.rgnB hT hm rfl rfl rfl ?_)); refine XK.drawn hm ?_; refine XD.goA hT rfl rfl rfl rfl ?_
          refine XD.callLA hE rfl rfl rfl rfl trivial rfl (movable_ok k a.give) rfl ?_
          refine XD.goA hT rfl rfl rfl rfl ?_
          refine XD.callGA hE rfl rfl rfl rfl rfl rfl rfl rfl rfl (none_ok) rfl ?_
          refine XD.goA hT rfl rfl rfl rfl ?_; refine XD.fin (by kernel_rfl) ?_; (repeat (first | refine XK.norm rfl rfl ?_ | refine XK.rgnA hT rfl rfl rfl ?_ | refine XK.rgnB hT hm rfl rfl rfl ?_))
          (repeat (first | refine XK.norm rfl rfl ?_ | refine XK.rgnA hT rfl rfl rfl ?_ | refine XK.rgnB hT hm rfl rfl rfl ?_))
          (first | refine XK.out rfl rfl rfl ?_ | refine XK.outN rfl rfl rfl ?_)
          simp [actB, hv, h1, h2]
        · exact absurd h2 h3
      · (repeat (first | refine XK.norm rfl rfl ?_ | refine XK.rgnA hT rfl rfl rfl ?_ | refine XK.rgnB hT hm rfl rfl rfl ?_)); refine XK.cond rfl (fun h3 => ?_) (fun h3 => ?_) <;> (try simp at h3)
        · (repeat (first | refine XK.norm rfl rfl ?_ | refine XK.rgnA hT rfl rfl rfl ?_ | refine XK.rgnB hT hm rfl rfl rfl ?_)); refine XK.drawn hm ?_; refine XD.goA hT rfl rfl rfl rfl ?_
          refine XD.callLA hE rfl rfl rfl rfl trivial rfl (movable_ok k a.give) rfl ?_
          refine XD.goA hT rfl rfl rfl rfl ?_
          refine XD.callGA hE rfl rfl rfl rfl rfl rfl rfl rfl rfl (none_ok) rfl ?_
          refine XD.goA hT rfl rfl rfl rfl ?_; refine XD.fin (by kernel_rfl) ?_; (repeat (first | refine XK.norm rfl rfl ?_ | refine XK.rgnA hT rfl rfl rfl ?_ | refine XK.rgnB hT hm rfl rfl rfl ?_))
          (repeat (first | refine XK.norm rfl rfl ?_ | refine XK.rgnA hT rfl rfl rfl ?_ | refine XK.rgnB hT hm rfl rfl rfl ?_))
          (first | refine XK.out rfl rfl rfl ?_ | refine XK.outN rfl rfl rfl ?_)
          simp [actB, hv, h1, h2, h3]
        · (repeat (first | refine XK.norm rfl rfl ?_ | refine XK.rgnA hT rfl rfl rfl ?_ | refine XK.rgnB hT hm rfl rfl rfl ?_))
          (first | refine XK.out rfl rfl rfl ?_ | refine XK.outN rfl rfl rfl ?_)
          simp [actB, hv, h1, h2, h3]
end Go.Proofs.YtofdehlikigonaaGreat
end
section
/- Contracts: package contract, held. -/
namespace Go.Proofs.YtofdehlikigonaaGreat
open Go.Eng
set_option maxRecDepth 10000
set_option linter.unusedSimpArgs false
set_option linter.unusedVariables false
def heldB (k : K) : Bool := k.holders.all (fun h => decide (0 ≤ h) && decide (h < k.parties))
theorem all_at {α : Type} [Inhabited α] {p : α → Bool} {l : List α} : l.all p = true ↔ ∀ i, i < l.length → p (l.getD i default) = true := by
  rw [List.all_eq_true]
  constructor
  · intro h i hi
    simp only [List.getD_eq_getElem?_getD, List.getElem?_eq_getElem hi, Option.getD_some]
    exact h _ (List.getElem_mem hi)
  · intro h x hx
    obtain ⟨i, hi, rfl⟩ := List.getElem_of_mem hx
    have := h i hi
    simpa only [List.getD_eq_getElem?_getD, List.getElem?_eq_getElem hi, Option.getD_some] using this
theorem all_not {α : Type} [Inhabited α] {p : α → Bool} {l : List α} {i : Nat} (hi : i < l.length) (h : p (l.getD i default) = false) : l.all p = false := by
  rw [← Bool.not_eq_true, all_at]
  intro h2
  rw [h2 i hi] at h
  cases h
theorem held_ok (k : K) (hk : kW k) : Does Tryz.prog 76 [kV k] (.c (.bool (heldB k))) := by
  refine Does.mk (fun _ => false) TT_ok Tryz.func76 rfl (by kernel_rfl) Tryz.ntmps76 rfl rfl fun E hT hE hN hR => ?_
  have hm : E.P.follows .mixedOrders = true := by rw [hE]; kernel_rfl
  have hp : -9223372036854775808 ≤ k.parties ∧ k.parties ≤ 9223372036854775807 := hk.1
  (repeat (first | refine XK.norm rfl rfl ?_ | refine XK.rgnA hT rfl rfl rfl ?_ | refine XK.rgnB hT hm rfl rfl rfl ?_))
  refine XK.fact (Sat.rs_len (j := 6) rfl) fun hlen => ?_
  have hm' := hlen.1
  refine XK.loop (ι := Nat) (fun i => ST.of [(1, .ptr 1 0), (7, .c (.int .i64 k.holders.length)), (8, .c (.int .i64 i))] [(1, .cells 27 (kC k))] 1000 25 (fun _ => false))
    (fun i => i ≤ k.holders.length ∧ ∀ j, j < i → (decide (0 ≤ k.holders.getD j default) && decide (k.holders.getD j default < k.parties)) = true) (fun i => k.holders.length - i) 0 ⟨Nat.zero_le _, fun j hj => absurd hj (Nat.not_lt_zero _)⟩
    (Weak.of hN rfl rfl rfl ⟨rfl, rfl, rfl⟩ ⟨rfl, rfl⟩) fun i hi => ?_
  obtain ⟨hi1, hi2⟩ := hi
  (repeat (first | refine XK.norm rfl rfl ?_ | refine XK.rgnA hT rfl rfl rfl ?_ | refine XK.rgnB hT hm rfl rfl rfl ?_)); refine XK.cond rfl (fun hlt => ?_) (fun hlt => ?_) <;> (try simp at hlt)
  · (repeat (first | refine XK.norm rfl rfl ?_ | refine XK.rgnA hT rfl rfl rfl ?_ | refine XK.rgnB hT hm rfl rfl rfl ?_))
    refine XK.loop (ι := Nat) (fun p => ST.of [(1, .ptr 1 0), (3, .c (.int .i64 i)), (7, .c (.int .i64 k.holders.length)), (8, .c (.int .i64 i)), (12, .c (.int .i64 k.parties)), (13, .c (.int .i64 p))] [(1, .cells 27 (kC k))] 2000 25 (fun _ => false))
      (fun p => (p = 0 ∨ (p : Int) ≤ k.parties) ∧ ∀ q : Nat, q < p → k.holders.getD i default ≠ q) (fun p => k.parties.toNat - p) 0 ⟨.inl rfl, fun j hj => absurd hj (Nat.not_lt_zero _)⟩
      (Weak.of hN rfl rfl rfl ⟨rfl, rfl, rfl, rfl, rfl, rfl⟩ ⟨rfl, rfl⟩) fun p hp2 => ?_
    obtain ⟨hp1, hp2⟩ := hp2
    (repeat (first | refine XK.norm rfl rfl ?_ | refine XK.rgnA hT rfl rfl rfl ?_ | refine XK.rgnB hT hm rfl rfl rfl ?_)); refine XK.cond rfl (fun hc => ?_) (fun hc => ?_) <;> (try simp at hc)
    · (repeat (first | refine XK.norm rfl rfl ?_ | refine XK.rgnA hT rfl rfl rfl ?_ | refine XK.rgnB hT hm rfl rfl rfl ?_)); refine XK.cond rfl (fun he => ?_) (fun he => ?_) <;> (try simp at he)
      · (repeat (first | refine XK.norm rfl rfl ?_ | refine XK.rgnA hT rfl rfl rfl ?_ | refine XK.rgnB hT hm rfl rfl rfl ?_))
        refine XK.inv ⟨i + 1, ⟨hlt, fun j hj => ?_⟩, Weak.of hN rfl rfl rfl ⟨rfl, rfl, rfl⟩ ⟨rfl, rfl⟩, by omega⟩
        by_cases h : j = i
        · subst h
          have he : k.holders.getD j default = p := by simpa using he
          rw [he]
          simp
          omega
        · exact hi2 j (by omega)
      · (repeat (first | refine XK.norm rfl rfl ?_ | refine XK.rgnA hT rfl rfl rfl ?_ | refine XK.rgnB hT hm rfl rfl rfl ?_))
        refine XK.inv ⟨p + 1, ⟨.inr (by omega), fun q hq => ?_⟩, Weak.of hN rfl rfl rfl ⟨rfl, rfl, rfl, rfl, rfl, rfl⟩ ⟨rfl, rfl⟩, by omega⟩
        by_cases h : q = p
        · subst h
          simpa using he
        · exact hp2 q (by omega)
    · (repeat (first | refine XK.norm rfl rfl ?_ | refine XK.rgnA hT rfl rfl rfl ?_ | refine XK.rgnB hT hm rfl rfl rfl ?_))
      (first | refine XK.out rfl rfl rfl ?_ | refine XK.outN rfl rfl rfl ?_)
      refine cB ?_
      symm
      refine all_not hlt ?_
      by_cases h0 : 0 ≤ k.holders.getD i default
      · have := hp2 (k.holders.getD i default).toNat
        simp only [Bool.and_eq_false_iff, decide_eq_false_iff_not]
        right
        intro h1
        exact hp2 (k.holders.getD i default).toNat (by omega) (by omega)
      · simp only [Bool.and_eq_false_iff, decide_eq_false_iff_not]
        exact .inl h0
  · (repeat (first | refine XK.norm rfl rfl ?_ | refine XK.rgnA hT rfl rfl rfl ?_ | refine XK.rgnB hT hm rfl rfl rfl ?_))
    (first | refine XK.out rfl rfl rfl ?_ | refine XK.outN rfl rfl rfl ?_)
    refine cB ?_
    symm
    exact all_at.2 fun j hj => hi2 j (by omega)
end Go.Proofs.YtofdehlikigonaaGreat
end
