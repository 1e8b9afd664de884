import Derived.Test.YtofdehlikigonaaGreatP8
import Derived.Test.YtofdehlikigonaaGreatP5
section
/- Patches and amendments as values of Lean types, and what patch.Apply and package version compute. -/
namespace Go.Proofs.YtofdehlikigonaaGreat
open Go.Eng
set_option maxRecDepth 10000
set_option linter.unusedSimpArgs false
set_option linter.unusedVariables false
structure Pt where
  kind : Int
  clauses : List Int
  new : Cl
  days : Int
structure Am where
  number : Int
  day : Int
  known : Int
  patch : Pt
instance : Inhabited Pt := ⟨⟨0, [], default, 0⟩⟩
instance : Inhabited Am := ⟨⟨0, 0, 0, default⟩⟩
def ptC (p : Pt) : List AV := [.c (.int .i64 p.kind), intsV p.clauses, .c (.int .i64 p.new.kind), .c (.int .i64 p.new.role), .c (.int .i64 p.new.act), .c (.int .i64 p.new.need), cndsV p.new.start, .c (.int .i64 p.new.after), .c (.int .i64 p.new.grace), .c (.bool p.new.business), .c (.bool p.new.final), .c (.int .i64 p.new.pause), .c (.int .i64 p.new.resume), .c (.int .i64 p.new.value.1), .c (.int .i64 p.new.value.2), .c (.int .i64 p.new.unit), .c (.int .i64 p.new.to), .c (.bool p.new.waived), .c (.int .i64 p.days)]
def ptV (p : Pt) : AV := .agg [.c (.int .i64 p.kind), intsV p.clauses, .c (.int .i64 p.new.kind), .c (.int .i64 p.new.role), .c (.int .i64 p.new.act), .c (.int .i64 p.new.need), cndsV p.new.start, .c (.int .i64 p.new.after), .c (.int .i64 p.new.grace), .c (.bool p.new.business), .c (.bool p.new.final), .c (.int .i64 p.new.pause), .c (.int .i64 p.new.resume), .c (.int .i64 p.new.value.1), .c (.int .i64 p.new.value.2), .c (.int .i64 p.new.unit), .c (.int .i64 p.new.to), .c (.bool p.new.waived), .c (.int .i64 p.days)]
def amC (a : Am) : List AV := [.c (.int .i64 a.number), .c (.int .i64 a.day), .c (.int .i64 a.known), .c (.int .i64 a.patch.kind), intsV a.patch.clauses, .c (.int .i64 a.patch.new.kind), .c (.int .i64 a.patch.new.role), .c (.int .i64 a.patch.new.act), .c (.int .i64 a.patch.new.need), cndsV a.patch.new.start, .c (.int .i64 a.patch.new.after), .c (.int .i64 a.patch.new.grace), .c (.bool a.patch.new.business), .c (.bool a.patch.new.final), .c (.int .i64 a.patch.new.pause), .c (.int .i64 a.patch.new.resume), .c (.int .i64 a.patch.new.value.1), .c (.int .i64 a.patch.new.value.2), .c (.int .i64 a.patch.new.unit), .c (.int .i64 a.patch.new.to), .c (.bool a.patch.new.waived), .c (.int .i64 a.patch.days)]
def amV (a : Am) : AV := .agg [.c (.int .i64 a.number), .c (.int .i64 a.day), .c (.int .i64 a.known), .c (.int .i64 a.patch.kind), intsV a.patch.clauses, .c (.int .i64 a.patch.new.kind), .c (.int .i64 a.patch.new.role), .c (.int .i64 a.patch.new.act), .c (.int .i64 a.patch.new.need), cndsV a.patch.new.start, .c (.int .i64 a.patch.new.after), .c (.int .i64 a.patch.new.grace), .c (.bool a.patch.new.business), .c (.bool a.patch.new.final), .c (.int .i64 a.patch.new.pause), .c (.int .i64 a.patch.new.resume), .c (.int .i64 a.patch.new.value.1), .c (.int .i64 a.patch.new.value.2), .c (.int .i64 a.patch.new.unit), .c (.int .i64 a.patch.new.to), .c (.bool a.patch.new.waived), .c (.int .i64 a.patch.days)]
def clV (k : Cl) : AV := .agg [.c (.int .i64 k.kind), .c (.int .i64 k.role), .c (.int .i64 k.act), .c (.int .i64 k.need), cndsV k.start, .c (.int .i64 k.after), .c (.int .i64 k.grace), .c (.bool k.business), .c (.bool k.final), .c (.int .i64 k.pause), .c (.int .i64 k.resume), .c (.int .i64 k.value.1), .c (.int .i64 k.value.2), .c (.int .i64 k.unit), .c (.int .i64 k.to), .c (.bool k.waived)]
def amsV (l : List Am) : AV := rowL amC 22 l
def ptW (p : Pt) : Prop := inK .i64 p.kind ∧ (∀ z ∈ p.clauses, inK .i64 z) ∧ clW p.new ∧ inK .i64 p.days
def amW (a : Am) : Prop := inK .i64 a.number ∧ inK .i64 a.day ∧ inK .i64 a.known ∧ ptW a.patch
noncomputable def cPt : Codec Tryz.prog 34 Pt := (Codec.struct ty34_k rfl (.cons cInt (.cons cInts (.cons cCl (.cons cInt (.nil _ _))))) (by kernel_rfl)).map (fun x => ⟨x.1, x.2.1, x.2.2.1, x.2.2.2.1⟩) ptC ptW (fun _ => rfl) (fun _ => rfl) (fun _ h => ⟨h.1, h.2.1, h.2.2.1, h.2.2.2.1⟩)
noncomputable def cAm : Codec Tryz.prog 69 Am := (Codec.struct ty69_k rfl (.cons cInt (.cons cInt (.cons cInt (.cons cPt (.nil _ _))))) (by kernel_rfl)).map (fun x => ⟨x.1, x.2.1, x.2.2.1, x.2.2.2.1⟩) amC amW (fun _ => rfl) (fun _ => rfl) (fun _ h => ⟨h.1, h.2.1, h.2.2.1, h.2.2.2.1⟩)
noncomputable def cAms : Codec Tryz.prog 70 (List Am) := Codec.slice cAm ty70_k (by decide) (by kernel_rfl)
def zeroK : K := ⟨0, [], [], [], [], 0, []⟩
/-- Whether clauses are indices, increasing. -/
def incB (n : Int) : Int → List Int → Bool
  | _, [] => true
  | last, i :: l => decide (last < i) && decide (i < n) && incB n i l
def zeroCl (k : Cl) : Bool := (k.start.length : Int) == 0 && k.kind == 0 && k.role == 0 && k.act == 0 && k.need == 0 && k.after == 0 && k.grace == 0 && !k.business && !k.final && k.pause == 0 && k.resume == 0 && (k.value.1 == 0 && k.value.2 == 0) && k.unit == 0 && k.to == 0 && !k.waived
/-- What a kind of patches looks like: least, most, renewed, spanned. -/
structure Ef where
  least : Int
  most : Int
  renewed : Bool
  spanned : Bool
def efOf (kind : Int) : Option Ef :=
  if kind = 1 then some ⟨0, 0, true, false⟩ else if kind = 2 then some ⟨1, 1, true, false⟩ else if kind = 3 then some ⟨1, 1, false, false⟩
  else if kind = 4 then some ⟨1, 400, false, false⟩ else if kind = 5 then some ⟨1, 400, false, true⟩ else none
def fitsB (n : Int) (p : Pt) (e : Ef) : Bool :=
  decide (e.least ≤ (p.clauses.length : Int)) && decide ((p.clauses.length : Int) ≤ e.most) && incB n (-1) p.clauses && (e.renewed || zeroCl p.new) && (if e.spanned then decide (1 ≤ p.days) && decide (p.days ≤ 400) else p.days == 0)
def waiveL (cs : List Cl) (l : List Int) : List Cl := l.foldl (fun cs i => cs.set i.toNat { cs.getD i.toNat default with waived := true }) cs
def spanL (d : Int) (cs : List Cl) (l : List Int) : List Cl := l.foldl (fun cs i => cs.set i.toNat { cs.getD i.toNat default with after := d }) cs
def doP (cs : List Cl) (p : Pt) : List Cl :=
  if p.kind = 1 then cs ++ [p.new] else if p.kind = 2 then cs.set (p.clauses.getD 0 default).toNat p.new else if p.kind = 5 then spanL p.days cs p.clauses else waiveL cs p.clauses
noncomputable def applyR (k : K) (p : Pt) : K × Int :=
  if (kValid k).1 ≠ 0 then (zeroK, 1)
  else match efOf p.kind with
    | none => (zeroK, 1)
    | some e =>
      if fitsB k.clauses.length p e = false then (zeroK, 1)
      else if p.kind = 1 ∧ k.clauses.length = 400 then (zeroK, 3)
      else if (kValid { k with clauses := doP k.clauses p }).1 ≠ 0 then (zeroK, 1)
      else ({ k with clauses := doP k.clauses p }, 0)
end Go.Proofs.YtofdehlikigonaaGreat
end
section
/- The order of amendments, in plain Lean. -/
namespace Go.Proofs.YtofdehlikigonaaGreat
open Go.Eng
set_option maxRecDepth 10000
set_option linter.unusedSimpArgs false
set_option linter.unusedVariables false
section
variable {α : Type}
/-- x, before the first that is not less. -/
def insS (le : α → α → Bool) (x : α) : List α → List α
  | [] => [x]
  | y :: l => if le x y = true then x :: y :: l else y :: insS le x l
def sortS (le : α → α → Bool) : List α → List α
  | [] => []
  | x :: l => insS le x (sortS le l)
theorem insS_perm (le : α → α → Bool) (x : α) : ∀ l, (insS le x l).Perm (x :: l)
  | [] => List.Perm.refl _
  | y :: l => by
    unfold insS
    split
    · exact List.Perm.refl _
    · exact ((insS_perm le x l).cons y).trans (List.Perm.swap x y l)
theorem sortS_perm (le : α → α → Bool) : ∀ l, (sortS le l).Perm l
  | [] => List.Perm.refl _
  | x :: l => (insS_perm le x _).trans ((sortS_perm le l).cons x)
theorem insS_sorted {le : α → α → Bool} (ht : ∀ a b, le a b = true ∨ le b a = true) (htr : ∀ a b c, le a b = true → le b c = true → le a c = true) (x : α) :
    ∀ l, l.Pairwise (fun a b => le a b = true) → (insS le x l).Pairwise (fun a b => le a b = true)
  | [], _ => by simp [insS]
  | y :: l, h => by
    obtain ⟨h1, h2⟩ := List.pairwise_cons.1 h
    unfold insS
    split
    · rename_i hxy
      exact List.pairwise_cons.2 ⟨fun z hz => by
        rcases List.mem_cons.1 hz with rfl | hz
        · exact hxy
        · exact htr _ _ _ hxy (h1 z hz), h⟩
    · rename_i hxy
      refine List.pairwise_cons.2 ⟨fun z hz => ?_, insS_sorted ht htr x l h2⟩
      rcases List.mem_cons.1 ((insS_perm le x l).mem_iff.1 hz) with rfl | hz
      · rcases ht y z with h3 | h3
        · exact h3
        · exact absurd h3 hxy
      · exact h1 z hz
theorem sortS_sorted {le : α → α → Bool} (ht : ∀ a b, le a b = true ∨ le b a = true) (htr : ∀ a b c, le a b = true → le b c = true → le a c = true) :
    ∀ l, (sortS le l).Pairwise (fun a b => le a b = true)
  | [] => List.Pairwise.nil
  | x :: l => insS_sorted ht htr x _ (sortS_sorted ht htr l)
/-- The same order by what is seen of the elements. -/
theorem insS_map {β : Type} {le : α → α → Bool} {le' : β → β → Bool} (g : α → β) (x : α) : ∀ l, (∀ y ∈ l, le x y = le' (g x) (g y)) → (insS le x l).map g = insS le' (g x) (l.map g)
  | [], _ => rfl
  | y :: l, h => by
    unfold insS
    rw [h y (.head _)]
    show _ = if le' (g x) (g y) = true then _ else _
    split
    · rfl
    · rw [List.map_cons, insS_map g x l fun z hz => h z (.tail _ hz)]
/-- In a sorted list, those that meet p stand as they do alone. -/
theorem insS_filter {le : α → α → Bool} (htr : ∀ a b c, le a b = true → le b c = true → le a c = true) (p : α → Bool) (x : α) : ∀ l, l.Pairwise (fun a b => le a b = true) →
    (insS le x l).filter p = if p x = true then insS le x (l.filter p) else l.filter p
  | [], _ => by by_cases h : p x = true <;> simp [insS, h]
  | y :: l, h => by
    obtain ⟨h1, h2⟩ := List.pairwise_cons.1 h
    have ih := insS_filter htr p x l h2
    unfold insS
    by_cases hxy : le x y = true
    · rw [if_pos hxy]
      by_cases hx : p x = true
      · rw [if_pos hx, List.filter_cons_of_pos hx]
        have : ∀ (m : List α), (∀ z ∈ m, le x z = true) → insS le x m = x :: m := fun m hm => by
          cases m with
          | nil => rfl
          | cons z m => unfold insS; rw [if_pos (hm z (.head _))]
        have hall : ∀ z ∈ (y :: l), le x z = true := fun z hz => by
          rcases List.mem_cons.1 hz with rfl | hz
          · exact hxy
          · exact htr _ _ _ hxy (h1 z hz)
        rw [show (match List.filter p (y :: l) with | [] => [x] | y :: l => if le x y = true then x :: y :: l else y :: insS le x l) = insS le x (List.filter p (y :: l)) from by cases List.filter p (y :: l) <;> rfl]
        rw [this _ fun z hz => hall z (List.mem_filter.1 hz).1]
      · rw [if_neg hx, List.filter_cons_of_neg hx]
    · rw [if_neg hxy]
      by_cases hy : p y = true
      · rw [List.filter_cons_of_pos hy, List.filter_cons_of_pos hy, ih]
        by_cases hx : p x = true
        · rw [if_pos hx, if_pos hx]
          show _ = if le x y = true then _ else _
          rw [if_neg hxy]
        · rw [if_neg hx, if_neg hx]
      · rw [List.filter_cons_of_neg hy, List.filter_cons_of_neg hy, ih]
        by_cases hx : p x = true
        · rw [if_pos hx, if_pos hx]
          cases hl : List.filter p l <;> rfl
        · rw [if_neg hx, if_neg hx]
theorem sortS_filter {le : α → α → Bool} (ht : ∀ a b, le a b = true ∨ le b a = true) (htr : ∀ a b c, le a b = true → le b c = true → le a c = true) (p : α → Bool) : ∀ l, (sortS le l).filter p = sortS le (l.filter p)
  | [] => rfl
  | x :: l => by
    show (insS le x (sortS le l)).filter p = _
    rw [insS_filter htr p x _ (sortS_sorted ht htr l), sortS_filter ht htr p l]
    by_cases hx : p x = true
    · rw [if_pos hx, List.filter_cons_of_pos hx]; rfl
    · rw [if_neg hx, List.filter_cons_of_neg hx]
/-- There is one sorted order. -/
theorem sorted_one {le : α → α → Bool} {l l' : List α} (hp : l.Perm l') (ha : ∀ a ∈ l, ∀ b ∈ l, le a b = true → le b a = true → a = b) (h : l.Pairwise (fun a b => le a b = true)) (h' : l'.Pairwise (fun a b => le a b = true)) : l = l' :=
  List.Perm.eq_of_pairwise (le := fun a b => le a b = true) (fun a b h1 h2 h3 h4 => ha a h1 b (hp.mem_iff.2 h2) h3 h4) h h' hp
end
/-- By day, then by number. -/
def dnLe (a b : Am) : Bool := decide (a.day < b.day) || (a.day == b.day && decide (a.number ≤ b.number))
/-- By day, then by number, then by index. -/
def amLe (l : List Am) (i j : Nat) : Bool :=
  decide ((l.getD i default).day < (l.getD j default).day) || ((l.getD i default).day == (l.getD j default).day && (decide ((l.getD i default).number < (l.getD j default).number) || ((l.getD i default).number == (l.getD j default).number && decide (i ≤ j))))
def ordL (l : List Am) : List Nat := sortS (amLe l) (List.range l.length)
theorem dnLe_tot (a b : Am) : dnLe a b = true ∨ dnLe b a = true := by
  simp only [dnLe, Bool.or_eq_true, Bool.and_eq_true, decide_eq_true_eq, beq_iff_eq]; omega
theorem dnLe_tr (a b c : Am) : dnLe a b = true → dnLe b c = true → dnLe a c = true := by
  simp only [dnLe, Bool.or_eq_true, Bool.and_eq_true, decide_eq_true_eq, beq_iff_eq]; omega
theorem amLe_tot (l : List Am) (i j : Nat) : amLe l i j = true ∨ amLe l j i = true := by
  simp only [amLe, Bool.or_eq_true, Bool.and_eq_true, decide_eq_true_eq, beq_iff_eq]; omega
theorem amLe_tr (l : List Am) (i j k : Nat) : amLe l i j = true → amLe l j k = true → amLe l i k = true := by
  simp only [amLe, Bool.or_eq_true, Bool.and_eq_true, decide_eq_true_eq, beq_iff_eq]; omega
theorem amLe_as (l : List Am) (i j : Nat) : amLe l i j = true → amLe l j i = true → i = j := by
  simp only [amLe, Bool.or_eq_true, Bool.and_eq_true, decide_eq_true_eq, beq_iff_eq]; omega
theorem ordL_perm (l : List Am) : (ordL l).Perm (List.range l.length) := sortS_perm _ _
theorem ordL_sorted (l : List Am) : (ordL l).Pairwise (fun i j => amLe l i j = true) := sortS_sorted (amLe_tot l) (amLe_tr l) _
theorem ordL_len (l : List Am) : (ordL l).length = l.length := by rw [(ordL_perm l).length_eq, List.length_range]
theorem ordL_lt {l : List Am} {i : Nat} (h : i ∈ ordL l) : i < l.length := List.mem_range.1 ((ordL_perm l).mem_iff.1 h)
theorem ordL_one {l : List Am} {o : List Nat} (hp : o.Perm (List.range l.length)) (hs : o.Pairwise (fun i j => amLe l i j = true)) : o = ordL l :=
  sorted_one (hp.trans (ordL_perm l).symm) (fun a _ b _ h1 h2 => amLe_as l a b h1 h2) hs (ordL_sorted l)
theorem sortS_map_range (l : List Am) : ∀ (n k : Nat), k + n = l.length → (sortS (amLe l) (List.range' k n)).map (fun i => l.getD i default) = sortS dnLe (l.drop k)
  | 0, k, h => by rw [List.drop_eq_nil_of_le (by omega)]; rfl
  | n + 1, k, h => by
    have hk : k < l.length := by omega
    rw [List.range'_succ, List.drop_eq_getElem_cons hk]
    show (insS (amLe l) k (sortS (amLe l) (List.range' (k + 1) n))).map _ = insS dnLe l[k] (sortS dnLe (l.drop (k + 1)))
    rw [insS_map (le' := dnLe) (fun i => l.getD i default) k _ fun y hy => ?_, sortS_map_range l n (k + 1) (by omega)]
    · congr 1
      simp [List.getD, hk]
    · have hy := (sortS_perm (amLe l) _).mem_iff.1 hy
      rw [List.mem_range'_1] at hy
      simp only [amLe, dnLe]
      have e1 : ∀ (a b : Int), (decide (a < b) || (a == b && decide (k ≤ y))) = decide (a ≤ b) := fun a b => by
        rw [Bool.eq_iff_iff]; simp only [Bool.or_eq_true, Bool.and_eq_true, decide_eq_true_eq, beq_iff_eq]; omega
      rw [e1]
/-- The amendments in the order: the list, sorted by day and number, those alike as they stood. -/
def seqA (l : List Am) : List Am := (ordL l).map (fun i => l.getD i default)
theorem seqA_eq (l : List Am) : seqA l = sortS dnLe l := by
  have := sortS_map_range l l.length 0 (by omega)
  rw [List.drop_zero, ← List.range_eq_range'] at this
  exact this
theorem seqA_filter (p : Am → Bool) (l : List Am) : (seqA l).filter p = seqA (l.filter p) := by
  rw [seqA_eq, seqA_eq, sortS_filter dnLe_tot dnLe_tr]
theorem seqA_perm (l : List Am) : (seqA l).Perm l := by rw [seqA_eq]; exact sortS_perm _ _
theorem seqA_sorted (l : List Am) : (seqA l).Pairwise (fun a b => dnLe a b = true) := by rw [seqA_eq]; exact sortS_sorted dnLe_tot dnLe_tr _
end Go.Proofs.YtofdehlikigonaaGreat
end
section
/- Contracts: slices.Clone. -/
namespace Go.Proofs.YtofdehlikigonaaGreat
open Go.Eng
set_option maxRecDepth 10000
set_option linter.unusedSimpArgs false
set_option linter.unusedVariables false
theorem cln_ints (l : List Int) (hl : l.length ≤ 1000000) : Does Tryz.prog 31 [intsV l] (intsV l) := by
  refine Does.mk (fun d => Nat.beq d 5) TT_ok Tryz.func31 rfl (by kernel_rfl) Tryz.ntmps31 rfl rfl fun E hT hE hN hR => ?_
  have hm : E.P.follows .mixedOrders = true := by rw [hE]; kernel_rfl
  by_cases h0 : l.length = 0
  · obtain rfl : l = [] := List.length_eq_zero_iff.1 h0
    refine XK.rsNil 0 rfl fun A cap hc => ?_
    (repeat (first | refine XK.norm rfl rfl ?_ | refine XK.rgnA hT rfl rfl rfl ?_ | refine XK.rgnB hT hm rfl rfl rfl ?_)); refine XK.cond rfl (fun h1 => ?_) (fun h1 => ?_)
    · (repeat (first | refine XK.norm rfl rfl ?_ | refine XK.rgnA hT rfl rfl rfl ?_ | refine XK.rgnB hT hm rfl rfl rfl ?_))
      refine XK.weak (Weak.rsNil 2 1 (fun i => iC (([] : List Int).getD i default)) (Nat.zero_le _) rfl) ?_
      (repeat (first | refine XK.norm rfl rfl ?_ | refine XK.rgnA hT rfl rfl rfl ?_ | refine XK.rgnB hT hm rfl rfl rfl ?_))
      (first | refine XK.out rfl rfl rfl ?_ | refine XK.outN rfl rfl rfl ?_)
      rfl
    · refine XK.weak (Weak.rsNil 0 1 (fun i => iC (([] : List Int).getD i default)) hc rfl) ?_
      (repeat (first | refine XK.norm rfl rfl ?_ | refine XK.rgnA hT rfl rfl rfl ?_ | refine XK.rgnB hT hm rfl rfl rfl ?_))
      refine XK.weak (Weak.frozen (k := 21) hN rfl rfl) ?_
      (repeat (first | refine XK.norm rfl rfl ?_ | refine XK.rgnA hT rfl rfl rfl ?_ | refine XK.rgnB hT hm rfl rfl rfl ?_))
      (first | refine XK.outL rfl rfl rfl ?_ | refine XK.outLN rfl rfl rfl ?_)
      exact ⟨rfl, rfl, fun i hi => absurd hi (Nat.not_lt_zero _)⟩
  · (repeat (first | refine XK.norm rfl rfl ?_ | refine XK.rgnA hT rfl rfl rfl ?_ | refine XK.rgnB hT hm rfl rfl rfl ?_)); refine XK.cond rfl (fun h1 => ?_) (fun h1 => ?_)
    · cases h1
    · (repeat (first | refine XK.norm rfl rfl ?_ | refine XK.rgnA hT rfl rfl rfl ?_ | refine XK.rgnB hT hm rfl rfl rfl ?_))
      refine XK.weak (Weak.frozen (k := 21) hN rfl rfl) ?_
      (repeat (first | refine XK.norm rfl rfl ?_ | refine XK.rgnA hT rfl rfl rfl ?_ | refine XK.rgnB hT hm rfl rfl rfl ?_))
      (first | refine XK.outL rfl rfl rfl ?_ | refine XK.outLN rfl rfl rfl ?_)
      exact ⟨rfl, Nat.zero_add _, fun i hi => by cases i <;> rfl⟩
theorem cln_units (l : List U) (hl : l.length ≤ 1000000) : Does Tryz.prog 32 [unitsV l] (unitsV l) := by
  refine Does.mk (fun d => Nat.beq d 5) TT_ok Tryz.func32 rfl (by kernel_rfl) Tryz.ntmps32 rfl rfl fun E hT hE hN hR => ?_
  have hm : E.P.follows .mixedOrders = true := by rw [hE]; kernel_rfl
  by_cases h0 : l.length = 0
  · obtain rfl : l = [] := List.length_eq_zero_iff.1 h0
    refine XK.rsNil 0 rfl fun A cap hc => ?_
    (repeat (first | refine XK.norm rfl rfl ?_ | refine XK.rgnA hT rfl rfl rfl ?_ | refine XK.rgnB hT hm rfl rfl rfl ?_)); refine XK.cond rfl (fun h1 => ?_) (fun h1 => ?_)
    · (repeat (first | refine XK.norm rfl rfl ?_ | refine XK.rgnA hT rfl rfl rfl ?_ | refine XK.rgnB hT hm rfl rfl rfl ?_))
      refine XK.weak (Weak.rsNil 2 5 (fun i => uc (([] : List U).getD i default)) (Nat.zero_le _) rfl) ?_
      (repeat (first | refine XK.norm rfl rfl ?_ | refine XK.rgnA hT rfl rfl rfl ?_ | refine XK.rgnB hT hm rfl rfl rfl ?_))
      (first | refine XK.out rfl rfl rfl ?_ | refine XK.outN rfl rfl rfl ?_)
      rfl
    · refine XK.weak (Weak.rsNil 0 5 (fun i => uc (([] : List U).getD i default)) hc rfl) ?_
      (repeat (first | refine XK.norm rfl rfl ?_ | refine XK.rgnA hT rfl rfl rfl ?_ | refine XK.rgnB hT hm rfl rfl rfl ?_))
      refine XK.weak (Weak.frozen (k := 21) hN rfl rfl) ?_
      (repeat (first | refine XK.norm rfl rfl ?_ | refine XK.rgnA hT rfl rfl rfl ?_ | refine XK.rgnB hT hm rfl rfl rfl ?_))
      (first | refine XK.outL rfl rfl rfl ?_ | refine XK.outLN rfl rfl rfl ?_)
      exact ⟨rfl, rfl, fun i hi => absurd hi (Nat.not_lt_zero _)⟩
  · (repeat (first | refine XK.norm rfl rfl ?_ | refine XK.rgnA hT rfl rfl rfl ?_ | refine XK.rgnB hT hm rfl rfl rfl ?_)); refine XK.cond rfl (fun h1 => ?_) (fun h1 => ?_)
    · cases h1
    · (repeat (first | refine XK.norm rfl rfl ?_ | refine XK.rgnA hT rfl rfl rfl ?_ | refine XK.rgnB hT hm rfl rfl rfl ?_))
      refine XK.weak (Weak.frozen (k := 21) hN rfl rfl) ?_
      (repeat (first | refine XK.norm rfl rfl ?_ | refine XK.rgnA hT rfl rfl rfl ?_ | refine XK.rgnB hT hm rfl rfl rfl ?_))
      (first | refine XK.outL rfl rfl rfl ?_ | refine XK.outLN rfl rfl rfl ?_)
      exact ⟨rfl, Nat.zero_add _, fun i hi => by cases i <;> rfl⟩
theorem cln_acts (l : List Act) (hl : l.length ≤ 1000000) : Does Tryz.prog 33 [actsV l] (actsV l) := by
  refine Does.mk (fun d => Nat.beq d 5) TT_ok Tryz.func33 rfl (by kernel_rfl) Tryz.ntmps33 rfl rfl fun E hT hE hN hR => ?_
  have hm : E.P.follows .mixedOrders = true := by rw [hE]; kernel_rfl
  by_cases h0 : l.length = 0
  · obtain rfl : l = [] := List.length_eq_zero_iff.1 h0
    refine XK.rsNil 0 rfl fun A cap hc => ?_
    (repeat (first | refine XK.norm rfl rfl ?_ | refine XK.rgnA hT rfl rfl rfl ?_ | refine XK.rgnB hT hm rfl rfl rfl ?_)); refine XK.cond rfl (fun h1 => ?_) (fun h1 => ?_)
    · (repeat (first | refine XK.norm rfl rfl ?_ | refine XK.rgnA hT rfl rfl rfl ?_ | refine XK.rgnB hT hm rfl rfl rfl ?_))
      refine XK.weak (Weak.rsNil 2 7 (fun i => actC (([] : List Act).getD i default)) (Nat.zero_le _) rfl) ?_
      (repeat (first | refine XK.norm rfl rfl ?_ | refine XK.rgnA hT rfl rfl rfl ?_ | refine XK.rgnB hT hm rfl rfl rfl ?_))
      (first | refine XK.out rfl rfl rfl ?_ | refine XK.outN rfl rfl rfl ?_)
      rfl
    · refine XK.weak (Weak.rsNil 0 7 (fun i => actC (([] : List Act).getD i default)) hc rfl) ?_
      (repeat (first | refine XK.norm rfl rfl ?_ | refine XK.rgnA hT rfl rfl rfl ?_ | refine XK.rgnB hT hm rfl rfl rfl ?_))
      refine XK.weak (Weak.frozen (k := 21) hN rfl rfl) ?_
      (repeat (first | refine XK.norm rfl rfl ?_ | refine XK.rgnA hT rfl rfl rfl ?_ | refine XK.rgnB hT hm rfl rfl rfl ?_))
      (first | refine XK.outL rfl rfl rfl ?_ | refine XK.outLN rfl rfl rfl ?_)
      exact ⟨rfl, rfl, fun i hi => absurd hi (Nat.not_lt_zero _)⟩
  · (repeat (first | refine XK.norm rfl rfl ?_ | refine XK.rgnA hT rfl rfl rfl ?_ | refine XK.rgnB hT hm rfl rfl rfl ?_)); refine XK.cond rfl (fun h1 => ?_) (fun h1 => ?_)
    · cases h1
    · (repeat (first | refine XK.norm rfl rfl ?_ | refine XK.rgnA hT rfl rfl rfl ?_ | refine XK.rgnB hT hm rfl rfl rfl ?_))
      refine XK.weak (Weak.frozen (k := 21) hN rfl rfl) ?_
      (repeat (first | refine XK.norm rfl rfl ?_ | refine XK.rgnA hT rfl rfl rfl ?_ | refine XK.rgnB hT hm rfl rfl rfl ?_))
      (first | refine XK.outL rfl rfl rfl ?_ | refine XK.outLN rfl rfl rfl ?_)
      exact ⟨rfl, Nat.zero_add _, fun i hi => by cases i <;> rfl⟩
theorem cln_cls (l : List Cl) (hl : l.length ≤ 1000000) : Does Tryz.prog 60 [clsV l] (clsV l) := by
  refine Does.mk (fun d => Nat.beq d 5) TT_ok Tryz.func60 rfl (by kernel_rfl) Tryz.ntmps60 rfl rfl fun E hT hE hN hR => ?_
  have hm : E.P.follows .mixedOrders = true := by rw [hE]; kernel_rfl
  by_cases h0 : l.length = 0
  · obtain rfl : l = [] := List.length_eq_zero_iff.1 h0
    refine XK.rsNil 0 rfl fun A cap hc => ?_
    (repeat (first | refine XK.norm rfl rfl ?_ | refine XK.rgnA hT rfl rfl rfl ?_ | refine XK.rgnB hT hm rfl rfl rfl ?_)); refine XK.cond rfl (fun h1 => ?_) (fun h1 => ?_)
    · (repeat (first | refine XK.norm rfl rfl ?_ | refine XK.rgnA hT rfl rfl rfl ?_ | refine XK.rgnB hT hm rfl rfl rfl ?_))
      refine XK.weak (Weak.rsNil 2 16 (fun i => clC (([] : List Cl).getD i default)) (Nat.zero_le _) rfl) ?_
      (repeat (first | refine XK.norm rfl rfl ?_ | refine XK.rgnA hT rfl rfl rfl ?_ | refine XK.rgnB hT hm rfl rfl rfl ?_))
      (first | refine XK.out rfl rfl rfl ?_ | refine XK.outN rfl rfl rfl ?_)
      rfl
    · refine XK.weak (Weak.rsNil 0 16 (fun i => clC (([] : List Cl).getD i default)) hc rfl) ?_
      (repeat (first | refine XK.norm rfl rfl ?_ | refine XK.rgnA hT rfl rfl rfl ?_ | refine XK.rgnB hT hm rfl rfl rfl ?_))
      refine XK.weak (Weak.frozen (k := 21) hN rfl rfl) ?_
      (repeat (first | refine XK.norm rfl rfl ?_ | refine XK.rgnA hT rfl rfl rfl ?_ | refine XK.rgnB hT hm rfl rfl rfl ?_))
      (first | refine XK.outL rfl rfl rfl ?_ | refine XK.outLN rfl rfl rfl ?_)
      exact ⟨rfl, rfl, fun i hi => absurd hi (Nat.not_lt_zero _)⟩
  · (repeat (first | refine XK.norm rfl rfl ?_ | refine XK.rgnA hT rfl rfl rfl ?_ | refine XK.rgnB hT hm rfl rfl rfl ?_)); refine XK.cond rfl (fun h1 => ?_) (fun h1 => ?_)
    · cases h1
    · (repeat (first | refine XK.norm rfl rfl ?_ | refine XK.rgnA hT rfl rfl rfl ?_ | refine XK.rgnB hT hm rfl rfl rfl ?_))
      refine XK.weak (Weak.frozen (k := 21) hN rfl rfl) ?_
      (repeat (first | refine XK.norm rfl rfl ?_ | refine XK.rgnA hT rfl rfl rfl ?_ | refine XK.rgnB hT hm rfl rfl rfl ?_))
      (first | refine XK.outL rfl rfl rfl ?_ | refine XK.outLN rfl rfl rfl ?_)
      exact ⟨rfl, Nat.zero_add _, fun i hi => by cases i <;> rfl⟩
theorem cln_cnds (l : List Cnd) (hl : l.length ≤ 1000000) : Does Tryz.prog 55 [cndsV l] (cndsV l) := by
  refine Does.mk (fun d => Nat.beq d 5) TT_ok Tryz.func55 rfl (by kernel_rfl) Tryz.ntmps55 rfl rfl fun E hT hE hN hR => ?_
  have hm : E.P.follows .mixedOrders = true := by rw [hE]; kernel_rfl
  by_cases h0 : l.length = 0
  · obtain rfl : l = [] := List.length_eq_zero_iff.1 h0
    refine XK.rsNil 0 rfl fun A cap hc => ?_
    (repeat (first | refine XK.norm rfl rfl ?_ | refine XK.rgnA hT rfl rfl rfl ?_ | refine XK.rgnB hT hm rfl rfl rfl ?_)); refine XK.cond rfl (fun h1 => ?_) (fun h1 => ?_)
    · (repeat (first | refine XK.norm rfl rfl ?_ | refine XK.rgnA hT rfl rfl rfl ?_ | refine XK.rgnB hT hm rfl rfl rfl ?_))
      refine XK.weak (Weak.rsNil 2 2 (fun i => cndC (([] : List Cnd).getD i default)) (Nat.zero_le _) rfl) ?_
      (repeat (first | refine XK.norm rfl rfl ?_ | refine XK.rgnA hT rfl rfl rfl ?_ | refine XK.rgnB hT hm rfl rfl rfl ?_))
      (first | refine XK.out rfl rfl rfl ?_ | refine XK.outN rfl rfl rfl ?_)
      rfl
    · refine XK.weak (Weak.rsNil 0 2 (fun i => cndC (([] : List Cnd).getD i default)) hc rfl) ?_
      (repeat (first | refine XK.norm rfl rfl ?_ | refine XK.rgnA hT rfl rfl rfl ?_ | refine XK.rgnB hT hm rfl rfl rfl ?_))
      refine XK.weak (Weak.frozen (k := 21) hN rfl rfl) ?_
      (repeat (first | refine XK.norm rfl rfl ?_ | refine XK.rgnA hT rfl rfl rfl ?_ | refine XK.rgnB hT hm rfl rfl rfl ?_))
      (first | refine XK.outL rfl rfl rfl ?_ | refine XK.outLN rfl rfl rfl ?_)
      exact ⟨rfl, rfl, fun i hi => absurd hi (Nat.not_lt_zero _)⟩
  · (repeat (first | refine XK.norm rfl rfl ?_ | refine XK.rgnA hT rfl rfl rfl ?_ | refine XK.rgnB hT hm rfl rfl rfl ?_)); refine XK.cond rfl (fun h1 => ?_) (fun h1 => ?_)
    · cases h1
    · (repeat (first | refine XK.norm rfl rfl ?_ | refine XK.rgnA hT rfl rfl rfl ?_ | refine XK.rgnB hT hm rfl rfl rfl ?_))
      refine XK.weak (Weak.frozen (k := 21) hN rfl rfl) ?_
      (repeat (first | refine XK.norm rfl rfl ?_ | refine XK.rgnA hT rfl rfl rfl ?_ | refine XK.rgnB hT hm rfl rfl rfl ?_))
      (first | refine XK.outL rfl rfl rfl ?_ | refine XK.outLN rfl rfl rfl ?_)
      exact ⟨rfl, Nat.zero_add _, fun i hi => by cases i <;> rfl⟩
theorem clnM_cls (l : List Cl) (h0 : 0 < l.length) (hl : l.length ≤ 1000000) : DoesM Tryz.prog 60 [clsV l] [] (.vec 0 0) [.vec 32 16 0 l.length (fun i => clC (l.getD i default))] := by
  refine DoesM.mk (fun d => Nat.beq d 5) 100 TT_ok Tryz.func60 rfl (by kernel_rfl) Tryz.ntmps60 rfl rfl rfl fun E hT hE hN hR => ?_
  have hm : E.P.follows .mixedOrders = true := by rw [hE]; kernel_rfl
  (repeat (first | refine XK.norm rfl rfl ?_ | refine XK.rgnA hT rfl rfl rfl ?_ | refine XK.rgnB hT hm rfl rfl rfl ?_)); refine XK.cond rfl (fun h1 => ?_) (fun h1 => ?_)
  · cases h1
  · (repeat (first | refine XK.norm rfl rfl ?_ | refine XK.rgnA hT rfl rfl rfl ?_ | refine XK.rgnB hT hm rfl rfl rfl ?_))
    refine XK.weak (Weak.trans (Weak.stamp (k := 121) (t := 0) hN rfl rfl) (Weak.of (L := [(2, .vec 121 0)]) (O := [(121, .vec 32 16 0 l.length (fun i => clC (l.getD i default)))]) (nx := 1000) (nt := 8) (md := fun _ => false) hN rfl rfl rfl (by (repeat' (first | exact rfl | exact AvIs.refl _ | exact trivial | exact fun _ _ => rfl | exact fun _ _ => ⟨rfl, AvIs.refl _⟩ | refine ⟨?_, ?_⟩))) ⟨⟨rfl, rfl, rfl⟩, Nat.zero_add _, fun j hj => by rcases j with _ | j <;> rfl⟩)) ?_
    (first | refine XK.outR [121] hN rfl rfl rfl ?_ rfl rfl ?_ | refine XK.outRN [121] hN rfl rfl rfl ?_ rfl rfl ?_)
    · (repeat' (first | exact rfl | exact AvIs.refl _ | exact trivial | exact fun _ _ => rfl | exact fun _ _ => ⟨rfl, AvIs.refl _⟩ | refine ⟨?_, ?_⟩))
    · (repeat' (first | exact rfl | exact AvIs.refl _ | exact trivial | exact fun _ _ => rfl | exact fun _ _ => ⟨rfl, AvIs.refl _⟩ | refine ⟨?_, ?_⟩))
end Go.Proofs.YtofdehlikigonaaGreat
end
