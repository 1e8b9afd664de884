import Derived.Test.YtlhmgphgnedlkaaGreatZz12
import Derived.Test.YtlhmgphgnedlkaaGreatZz9
import Derived.Test.YtlhmgphgnedlkaaGreatTys
import Derived.KernelRfl
import Derived.Lib.Mul64
import Derived.Laws.Bits64b
set_option linter.unusedSimpArgs false
set_option linter.unusedVariables false
section
/- The engine, part 2: short words for the steps of a walk. -/
namespace Go.Eng
/-- Goals of frames and objects. -/
theorem frI {p : Prop} (h : p := by (repeat' (first | exact rfl | exact AvIs.refl _ | exact trivial | exact fun _ _ => rfl | exact fun _ _ => ⟨rfl, AvIs.refl _⟩ | refine ⟨?_, ?_⟩))) : p := h
theorem mixO {E : Env} {P : Program} (hE : E.P = P) (h : P.follows .mixedOrders = true := by kernel_rfl) : E.P.follows .mixedOrders = true := by rw [hE]; exact h
section
variable {E : Env} {Q : Exit → ST → Prop} {ops : Array Oper} {k k' : List It} {st : ST} {T : TE} {tr0 : List (EffM × (List Nat × List Nat))}
theorem XK.n (h : XK E k' Q st) (h1 : nrmB k = true := by exact rfl) (h2 : nrm 200 k = some k' := by exact rfl) : XK E k Q st := XK.norm h1 h2 h
theorem XK.a {id : Nat} {fr fr' : Nat → AV} {ob ob' : Nat → Option Ob} {nx nt : Nat} {md : Nat → Bool} {obl obl' : List Prop} (h : XK E k Q ⟨fr', ob', nx + nt, nt, md⟩) (hT : TOk E.P T := by assumption)
    (hd : ops.toList.all (dstOk ⟨fun _ => .junk, fun _ => none, nx, nt, md⟩) = true := by exact rfl) (hr : runF T ops.toList nx nt md [] fr ob ops.toList = ⟨obl, fr', ob', []⟩ := by exact rfl) (hf : frcR obl [] = some obl' := by exact rfl)
    (ho : AllP obl' := by (first | exact trivial | (simp [AllP, impG]; done) | (simp only [AllP, List.append, List.nil_append, List.cons_append, inK, Go.Eng.tdivE, Go.Eng.tmodE, Int.toNat_natCast]; omega) | (simp [AllP, impG, inK, Go.Eng.tdivE, Go.Eng.tmodE]; omega) | ((repeat (first | (focus (first | omega | (intro i hi; first | rfl | (cases Nat.lt_one_iff.1 hi; rfl) | (rcases i with _ | _ | _ | _ | i <;> first | rfl | (exfalso; omega))) | (simp <;> omega))) | refine ⟨?_, ?_⟩)); done) | (simp only [AllP, impG, inK]; grind))) : XK E (.code (.region id ops false) :: k) Q ⟨fr, ob, nx, nt, md⟩ :=
  XK.rgn (hT := hT) (hd := hd) (hr := hr) (hf := hf) (ho := ho) (h := h)
theorem XK.b {id : Nat} {fr fr' : Nat → AV} {ob ob' : Nat → Option Ob} {nx nt : Nat} {md : Nat → Bool} {obl obl' : List Prop} (h : XK E k Q ⟨fr', ob', nx + nt, nt, md⟩) (hT : TOk E.P T := by assumption) (hm : E.P.follows .mixedOrders = true := by assumption)
    (hd : ops.toList.all (dstOk ⟨fun _ => .junk, fun _ => none, nx, nt, md⟩) = true := by exact rfl) (hr : runF T ops.toList nx nt md [] fr ob ops.toList = ⟨obl, fr', ob', []⟩ := by exact rfl) (hf : frcR obl [] = some obl' := by exact rfl)
    (hc : checkD [] [] ops.toList (runD T ops.toList nx nt md [] [] fr ob ops.toList).tr = true := by kernel_rfl)
    (ho : AllP obl' := by (first | exact trivial | (simp [AllP, impG]; done) | (simp only [AllP, List.append, List.nil_append, List.cons_append, inK, Go.Eng.tdivE, Go.Eng.tmodE, Int.toNat_natCast]; omega) | (simp [AllP, impG, inK, Go.Eng.tdivE, Go.Eng.tmodE]; omega) | ((repeat (first | (focus (first | omega | (intro i hi; first | rfl | (cases Nat.lt_one_iff.1 hi; rfl) | (rcases i with _ | _ | _ | _ | i <;> first | rfl | (exfalso; omega))) | (simp <;> omega))) | refine ⟨?_, ?_⟩)); done) | (simp only [AllP, impG, inK]; grind))) : XK E (.code (.region id ops true) :: k) Q ⟨fr, ob, nx, nt, md⟩ :=
  XK.rgnD (hT := hT) (hm := hm) (hd := hd) (hr := hr) (hf := hf) (hc := hc) (ho := ho) (h := h)
theorem XL.g {l rest : List Oper} {fr fr' : Nat → AV} {ob ob' : Nat → Option Ob} {nx nt : Nat} {md : Nat → Bool} {obl obl' : List Prop} (h : XL E ops Q rest ⟨fr', ob', nx, nt, md⟩) (hT : TOk E.P T := by assumption)
    (hd : ops.toList.all (dstOk ⟨fun _ => .junk, fun _ => none, nx, nt, md⟩) = true := by exact rfl) (hm : ops.toList.drop (ops.toList.length - l.length) = l := by exact rfl) (hr : runF T ops.toList nx nt md [] fr ob l = ⟨obl, fr', ob', rest⟩ := by exact rfl) (hf : frcR obl [] = some obl' := by exact rfl)
    (ho : AllP obl' := by (first | exact trivial | (simp [AllP, impG]; done) | (simp only [AllP, List.append, List.nil_append, List.cons_append, inK, Go.Eng.tdivE, Go.Eng.tmodE, Int.toNat_natCast]; omega) | (simp [AllP, impG, inK, Go.Eng.tdivE, Go.Eng.tmodE]; omega) | ((repeat (first | (focus (first | omega | (intro i hi; first | rfl | (cases Nat.lt_one_iff.1 hi; rfl) | (rcases i with _ | _ | _ | _ | i <;> first | rfl | (exfalso; omega))) | (simp <;> omega))) | refine ⟨?_, ?_⟩)); done) | (simp only [AllP, impG, inK]; grind))) : XL E ops Q l ⟨fr, ob, nx, nt, md⟩ :=
  XL.go (hT := hT) (hd := hd) (hm := hm) (hr := hr) (hf := hf) (ho := ho) (h := h)
end
end Go.Eng
end
section
/- What the arithmetic of package ratio computes: no program in sight. -/
namespace Go.Proofs.YtlhmgphgnedlkaaGreat
open Go.Eng
abbrev Q := Int × Int
def qv (q : Q) : AV := .agg [.c (.int .i64 q.1), .c (.int .i64 q.2)]
def qr (r : Q × Int) : AV := .tup [qv r.1, .c (.int .i64 r.2)]
def qOk (q : Q) : Bool := decide (1 ≤ q.2 ∧ q.2 ≤ 1000000 ∧ -1000000000000 ≤ q.1 ∧ q.1 ≤ 1000000000000 ∧ Nat.gcd q.1.natAbs q.2.natAbs = 1)
theorem qOk_iff {q : Q} : qOk q = true ↔ 1 ≤ q.2 ∧ q.2 ≤ 1000000 ∧ -1000000000000 ≤ q.1 ∧ q.1 ≤ 1000000000000 ∧ Nat.gcd q.1.natAbs q.2.natAbs = 1 := by simp [qOk]
def fracR (neg : Bool) (num den : Nat) : Q × Int :=
  if 1000000000000 < num / Nat.gcd num den ∨ 1000000 < den / Nat.gcd num den then ((0, 0), 2)
  else ((if neg then -((num / Nat.gcd num den : Nat) : Int) else ((num / Nat.gcd num den : Nat) : Int), ((den / Nat.gcd num den : Nat) : Int)), 0)
def makeR (num den : Int) : Q × Int := if den = 0 then ((0, 0), 1) else fracR (decide (num < 0) != decide (den < 0)) num.natAbs den.natAbs
def qW (q : Q) : Prop := inK .i64 q.1 ∧ inK .i64 q.2
end Go.Proofs.YtlhmgphgnedlkaaGreat
end
section
/- Tables of units and amounts, and what package quantity computes: no program in sight. -/
namespace Go.Proofs.YtlhmgphgnedlkaaGreat
open Go.Eng
structure U where
  name : ByteArray
  kind : Int
  base : Int
  fac : Q
structure A where
  unit : Int
  val : Q
def uc (u : U) : List AV := [.c (.string u.name), .c (.int .i64 u.kind), .c (.int .i64 u.base), .c (.int .i64 u.fac.1), .c (.int .i64 u.fac.2)]
def ac (a : A) : List AV := [.c (.int .i64 a.unit), .c (.int .i64 a.val.1), .c (.int .i64 a.val.2)]
def qc (q : Q) : List AV := [.c (.int .i64 q.1), .c (.int .i64 q.2)]
def av (a : A) : AV := .agg [.c (.int .i64 a.unit), .c (.int .i64 a.val.1), .c (.int .i64 a.val.2)]
def tabV (n : Nat) (t : Nat → U) : AV := .rs 5 n (fun i => uc (t i))
def uW (u : U) : Prop := inK .i64 u.kind ∧ inK .i64 u.base ∧ qW u.fac
theorem bytes_beq {a b : ByteArray} : (a == b) = true ↔ a = b := by
  obtain ⟨x⟩ := a
  obtain ⟨y⟩ := b
  show ((x == y) = true) ↔ _
  simp
theorem bytes_bne {a b : ByteArray} : (a == b) = false ↔ a ≠ b := by rw [← Bool.not_eq_true, bytes_beq]
def emptyName : ByteArray := { data := #[] }
def uOk (t : Nat → U) (n i : Nat) : Prop :=
  (i < 20 ∧ (t i).name ≠ emptyName ∧ ∀ j, j < i → (t j).name ≠ (t i).name) ∧ (((t i).kind = 1 ∨ (t i).kind = 2) ∧ qOk (t i).fac = true ∧ 0 < (t i).fac.1) ∧
  ((0 ≤ (t i).base ∧ (t i).base < n) ∧ (t (t i).base.toNat).kind = (t i).kind ∧ (t (t i).base.toNat).base = (t i).base) ∧ ((t i).base ≠ i ∨ (t i).fac = (1, 1))
instance (t : Nat → U) (n i : Nat) : Decidable (uOk t n i) := by unfold uOk; infer_instance
def uOkB (t : Nat → U) (n i : Nat) : Bool := decide (uOk t n i)
theorem uOkB_iff {t : Nat → U} {n i : Nat} : uOkB t n i = true ↔ uOk t n i := by unfold uOkB; exact decide_eq_true_iff
theorem uOkB_false {t : Nat → U} {n i : Nat} : uOkB t n i = false ↔ ¬ uOk t n i := by rw [← uOkB_iff]; simp
end Go.Proofs.YtlhmgphgnedlkaaGreat
end
section
/- How this seat's Go types read as values of Lean types. -/
namespace Go.Proofs.YtlhmgphgnedlkaaGreat
open Go.Eng
set_option maxRecDepth 10000
instance : Inhabited U := ⟨⟨emptyName, 0, 0, (0, 0)⟩⟩
instance : Inhabited A := ⟨⟨0, (0, 0)⟩⟩
noncomputable def cInt : Codec Tryz.prog 3 Int := Codec.int .i64 (show Tryz.prog.underlying 3 = some (.int .i64) from by kernel_rfl) (by kernel_rfl)
noncomputable def cU8 : Codec Tryz.prog 5 Int := Codec.int .u8 (show Tryz.prog.underlying 5 = some (.int .u8) from by kernel_rfl) (by kernel_rfl)
noncomputable def cStr : Codec Tryz.prog 9 ByteArray := Codec.str (show Tryz.prog.underlying 9 = some .string from by kernel_rfl) (by kernel_rfl)
noncomputable def cQ : Codec Tryz.prog 46 Q := (Codec.struct ty46_k rfl (.cons cInt (.cons cInt (.nil _ _))) (by kernel_rfl)).map (fun x => (x.1, x.2.1)) qc qW (fun _ => rfl) (fun _ => rfl) (fun _ h => ⟨h.1, h.2.1⟩)
noncomputable def cU : Codec Tryz.prog 99 U := (Codec.struct ty99_k rfl (.cons cStr (.cons cInt (.cons cInt (.cons cQ (.nil _ _))))) (by kernel_rfl)).map (fun x => ⟨x.1, x.2.1, x.2.2.1, x.2.2.2.1⟩) uc uW (fun _ => rfl) (fun _ => rfl) (fun _ h => ⟨h.2.1, h.2.2.1, h.2.2.2.1⟩)
noncomputable def cUs : Codec Tryz.prog 23 (List U) := Codec.slice cU ty23_k (by decide) (by kernel_rfl)
theorem all_getD {α : Type} [Inhabited α] {p : α → Prop} {l : List α} (h : ∀ a ∈ l, p a) : ∀ j, j < l.length → p (l.getD j default) := by
  intro j hj
  simp only [List.getD_eq_getElem?_getD, List.getElem?_eq_getElem hj, Option.getD_some]
  exact h _ (List.getElem_mem hj)
end Go.Proofs.YtlhmgphgnedlkaaGreat
end
section
/- Contracts: package ratio's and its reference's arithmetic on magnitudes. -/
namespace Go.Proofs.YtlhmgphgnedlkaaGreat
open Go.Eng
set_option maxRecDepth 10000
theorem tdiv_nn (a b : Nat) : Int.tdiv (a : Int) (b : Int) = ((a / b : Nat) : Int) := rfl
theorem tmod_nn (a b : Nat) : Int.tmod (a : Int) (b : Int) = ((a % b : Nat) : Int) := rfl
theorem cI {k : IntKind} {a b : Int} (h : a = b) : AV.c (.int k a) = AV.c (.int k b) := by rw [h]
theorem cB {a b : Bool} (h : a = b) : AV.c (.bool a) = AV.c (.bool b) := by rw [h]
theorem magnitude_ok (n : Int) (h : inK .i64 n) : Does Tryz.prog 137 [.c (.int .i64 n)] (.c (.int .u64 (n.natAbs : Int))) := by
  refine Does.mk (fun _ => false) TT_ok Tryz.func137 rfl (by kernel_rfl) Tryz.ntmps137 rfl rfl fun E hT hE hN hR => ?_
  have hm := mixO hE
  simp only [inK] at h
  (repeat (first | refine XK.n ?_ | refine XK.a ?_ | refine XK.b ?_))
  (repeat (first | refine XK.n ?_ | refine XK.a ?_ | refine XK.b ?_)); refine XK.cond rfl (fun hb => ?_) (fun hb => ?_)
  · have hn : n < 0 := by simpa using hb
    (repeat (first | refine XK.n ?_ | refine XK.a ?_ | refine XK.b ?_))
    (repeat (first | refine XK.n ?_ | refine XK.a ?_ | refine XK.b ?_))
    exact XK.ret (RetQ.ret rfl rfl (cI (by omega)))
  · have hn : ¬ n < 0 := by simpa using hb
    (repeat (first | refine XK.n ?_ | refine XK.a ?_ | refine XK.b ?_))
    (repeat (first | refine XK.n ?_ | refine XK.a ?_ | refine XK.b ?_))
    exact XK.ret (RetQ.ret rfl rfl (cI (by omega)))
def gcdTo (g : Nat → Nat) : Nat → Nat
  | 0 => 0
  | n + 1 => Nat.gcd (gcdTo g n) (g n)
theorem divisor_ok (g : Nat → Nat) (n : Nat) (hg : ∀ i, i < n → g i ≤ 18446744073709551615) : Does Tryz.prog 150 [.rs 1 n (fun i => [.c (.int .u64 (g i))])] (.c (.int .u64 (gcdTo g n : Nat))) := by
  refine Does.mk (fun _ => false) TT_ok Tryz.func150 rfl (by kernel_rfl) Tryz.ntmps150 rfl rfl fun E hT hE hN hR => ?_
  have hm := mixO hE
  refine XK.fact (Sat.rs_len (j := 0) rfl) fun hlen => ?_
  have hn := hlen.1
  have hG : ∀ i, i ≤ n → gcdTo g i ≤ 18446744073709551615 := by
    intro i hi
    induction i with
    | zero => simp [gcdTo]
    | succ i ih =>
      have h1 := ih (by omega)
      have h2 := hg i (by omega)
      simp only [gcdTo]
      by_cases h0 : gcdTo g i = 0
      · rw [h0]; simpa using h2
      · exact Nat.le_trans (Nat.gcd_le_left _ (Nat.pos_of_ne_zero h0)) h1
  (repeat (first | refine XK.n ?_ | refine XK.a ?_ | refine XK.b ?_))
  refine XK.loop (ι := Nat) (fun i => ST.of [(3, .c (.int .u64 (gcdTo g i))), (6, .rs 1 n (fun i => [.c (.int .u64 (g i))])), (7, .c (.int .i64 n)), (8, .c (.int .i64 i))] [] 1000 20 (fun _ => false))
    (fun i => i ≤ n) (fun i => n - i) 0 (by omega) (Weak.of hN rfl rfl rfl ⟨rfl, ⟨rfl, rfl, fun _ _ => rfl⟩, rfl, rfl⟩ trivial) fun i hi => ?_
  (repeat (first | refine XK.n ?_ | refine XK.a ?_ | refine XK.b ?_))
  (repeat (first | refine XK.n ?_ | refine XK.a ?_ | refine XK.b ?_)); refine XK.cond rfl (fun hb => ?_) (fun hb => ?_)
  · have hlt : i < n := by simpa using hb
    (repeat (first | refine XK.n ?_ | refine XK.a ?_ | refine XK.b ?_))
    (repeat (first | refine XK.n ?_ | refine XK.a ?_ | refine XK.b ?_))
    (repeat (first | refine XK.n ?_ | refine XK.a ?_ | refine XK.b ?_))
    refine XK.loop (ι := Nat × Nat) (fun p => ST.of [(3, .c (.int .u64 p.1)), (5, .c (.int .u64 p.2)), (6, .rs 1 n (fun i => [.c (.int .u64 (g i))])), (7, .c (.int .i64 n)), (8, .c (.int .i64 i))] [] 1000 20 (fun _ => false))
      (fun p => p.1 ≤ 18446744073709551615 ∧ p.2 ≤ 18446744073709551615 ∧ Nat.gcd p.1 p.2 = gcdTo g (i + 1)) (fun p => p.2) (gcdTo g i, g i) ⟨hG i (by omega), hg i hlt, rfl⟩
      (Weak.of hN rfl rfl rfl ⟨rfl, rfl, ⟨rfl, rfl, fun _ _ => rfl⟩, rfl, rfl⟩ trivial) fun p hp => ?_
    obtain ⟨x, y⟩ := p
    obtain ⟨h1, h2, h3⟩ := hp
    simp only at h1 h2 h3
    (repeat (first | refine XK.n ?_ | refine XK.a ?_ | refine XK.b ?_))
    (repeat (first | refine XK.n ?_ | refine XK.a ?_ | refine XK.b ?_)); refine XK.cond rfl (fun hb => ?_) (fun hb => ?_)
    · have hy : y ≠ 0 := by simpa using hb
      (repeat (first | refine XK.n ?_ | refine XK.a ?_ | refine XK.b ?_))
      (repeat (first | refine XK.n ?_ | refine XK.a ?_ | refine XK.b ?_))
      (repeat (first | refine XK.n ?_ | refine XK.a ?_ | refine XK.b ?_))
      refine XK.inv ⟨(y, x % y), ⟨h2, ?_, ?_⟩, Weak.of hN rfl rfl rfl ⟨?_, ?_, ⟨rfl, rfl, fun _ _ => rfl⟩, rfl, rfl⟩ trivial, ?_⟩
      · exact Nat.le_trans (Nat.le_of_lt (Nat.mod_lt _ (Nat.pos_of_ne_zero hy))) h2
      · rw [← h3, Nat.gcd_comm x y, Nat.gcd_rec y x, Nat.gcd_comm]
      · rfl
      · rfl
      · exact Nat.mod_lt _ (Nat.pos_of_ne_zero hy)
    · have hy : y = 0 := by simpa using hb
      subst hy
      (repeat (first | refine XK.n ?_ | refine XK.a ?_ | refine XK.b ?_))
      (repeat (first | refine XK.n ?_ | refine XK.a ?_ | refine XK.b ?_))
      refine XK.inv ⟨i + 1, hlt, Weak.of hN rfl rfl rfl ⟨?_, ⟨rfl, rfl, fun _ _ => rfl⟩, rfl, rfl⟩ trivial, ?_⟩
      · rw [← h3]; simp [AvIs]; rfl
      · omega
  · have : i = n := by
      have : ¬ i < n := by simpa using hb
      omega
    subst this
    (repeat (first | refine XK.n ?_ | refine XK.a ?_ | refine XK.b ?_))
    exact XK.ret (RetQ.ret rfl rfl rfl)
end Go.Proofs.YtlhmgphgnedlkaaGreat
end
section
/- Contracts: package ratio. -/
namespace Go.Proofs.YtlhmgphgnedlkaaGreat
open Go.Eng
set_option maxRecDepth 10000
theorem gcd2 (a b : Nat) : gcdTo (fun i => if i = 0 then a else b) 2 = Nat.gcd a b := by simp [gcdTo]
theorem fraction_ok (neg : Bool) (num den : Nat) (h1 : num ≤ 18446744073709551615) (h2 : den ≤ 18446744073709551615) (h0 : den ≠ 0) : Does Tryz.prog 136 [.c (.bool neg), .c (.int .u64 num), .c (.int .u64 den)] (qr (fracR neg num den)) := by
  refine Does.mk (fun _ => false) TT_ok Tryz.func136 rfl (by kernel_rfl) Tryz.ntmps136 rfl rfl fun E hT hE hN hR => ?_
  have hm := mixO hE
  have hg : Nat.gcd num den ≠ 0 := fun e => h0 (Nat.eq_zero_of_gcd_eq_zero_right e)
  have hq1 := Nat.div_le_self num (Nat.gcd num den)
  have hq2 := Nat.div_le_self den (Nat.gcd num den)
  (repeat (first | refine XK.n ?_ | refine XK.a ?_ | refine XK.b ?_))
  (repeat (first | refine XK.n ?_ | refine XK.a ?_ | refine XK.b ?_)); refine XK.region ?_; refine XL.g ?_
  refine XL.callL hE rfl rfl rfl rfl trivial rfl (divisor_ok (fun i => if i = 0 then num else den) 2 (fun i hi => by split <;> omega)) ?_ rfl ?_
  · refine ⟨rfl, rfl, fun i hi => ?_⟩
    match i, hi with
    | 0, _ => rfl
    | 1, _ => rfl
  rw [gcd2]
  refine XL.g ?_; refine XL.fin ?_; (repeat (first | refine XK.n ?_ | refine XK.a ?_ | refine XK.b ?_))
  (repeat (first | refine XK.n ?_ | refine XK.a ?_ | refine XK.b ?_))
  (repeat (first | refine XK.n ?_ | refine XK.a ?_ | refine XK.b ?_)); refine XK.cond rfl (fun hb => ?_) (fun hb => ?_)
  · (repeat (first | refine XK.n ?_ | refine XK.a ?_ | refine XK.b ?_))
    (first | refine XK.out rfl rfl rfl ?_ | refine XK.outN rfl rfl rfl ?_)
    have : 1000000000000 < num / num.gcd den ∨ 1000000 < den / num.gcd den := by
      rw [tdiv_nn, tdiv_nn] at hb
      generalize num / num.gcd den = q1 at *
      generalize den / num.gcd den = q2 at *
      simp only [Bool.or_eq_true, decide_eq_true_eq] at hb
      omega
    simp only [qr, fracR, if_pos this, qv]
  · have hc : ¬ (1000000000000 < num / num.gcd den ∨ 1000000 < den / num.gcd den) := by
      rw [tdiv_nn, tdiv_nn] at hb
      generalize num / num.gcd den = q1 at *
      generalize den / num.gcd den = q2 at *
      simp only [Bool.or_eq_false_iff, decide_eq_false_iff_not] at hb
      omega
    (repeat (first | refine XK.n ?_ | refine XK.a ?_ | refine XK.b ?_))
    (repeat (first | refine XK.n ?_ | refine XK.a ?_ | refine XK.b ?_)); refine XK.cond rfl (fun hb => ?_) (fun hb => ?_)
    · subst hb
      (repeat (first | refine XK.n ?_ | refine XK.a ?_ | refine XK.b ?_))
      (repeat (first | refine XK.n ?_ | refine XK.a ?_ | refine XK.b ?_))
      (first | refine XK.out rfl rfl rfl ?_ | refine XK.outN rfl rfl rfl ?_)
      simp [qr, fracR, if_neg hc, qv, tdiv_nn]
    · subst hb
      (repeat (first | refine XK.n ?_ | refine XK.a ?_ | refine XK.b ?_))
      (first | refine XK.out rfl rfl rfl ?_ | refine XK.outN rfl rfl rfl ?_)
      simp [qr, fracR, if_neg hc, qv, tdiv_nn]
theorem make_ok (num den : Int) (h1 : inK .i64 num) (h2 : inK .i64 den) : Does Tryz.prog 117 [.c (.int .i64 num), .c (.int .i64 den)] (qr (makeR num den)) := by
  refine Does.mk (fun _ => false) TT_ok Tryz.func117 rfl (by kernel_rfl) Tryz.ntmps117 rfl rfl fun E hT hE hN hR => ?_
  have hm := mixO hE
  simp only [inK] at h1 h2
  (repeat (first | refine XK.n ?_ | refine XK.a ?_ | refine XK.b ?_)); refine XK.cond rfl (fun hb => ?_) (fun hb => ?_)
  · (repeat (first | refine XK.n ?_ | refine XK.a ?_ | refine XK.b ?_))
    (first | refine XK.out rfl rfl rfl ?_ | refine XK.outN rfl rfl rfl ?_)
    have : den = 0 := by simpa using hb
    simp [qr, makeR, this, qv]
  · have hd : den ≠ 0 := by simpa using hb
    (repeat (first | refine XK.n ?_ | refine XK.a ?_ | refine XK.b ?_)); refine XK.region ?_; refine XL.g ?_
    refine XL.callL hE rfl rfl rfl rfl trivial rfl (magnitude_ok num h1) ?_ rfl ?_
    · exact rfl
    refine XL.g ?_
    refine XL.callL hE rfl rfl rfl rfl trivial rfl (magnitude_ok den h2) ?_ rfl ?_
    · exact rfl
    refine XL.g ?_
    refine XL.callL hE rfl rfl rfl rfl trivial rfl (fraction_ok (decide (num < 0) != decide (den < 0)) num.natAbs den.natAbs (by omega) (by omega) (by omega)) ?_ rfl ?_
    · exact ⟨rfl, rfl, rfl⟩
    refine XL.g ?_; refine XL.fin ?_; (repeat (first | refine XK.n ?_ | refine XK.a ?_ | refine XK.b ?_))
    (repeat (first | refine XK.n ?_ | refine XK.a ?_ | refine XK.b ?_))
    (first | refine XK.out rfl rfl rfl ?_ | refine XK.outN rfl rfl rfl ?_)
    simp [qr, makeR, hd, qv]
theorem valid_ok (q : Q) (h : qW q) : Does Tryz.prog 123 [qv q] (.c (.bool (qOk q))) := by
  refine Does.mk (fun _ => false) TT_ok Tryz.func123 rfl (by kernel_rfl) Tryz.ntmps123 rfl rfl fun E hT hE hN hR => ?_
  have hm := mixO hE
  obtain ⟨n, d⟩ := q
  obtain ⟨h1, h2⟩ := h
  simp only [inK] at h1 h2
  (repeat (first | refine XK.n ?_ | refine XK.a ?_ | refine XK.b ?_)); refine XK.cond rfl (fun hb => ?_) (fun hb => ?_)
  · (repeat (first | refine XK.n ?_ | refine XK.a ?_ | refine XK.b ?_))
    (first | refine XK.out rfl rfl rfl ?_ | refine XK.outN rfl rfl rfl ?_)
    congr 2
    simp only [Bool.or_eq_true, decide_eq_true_eq] at hb
    simp only [qOk]
    symm
    simp only [decide_eq_false_iff_not]
    omega
  · simp only [Bool.or_eq_false_iff, decide_eq_false_iff_not] at hb
    (repeat (first | refine XK.n ?_ | refine XK.a ?_ | refine XK.b ?_)); refine XK.drawn hm ?_; refine XD.goA hT rfl rfl rfl rfl ?_
    refine XD.callL hE rfl rfl rfl rfl trivial rfl (magnitude_ok n h1) ?_ rfl ?_
    · exact rfl
    refine XD.goA hT rfl rfl rfl rfl ?_
    refine XD.callL hE rfl rfl rfl rfl trivial rfl (magnitude_ok d h2) ?_ rfl ?_
    · exact rfl
    refine XD.goA hT rfl rfl rfl rfl ?_
    refine XD.callL hE rfl rfl rfl rfl trivial rfl (divisor_ok (fun i => if i = 0 then n.natAbs else d.natAbs) 2 (fun i hi => by split <;> omega)) ?_ rfl ?_
    · refine ⟨rfl, rfl, fun i hi => ?_⟩
      match i, hi with
      | 0, _ => rfl
      | 1, _ => rfl
    rw [gcd2]
    refine XD.goA hT rfl rfl rfl rfl ?_; refine XD.fin (by kernel_rfl) ?_; (repeat (first | refine XK.n ?_ | refine XK.a ?_ | refine XK.b ?_))
    (repeat (first | refine XK.n ?_ | refine XK.a ?_ | refine XK.b ?_))
    (first | refine XK.out rfl rfl rfl ?_ | refine XK.outN rfl rfl rfl ?_)
    congr 2
    rw [Bool.eq_iff_iff, qOk_iff]
    simp only [beq_iff_eq]
    omega
end Go.Proofs.YtlhmgphgnedlkaaGreat
end
section
/- Contracts: the reference of package ratio. -/
namespace Go.Proofs.YtlhmgphgnedlkaaGreat
open Go.Eng
set_option maxRecDepth 10000
end Go.Proofs.YtlhmgphgnedlkaaGreat
end
section
/- Contracts: package quantity, tables. -/
namespace Go.Proofs.YtlhmgphgnedlkaaGreat
open Go.Eng
set_option maxRecDepth 10000
theorem isIndex_ok (n : Nat) (t : Nat → U) (i : Int) : Does Tryz.prog 149 [tabV n t, .c (.int .i64 i)] (.c (.bool (decide (0 ≤ i) && decide (i < n)))) := by
  refine Does.mk (fun _ => false) TT_ok Tryz.func149 rfl (by kernel_rfl) Tryz.ntmps149 rfl rfl fun E hT hE hN hR => ?_
  have hm := mixO hE
  (repeat (first | refine XK.n ?_ | refine XK.a ?_ | refine XK.b ?_))
  (first | refine XK.out rfl rfl rfl ?_ | refine XK.outN rfl rfl rfl ?_)
  rfl
set_option maxHeartbeats 1000000 in
theorem uvalid_ok (n : Nat) (t : Nat → U) (i : Nat) (hi : i < n) (hw : ∀ j, j < n → uW (t j)) : Does Tryz.prog 122 [tabV n t, .c (.int .i64 i)] (.c (.bool (uOkB t n i))) := by
  refine Does.mk (fun _ => false) TT_ok Tryz.func122 rfl (by kernel_rfl) Tryz.ntmps122 rfl rfl fun E hT hE hN hR => ?_
  have hm := mixO hE
  refine XK.fact (Sat.rs_len (j := 0) rfl) fun hlen => ?_
  have hn := hlen.1
  have hui := hw i hi
  (repeat (first | refine XK.n ?_ | refine XK.a ?_ | refine XK.b ?_))
  (repeat (first | refine XK.n ?_ | refine XK.a ?_ | refine XK.b ?_)); refine XK.cond rfl (fun hb => ?_) (fun hb => ?_)
  · (repeat (first | refine XK.n ?_ | refine XK.a ?_ | refine XK.b ?_))
    (first | refine XK.out rfl rfl rfl ?_ | refine XK.outN rfl rfl rfl ?_)
    refine cB ?_
    symm
    rw [uOkB_false]
    simp only [Bool.or_eq_true, decide_eq_true_eq, bytes_beq] at hb
    rintro ⟨⟨h1, h2, _⟩, _⟩
    rcases hb with hb | hb
    · omega
    · exact h2 hb
  · simp only [Bool.or_eq_false_iff, decide_eq_false_iff_not, bytes_bne] at hb
    obtain ⟨hb1, hb2⟩ := hb
    have hb2 : (t i).name ≠ emptyName := hb2
    (repeat (first | refine XK.n ?_ | refine XK.a ?_ | refine XK.b ?_))
    (repeat (first | refine XK.n ?_ | refine XK.a ?_ | refine XK.b ?_))
    refine XK.loop (ι := Nat) (fun j => ST.of [(0, tabV n t), (1, .c (.int .i64 i)), (5, .ptr 95 0), (21, .rs 5 i (fun j => uc (t j))), (22, .c (.int .i64 i)), (23, .c (.int .i64 j))] [(95, .cells 99 (uc (t i)))] 1000 90 (fun _ => false))
      (fun j => j ≤ i ∧ ∀ k, k < j → (t k).name ≠ (t i).name) (fun j => i - j) 0 ⟨by omega, fun k hk => absurd hk (by omega)⟩
      (Weak.of hN rfl rfl rfl ⟨AvIs.refl _, rfl, rfl, ⟨rfl, rfl, fun j hj => rfl⟩, rfl, rfl⟩ ⟨rfl, rfl⟩) fun j hj => ?_
    obtain ⟨hj1, hj2⟩ := hj
    (repeat (first | refine XK.n ?_ | refine XK.a ?_ | refine XK.b ?_)); refine XK.cond rfl (fun hb => ?_) (fun hb => ?_)
    · have hlt : j < i := by simpa using hb
      (repeat (first | refine XK.n ?_ | refine XK.a ?_ | refine XK.b ?_))
      (repeat (first | refine XK.n ?_ | refine XK.a ?_ | refine XK.b ?_)); refine XK.cond rfl (fun hb => ?_) (fun hb => ?_)
      · (repeat (first | refine XK.n ?_ | refine XK.a ?_ | refine XK.b ?_))
        (first | refine XK.out rfl rfl rfl ?_ | refine XK.outN rfl rfl rfl ?_)
        refine cB ?_
        symm
        rw [uOkB_false]
        rintro ⟨⟨h1, h2, h3⟩, _⟩
        exact h3 j hlt (bytes_beq.1 hb)
      · (repeat (first | refine XK.n ?_ | refine XK.a ?_ | refine XK.b ?_))
        refine XK.inv ⟨j + 1, ⟨hlt, fun k hk => ?_⟩, Weak.of hN rfl rfl rfl ⟨AvIs.refl _, rfl, rfl, ⟨rfl, rfl, fun j hj => rfl⟩, rfl, rfl⟩ ⟨rfl, rfl⟩, by omega⟩
        by_cases hkj : k = j
        · subst hkj; exact bytes_bne.1 hb
        · exact hj2 k (by omega)
    · have hij : j = i := by
        have : ¬ j < i := by simpa using hb
        omega
      subst hij
      (repeat (first | refine XK.n ?_ | refine XK.a ?_ | refine XK.b ?_)); refine XK.region ?_; refine XL.g ?_
      refine XL.callGA hE rfl rfl rfl rfl rfl rfl rfl rfl (valid_ok (t j).fac hui.2.2) rfl ?_
      refine XL.g ?_; refine XL.fin ?_; (repeat (first | refine XK.n ?_ | refine XK.a ?_ | refine XK.b ?_))
      (repeat (first | refine XK.n ?_ | refine XK.a ?_ | refine XK.b ?_)); refine XK.cond rfl (fun hb => ?_) (fun hb => ?_)
      · (repeat (first | refine XK.n ?_ | refine XK.a ?_ | refine XK.b ?_))
        (first | refine XK.out rfl rfl rfl ?_ | refine XK.outN rfl rfl rfl ?_)
        refine cB ?_
        symm
        rw [uOkB_false]
        rintro ⟨_, ⟨h1, h2, h3⟩, _⟩
        simp only [Bool.or_eq_true, Bool.and_eq_true, bne_iff_ne, Bool.not_eq_true', decide_eq_true_eq] at hb
        rcases hb with (⟨h4, h5⟩ | h4) | h4
        · rcases h1 with h1 | h1
          · exact h4 h1
          · exact h5 h1
        · rw [h2] at h4; cases h4
        · omega
      · (repeat (first | refine XK.n ?_ | refine XK.a ?_ | refine XK.b ?_))
        refine XK.weak (Weak.of (L := [(0, tabV n t), (1, .c (.int .i64 j)), (5, .ptr 95 0)]) (O := [(95, .cells 99 (uc (t j)))]) (nx := 2000) (nt := 90) (md := fun _ => false) hN rfl rfl rfl ⟨AvIs.refl _, rfl, rfl⟩ ⟨rfl, rfl⟩) ?_
        refine XK.drawn hm ?_
        refine XD.go hT rfl rfl rfl rfl trivial ?_
        refine XD.callL hE rfl rfl rfl rfl trivial rfl (isIndex_ok n t (t j).base) ?_ rfl ?_
        · exact ⟨AvIs.refl _, rfl⟩
        refine XD.go hT rfl rfl rfl rfl ?_ ?_
        · (first | exact trivial | (simp [AllP, impG]; done) | (simp only [AllP, List.append, List.nil_append, List.cons_append, inK, tdiv_nn, tmod_nn, Int.toNat_natCast]; omega) | (simp [AllP, impG, inK, tdiv_nn, tmod_nn]; omega) | ((repeat (first | (focus (first | omega | (intro i hi; first | rfl | (cases Nat.lt_one_iff.1 hi; rfl) | (rcases i with _ | _ | _ | _ | i <;> first | rfl | (exfalso; omega))) | (simp <;> omega))) | refine ⟨?_, ?_⟩)); done) | (simp only [AllP, impG, inK]; grind))
        refine XD.fin (by kernel_rfl) ?_
        (repeat (first | refine XK.n ?_ | refine XK.a ?_ | refine XK.b ?_)); refine XK.cond rfl (fun hb => ?_) (fun hb => ?_)
        · (repeat (first | refine XK.n ?_ | refine XK.a ?_ | refine XK.b ?_))
          (first | refine XK.out rfl rfl rfl ?_ | refine XK.outN rfl rfl rfl ?_)
          refine cB ?_
          symm
          rw [uOkB_false]
          rintro ⟨_, _, ⟨⟨h1, h2⟩, h3, h4⟩, _⟩
          simp [h1, h2, h3, h4] at hb
        · simp at hb
          obtain ⟨⟨⟨h1, h2⟩, h3⟩, h4⟩ := hb
          (repeat (first | refine XK.n ?_ | refine XK.a ?_ | refine XK.b ?_))
          (first | refine XK.out rfl rfl rfl ?_ | refine XK.outN rfl rfl rfl ?_)
          refine cB ?_
          rw [Bool.eq_iff_iff, uOkB_iff]
          simp only [Bool.or_eq_false_iff, Bool.and_eq_false_imp, bne_iff_ne, ne_eq, bne_eq_false_iff_eq, Bool.not_eq_false', decide_eq_false_iff_not] at hb
          obtain ⟨⟨g1, g2⟩, g3⟩ := hb
          simp only [uOk, Bool.or_eq_true, bne_iff_ne, Bool.and_eq_true, beq_iff_eq, Prod.ext_iff]
          constructor
          · intro h
            exact ⟨⟨by omega, hb2, hj2⟩, ⟨by omega, g2, by omega⟩, ⟨⟨h1, h2⟩, h3, h4⟩, h⟩
          · rintro ⟨_, _, _, h⟩
            exact h
end Go.Proofs.YtlhmgphgnedlkaaGreat
end
section
/- Contracts: math/bits.Mul64; products. -/
namespace Go.Proofs.YtlhmgphgnedlkaaGreat
open Go.Eng Go.RowKit Go.Lib
set_option maxRecDepth 10000
end Go.Proofs.YtlhmgphgnedlkaaGreat
end
section
/- Products of three numbers, and the fraction that is left when common divisors are gone: no program in sight. -/
namespace Go.Proofs.YtlhmgphgnedlkaaGreat
open Go.Eng
def P3 (x : Nat → Nat) : Nat := x 0 * x 1 * x 2
structure Half (N D B : Nat) (x y : Nat → Nat) (i j : Nat) : Prop where
  pos : ∀ k, k < 3 → 0 < y k
  px : ∀ k, 0 < k → k < 3 → 0 < x k
  bx : ∀ k, k < 3 → x k ≤ B
  by_ : ∀ k, k < 3 → y k ≤ B
  eq : P3 x * D = P3 y * N
  done : ∀ i' j', i' < 3 → j' < 3 → (i' < i ∨ i' = i ∧ j' < j) → Nat.gcd (x i') (y j') = 1
end Go.Proofs.YtlhmgphgnedlkaaGreat
end
section
/- Contracts: package quantity, values. -/
namespace Go.Proofs.YtlhmgphgnedlkaaGreat
open Go.Eng
set_option maxRecDepth 10000
end Go.Proofs.YtlhmgphgnedlkaaGreat
end
section
/- Contracts: package quantity, values of amounts. -/
namespace Go.Proofs.YtlhmgphgnedlkaaGreat
open Go.Eng
set_option maxRecDepth 10000
end Go.Proofs.YtlhmgphgnedlkaaGreat
end
section
/- Contracts: package quantity, the table's validity. -/
namespace Go.Proofs.YtlhmgphgnedlkaaGreat
open Go.Eng
set_option maxRecDepth 10000
noncomputable def validR (t : Nat → U) (n : Nat) : Int × Bool := match (List.range n).find? (fun i => !uOkB t n i) with
  | some i => ((i : Int), false)
  | none => (-1, true)
theorem qvalid_ok (n : Nat) (t : Nat → U) (hw : ∀ j, j < n → uW (t j)) : Does Tryz.prog 82 [tabV n t] (.tup [.c (.int .i64 (validR t n).1), .c (.bool (validR t n).2)]) := by
  refine Does.mk (fun _ => false) TT_ok Tryz.func82 rfl (by kernel_rfl) Tryz.ntmps82 rfl rfl fun E hT hE hN hR => ?_
  have hm := mixO hE
  refine XK.fact (Sat.rs_len (j := 0) rfl) fun hlen => ?_
  have hn := hlen.1
  (repeat (first | refine XK.n ?_ | refine XK.a ?_ | refine XK.b ?_))
  refine XK.loop (ι := Nat) (fun i => ST.of [(0, tabV n t), (5, tabV n t), (6, .c (.int .i64 n)), (7, .c (.int .i64 i))] [] 1000 16 (fun _ => false))
    (fun i => i ≤ n ∧ ∀ j, j < i → uOkB t n j = true) (fun i => n - i) 0 ⟨by omega, fun j hj => by omega⟩ (Weak.of hN rfl rfl rfl ⟨AvIs.refl _, AvIs.refl _, rfl, rfl⟩ trivial) fun i hi => ?_
  obtain ⟨hi1, hi2⟩ := hi
  (repeat (first | refine XK.n ?_ | refine XK.a ?_ | refine XK.b ?_)); refine XK.cond rfl (fun hlt => ?_) (fun hlt => ?_) <;> (try simp at hlt)
  · (repeat (first | refine XK.n ?_ | refine XK.a ?_ | refine XK.b ?_)); refine XK.region ?_; refine XL.g ?_
    refine XL.callL hE rfl rfl rfl rfl trivial rfl (uvalid_ok n t i hlt hw) ?_ rfl ?_
    · exact ⟨AvIs.refl _, rfl⟩
    refine XL.g ?_; refine XL.fin ?_; (repeat (first | refine XK.n ?_ | refine XK.a ?_ | refine XK.b ?_))
    (repeat (first | refine XK.n ?_ | refine XK.a ?_ | refine XK.b ?_)); refine XK.cond rfl (fun hb => ?_) (fun hb => ?_) <;> (try simp at hb)
    · (repeat (first | refine XK.n ?_ | refine XK.a ?_ | refine XK.b ?_))
      (first | refine XK.out rfl rfl rfl ?_ | refine XK.outN rfl rfl rfl ?_)
      have : (List.range n).find? (fun i => !uOkB t n i) = some i := by
        rw [List.find?_range_eq_some]
        exact ⟨by simp [hb], by simpa using hlt, fun j hj => by simp [hi2 j hj]⟩
      simp only [validR, this]
    · (repeat (first | refine XK.n ?_ | refine XK.a ?_ | refine XK.b ?_))
      refine XK.inv ⟨i + 1, ⟨hlt, fun j hj => ?_⟩, Weak.of hN rfl rfl rfl ⟨AvIs.refl _, AvIs.refl _, rfl, rfl⟩ trivial, by omega⟩
      by_cases h : j = i
      · subst h; exact hb
      · exact hi2 j (by omega)
  · (repeat (first | refine XK.n ?_ | refine XK.a ?_ | refine XK.b ?_))
    (first | refine XK.out rfl rfl rfl ?_ | refine XK.outN rfl rfl rfl ?_)
    have : (List.range n).find? (fun i => !uOkB t n i) = none := by
      rw [List.find?_range_eq_none]
      exact fun j hj => by simp [hi2 j (by omega)]
    simp only [validR, this]
end Go.Proofs.YtlhmgphgnedlkaaGreat
end
section
/- Contracts (of the program's layer 13) as values of Lean types. -/
namespace Go.Proofs.YtlhmgphgnedlkaaGreat
open Go.Eng
set_option maxRecDepth 10000
structure Cnd where
  clause : Int
  is : Int
structure Act where
  kind : Int
  role : Int
  give : Int
  to : Int
  unit : Int
  lot : Q
structure Cl where
  kind : Int
  role : Int
  act : Int
  need : Int
  start : List Cnd
  after : Int
  grace : Int
  business : Bool
  final : Bool
  pause : Int
  resume : Int
  value : Q
  unit : Int
  to : Int
  waived : Bool
structure K where
  parties : Int
  holders : List Int
  units : List U
  acts : List Act
  clauses : List Cl
  days : Int
  off : List Int
instance : Inhabited Cnd := ⟨⟨0, 0⟩⟩
instance : Inhabited Act := ⟨⟨0, 0, 0, 0, 0, (0, 0)⟩⟩
instance : Inhabited Cl := ⟨⟨0, 0, 0, 0, [], 0, 0, false, false, 0, 0, (0, 0), 0, 0, false⟩⟩
def iC (z : Int) : List AV := [.c (.int .i64 z)]
def bC (b : Bool) : List AV := [.c (.bool b)]
def cndC (x : Cnd) : List AV := [.c (.int .i64 x.clause), .c (.int .i64 x.is)]
def actC (a : Act) : List AV := [.c (.int .i64 a.kind), .c (.int .i64 a.role), .c (.int .i64 a.give), .c (.int .i64 a.to), .c (.int .i64 a.unit), .c (.int .i64 a.lot.1), .c (.int .i64 a.lot.2)]
def intsV (l : List Int) : AV := rowL iC 1 l
def boolsV (l : List Bool) : AV := rowL bC 1 l
def cndsV (l : List Cnd) : AV := rowL cndC 2 l
def actsV (l : List Act) : AV := rowL actC 7 l
def unitsV (l : List U) : AV := rowL uc 5 l
def clC (k : Cl) : List AV := [.c (.int .i64 k.kind), .c (.int .i64 k.role), .c (.int .i64 k.act), .c (.int .i64 k.need), cndsV k.start, .c (.int .i64 k.after), .c (.int .i64 k.grace), .c (.bool k.business), .c (.bool k.final), .c (.int .i64 k.pause), .c (.int .i64 k.resume), .c (.int .i64 k.value.1), .c (.int .i64 k.value.2), .c (.int .i64 k.unit), .c (.int .i64 k.to), .c (.bool k.waived)]
def clsV (l : List Cl) : AV := rowL clC 16 l
def kC (k : K) : List AV := [.c (.int .i64 k.parties), intsV k.holders, unitsV k.units, actsV k.acts, clsV k.clauses, .c (.int .i64 k.days), intsV k.off]
def kV (k : K) : AV := .agg [.c (.int .i64 k.parties), intsV k.holders, unitsV k.units, actsV k.acts, clsV k.clauses, .c (.int .i64 k.days), intsV k.off]
def cndW (x : Cnd) : Prop := inK .i64 x.clause ∧ inK .i64 x.is
def actW (a : Act) : Prop := inK .i64 a.kind ∧ inK .i64 a.role ∧ inK .i64 a.give ∧ inK .i64 a.to ∧ inK .i64 a.unit ∧ qW a.lot
def clW (k : Cl) : Prop := inK .i64 k.kind ∧ inK .i64 k.role ∧ inK .i64 k.act ∧ inK .i64 k.need ∧ (∀ x ∈ k.start, cndW x) ∧ inK .i64 k.after ∧ inK .i64 k.grace ∧ inK .i64 k.pause ∧ inK .i64 k.resume ∧ qW k.value ∧ inK .i64 k.unit ∧ inK .i64 k.to
def kW (k : K) : Prop := inK .i64 k.parties ∧ (∀ z ∈ k.holders, inK .i64 z) ∧ (∀ u ∈ k.units, uW u) ∧ (∀ a ∈ k.acts, actW a) ∧ (∀ x ∈ k.clauses, clW x) ∧ inK .i64 k.days ∧ ∀ z ∈ k.off, inK .i64 z
noncomputable def cBool : Codec Tryz.prog 4 Bool := Codec.bool (show Tryz.prog.underlying 4 = some .bool from by kernel_rfl) (by kernel_rfl)
noncomputable def cInts : Codec Tryz.prog 22 (List Int) := Codec.slice cInt ty22_k (by decide) (by kernel_rfl)
noncomputable def cCnd : Codec Tryz.prog 130 Cnd := (Codec.struct ty130_k rfl (.cons cInt (.cons cInt (.nil _ _))) (by kernel_rfl)).map (fun x => ⟨x.1, x.2.1⟩) cndC cndW (fun _ => rfl) (fun _ => rfl) (fun _ h => ⟨h.1, h.2.1⟩)
noncomputable def cCnds : Codec Tryz.prog 44 (List Cnd) := Codec.slice cCnd ty44_k (by decide) (by kernel_rfl)
noncomputable def cAct : Codec Tryz.prog 102 Act := (Codec.struct ty102_k rfl (.cons cInt (.cons cInt (.cons cInt (.cons cInt (.cons cInt (.cons cQ (.nil _ _))))))) (by kernel_rfl)).map (fun x => ⟨x.1, x.2.1, x.2.2.1, x.2.2.2.1, x.2.2.2.2.1, x.2.2.2.2.2.1⟩) actC actW (fun _ => rfl) (fun _ => rfl) (fun _ h => ⟨h.1, h.2.1, h.2.2.1, h.2.2.2.1, h.2.2.2.2.1, h.2.2.2.2.2.1⟩)
noncomputable def cActs : Codec Tryz.prog 24 (List Act) := Codec.slice cAct ty24_k (by decide) (by kernel_rfl)
noncomputable def cCl : Codec Tryz.prog 48 Cl := (Codec.struct ty48_k rfl (.cons cInt (.cons cInt (.cons cInt (.cons cInt (.cons cCnds (.cons cInt (.cons cInt (.cons cBool (.cons cBool (.cons cInt (.cons cInt (.cons cQ (.cons cInt (.cons cInt (.cons cBool (.nil _ _)))))))))))))))) (by kernel_rfl)).map
  (fun ⟨a, b, c, d, e, f, g, h, i, j, k, l, m, n, o, _⟩ => ⟨a, b, c, d, e, f, g, h, i, j, k, l, m, n, o⟩) clC clW (fun _ => rfl) (fun _ => rfl) (fun _ ⟨a, b, c, d, e, f, g, _, _, j, k, l, m, n, _⟩ => ⟨a, b, c, d, e, f, g, j, k, l, m, n⟩)
noncomputable def cCls : Codec Tryz.prog 25 (List Cl) := Codec.slice cCl ty25_k (by decide) (by kernel_rfl)
noncomputable def cK : Codec Tryz.prog 27 K := (Codec.struct ty27_k rfl (.cons cInt (.cons cInts (.cons cUs (.cons cActs (.cons cCls (.cons cInt (.cons cInts (.nil _ _)))))))) (by kernel_rfl)).map
  (fun ⟨a, b, c, d, e, f, g, _⟩ => ⟨a, b, c, d, e, f, g⟩) kC kW (fun _ => rfl) (fun _ => rfl) (fun _ ⟨a, b, c, d, e, f, g, _⟩ => ⟨a, b, c, d, e, f, g⟩)
end Go.Proofs.YtlhmgphgnedlkaaGreat
end
section
/- Contracts: package contract, the small functions. -/
namespace Go.Proofs.YtlhmgphgnedlkaaGreat
open Go.Eng
set_option maxRecDepth 10000
def movB (k : K) (r : Int) : Bool := decide (0 ≤ r) && decide (r < k.holders.length)
def posB (q : Q) : Bool := decide (0 < q.1) && qOk q
theorem movable_ok (k : K) (r : Int) : Does Tryz.prog 88 [kV k, .c (.int .i64 r)] (.c (.bool (movB k r))) := by
  refine Does.mk (fun _ => false) TT_ok Tryz.func88 rfl (by kernel_rfl) Tryz.ntmps88 rfl rfl fun E hT hE hN hR => ?_
  have hm := mixO hE
  (repeat (first | refine XK.n ?_ | refine XK.a ?_ | refine XK.b ?_))
  (first | refine XK.out rfl rfl rfl ?_ | refine XK.outN rfl rfl rfl ?_)
  simp [movB]
theorem none_ok : Does Tryz.prog 86 [] (qv (0, 1)) := by
  refine Does.mk (fun _ => false) TT_ok Tryz.func86 rfl (by kernel_rfl) Tryz.ntmps86 rfl rfl fun E hT hE hN hR => ?_
  have hm := mixO hE
  (repeat (first | refine XK.n ?_ | refine XK.a ?_ | refine XK.b ?_))
  (first | refine XK.out rfl rfl rfl ?_ | refine XK.outN rfl rfl rfl ?_)
  rfl
theorem positive_ok (q : Q) (h : qW q) : Does Tryz.prog 87 [qv q] (.c (.bool (posB q))) := by
  refine Does.mk (fun _ => false) TT_ok Tryz.func87 rfl (by kernel_rfl) Tryz.ntmps87 rfl rfl fun E hT hE hN hR => ?_
  have hm := mixO hE
  (repeat (first | refine XK.n ?_ | refine XK.a ?_ | refine XK.b ?_)); refine XK.region ?_; refine XL.g ?_
  refine XL.callGA hE rfl rfl rfl rfl rfl rfl rfl rfl (valid_ok q h) rfl ?_
  refine XL.g ?_; refine XL.fin ?_; (repeat (first | refine XK.n ?_ | refine XK.a ?_ | refine XK.b ?_))
  (repeat (first | refine XK.n ?_ | refine XK.a ?_ | refine XK.b ?_))
  (first | refine XK.out rfl rfl rfl ?_ | refine XK.outN rfl rfl rfl ?_)
  simp [posB]
def actAt (k : K) (i : Int) : Act := k.acts.getD i.toNat default
def natB (k : K) (i : Int) : Bool := decide (0 ≤ i) && decide (i < k.acts.length) && (actAt k i).kind == 1 && (actAt k i).role == -1
theorem natural_ok (k : K) (i : Int) : Does Tryz.prog 85 [kV k, .c (.int .i64 i)] (.c (.bool (natB k i))) := by
  refine Does.mk (fun _ => false) TT_ok Tryz.func85 rfl (by kernel_rfl) Tryz.ntmps85 rfl rfl fun E hT hE hN hR => ?_
  have hm := mixO hE
  (repeat (first | refine XK.n ?_ | refine XK.a ?_ | refine XK.b ?_))
  (first | refine XK.out rfl rfl rfl ?_ | refine XK.outN rfl rfl rfl ?_)
  rfl
def kindB (k : K) (x : Cl) : Bool :=
  if x.kind = 4 then x.role == -1 && x.need == 1 && x.grace == 0 && !x.final
  else if !movB k x.role || natB k x.act then false
  else if x.kind = 1 then decide (1 ≤ x.need) && decide (x.need ≤ 9) && decide (0 ≤ x.grace) && decide (x.grace ≤ 400)
  else if x.kind = 2 then x.need == 1 && x.grace == 0
  else if x.kind = 3 then x.need == 1 && x.grace == 0 && !x.final
  else false
theorem validKind_ok (k : K) (x : Cl) : Does Tryz.prog 84 [kV k, .agg (clC x)] (.c (.bool (kindB k x))) := by
  refine Does.mk (fun _ => false) TT_ok Tryz.func84 rfl (by kernel_rfl) Tryz.ntmps84 rfl rfl fun E hT hE hN hR => ?_
  have hm := mixO hE
  (repeat (first | refine XK.n ?_ | refine XK.a ?_ | refine XK.b ?_)); refine XK.cond rfl (fun h4 => ?_) (fun h4 => ?_) <;> (try simp at h4)
  · (repeat (first | refine XK.n ?_ | refine XK.a ?_ | refine XK.b ?_))
    (first | refine XK.out rfl rfl rfl ?_ | refine XK.outN rfl rfl rfl ?_)
    simp [kindB, h4]
  · (repeat (first | refine XK.n ?_ | refine XK.a ?_ | refine XK.b ?_)); refine XK.region ?_; refine XL.g ?_
    refine XL.callLA hE rfl rfl rfl rfl trivial rfl (movable_ok k x.role) rfl ?_
    refine XL.g ?_
    refine XL.callGA hE rfl rfl rfl rfl rfl rfl rfl rfl (natural_ok k x.act) rfl ?_
    refine XL.g ?_; refine XL.fin ?_; (repeat (first | refine XK.n ?_ | refine XK.a ?_ | refine XK.b ?_))
    (repeat (first | refine XK.n ?_ | refine XK.a ?_ | refine XK.b ?_)); refine XK.cond rfl (fun hm => ?_) (fun hm => ?_)
    · (repeat (first | refine XK.n ?_ | refine XK.a ?_ | refine XK.b ?_))
      (first | refine XK.out rfl rfl rfl ?_ | refine XK.outN rfl rfl rfl ?_)
      simp [kindB, h4, hm]
    · (repeat (first | refine XK.n ?_ | refine XK.a ?_ | refine XK.b ?_)); refine XK.cond rfl (fun h1 => ?_) (fun h1 => ?_) <;> (try simp at h1)
      · (repeat (first | refine XK.n ?_ | refine XK.a ?_ | refine XK.b ?_))
        (first | refine XK.out rfl rfl rfl ?_ | refine XK.outN rfl rfl rfl ?_)
        simp [kindB, h4, hm, h1]
      · (repeat (first | refine XK.n ?_ | refine XK.a ?_ | refine XK.b ?_)); refine XK.cond rfl (fun h2 => ?_) (fun h2 => ?_) <;> (try simp at h2)
        · (repeat (first | refine XK.n ?_ | refine XK.a ?_ | refine XK.b ?_))
          (first | refine XK.out rfl rfl rfl ?_ | refine XK.outN rfl rfl rfl ?_)
          simp [kindB, h4, hm, h1, h2]
        · (repeat (first | refine XK.n ?_ | refine XK.a ?_ | refine XK.b ?_)); refine XK.cond rfl (fun h3 => ?_) (fun h3 => ?_) <;> (try simp at h3)
          · (repeat (first | refine XK.n ?_ | refine XK.a ?_ | refine XK.b ?_))
            (first | refine XK.out rfl rfl rfl ?_ | refine XK.outN rfl rfl rfl ?_)
            simp [kindB, h4, hm, h1, h2, h3]
          · (repeat (first | refine XK.n ?_ | refine XK.a ?_ | refine XK.b ?_))
            (first | refine XK.out rfl rfl rfl ?_ | refine XK.outN rfl rfl rfl ?_)
            simp [kindB, h4, hm, h1, h2, h3]
end Go.Proofs.YtlhmgphgnedlkaaGreat
end
section
/- Contracts: package contract, validAct. -/
namespace Go.Proofs.YtlhmgphgnedlkaaGreat
open Go.Eng
set_option maxRecDepth 10000
def actB (k : K) (a : Act) : Bool :=
  if !movB k a.role then a.kind == 1 && a.role == -1 && a.give == 0 && (a.to == -1 || movB k a.to) && a.unit == -1 && (a.lot.1 == 0 && a.lot.2 == 1)
  else if a.kind = 1 then
    if a.give ≠ 0 ∨ (a.to ≠ -1 ∧ movB k a.to = false) then false
    else if a.unit = -1 then a.lot.1 == 0 && a.lot.2 == 1
    else decide (0 ≤ a.unit) && decide (a.unit < k.units.length) && posB a.lot
  else if a.kind = 2 ∨ a.kind = 3 then movB k a.give && decide (0 ≤ a.to) && decide (a.to < k.parties) && a.unit == -1 && (a.lot.1 == 0 && a.lot.2 == 1)
  else false
theorem validAct_ok (k : K) (a : Act) (ha : actW a) : Does Tryz.prog 83 [kV k, .agg (actC a)] (.c (.bool (actB k a))) := by
  refine Does.mk (fun _ => false) TT_ok Tryz.func83 rfl (by kernel_rfl) Tryz.ntmps83 rfl rfl fun E hT hE hN hR => ?_
  have hm := mixO hE
  (repeat (first | refine XK.n ?_ | refine XK.a ?_ | refine XK.b ?_)); refine XK.region ?_; refine XL.g ?_
  refine XL.callLA hE rfl rfl rfl rfl trivial rfl (movable_ok k a.role) rfl ?_
  refine XL.g ?_; refine XL.fin ?_; (repeat (first | refine XK.n ?_ | refine XK.a ?_ | refine XK.b ?_))
  (repeat (first | refine XK.n ?_ | refine XK.a ?_ | refine XK.b ?_)); refine XK.cond rfl (fun hv => ?_) (fun hv => ?_)
  · (repeat (first | refine XK.n ?_ | refine XK.a ?_ | refine XK.b ?_)); refine XK.drawn hm ?_; refine XD.goA hT rfl rfl rfl rfl ?_
    refine XD.callGA hE rfl rfl rfl rfl rfl rfl rfl rfl rfl (movable_ok k a.to) rfl ?_
    refine XD.goA hT rfl rfl rfl rfl ?_
    refine XD.callGA hE rfl rfl rfl rfl rfl rfl rfl rfl rfl (none_ok) rfl ?_
    refine XD.goA hT rfl rfl rfl rfl ?_; refine XD.fin (by kernel_rfl) ?_; (repeat (first | refine XK.n ?_ | refine XK.a ?_ | refine XK.b ?_))
    (repeat (first | refine XK.n ?_ | refine XK.a ?_ | refine XK.b ?_))
    (first | refine XK.out rfl rfl rfl ?_ | refine XK.outN rfl rfl rfl ?_)
    simp [actB, hv]
  · (repeat (first | refine XK.n ?_ | refine XK.a ?_ | refine XK.b ?_)); refine XK.cond rfl (fun h1 => ?_) (fun h1 => ?_) <;> (try simp at h1)
    · (repeat (first | refine XK.n ?_ | refine XK.a ?_ | refine XK.b ?_)); refine XK.region ?_; refine XL.g ?_
      refine XL.callGA hE rfl rfl rfl rfl rfl rfl rfl rfl (movable_ok k a.to) rfl ?_
      refine XL.g ?_; refine XL.fin ?_; (repeat (first | refine XK.n ?_ | refine XK.a ?_ | refine XK.b ?_))
      (repeat (first | refine XK.n ?_ | refine XK.a ?_ | refine XK.b ?_)); refine XK.cond rfl (fun hx => ?_) (fun hx => ?_) <;> (try simp at hx)
      · (repeat (first | refine XK.n ?_ | refine XK.a ?_ | refine XK.b ?_))
        (first | refine XK.out rfl rfl rfl ?_ | refine XK.outN rfl rfl rfl ?_)
        simp [actB, hv, h1, hx]
      · have hx2 : a.to = -1 ∨ movB k a.to = true := by
          by_cases h : a.to = -1
          · exact .inl h
          · exact .inr (hx.2 h)
        (repeat (first | refine XK.n ?_ | refine XK.a ?_ | refine XK.b ?_)); refine XK.cond rfl (fun hu => ?_) (fun hu => ?_) <;> (try simp at hu)
        · (repeat (first | refine XK.n ?_ | refine XK.a ?_ | refine XK.b ?_)); refine XK.drawn hm ?_; refine XD.goA hT rfl rfl rfl rfl ?_
          refine XD.callLA hE rfl rfl rfl rfl trivial rfl (none_ok) rfl ?_
          refine XD.goA hT rfl rfl rfl rfl ?_; refine XD.fin (by kernel_rfl) ?_; (repeat (first | refine XK.n ?_ | refine XK.a ?_ | refine XK.b ?_))
          (repeat (first | refine XK.n ?_ | refine XK.a ?_ | refine XK.b ?_))
          (first | refine XK.out rfl rfl rfl ?_ | refine XK.outN rfl rfl rfl ?_)
          simp [actB, hv, h1, hx, hu]
          exact fun _ _ => hx2
        · (repeat (first | refine XK.n ?_ | refine XK.a ?_ | refine XK.b ?_)); refine XK.region ?_; refine XL.g ?_
          refine XL.callGA hE rfl rfl rfl rfl rfl rfl rfl rfl (positive_ok a.lot ha.2.2.2.2.2) rfl ?_
          refine XL.g ?_; refine XL.fin ?_; (repeat (first | refine XK.n ?_ | refine XK.a ?_ | refine XK.b ?_))
          (repeat (first | refine XK.n ?_ | refine XK.a ?_ | refine XK.b ?_))
          (first | refine XK.out rfl rfl rfl ?_ | refine XK.outN rfl rfl rfl ?_)
          simp [actB, hv, h1, hx, hu]
          exact fun _ _ _ => hx2
    · (repeat (first | refine XK.n ?_ | refine XK.a ?_ | refine XK.b ?_)); refine XK.cond rfl (fun h2 => ?_) (fun h2 => ?_) <;> (try simp at h2)
      · (repeat (first | refine XK.n ?_ | refine XK.a ?_ | refine XK.b ?_)); refine XK.cond rfl (fun h3 => ?_) (fun h3 => ?_) <;> (try simp at h3)
        · (repeat (first | refine XK.n ?_ | refine XK.a ?_ | refine XK.b ?_)); refine XK.drawn hm ?_; refine XD.goA hT rfl rfl rfl rfl ?_
          refine XD.callLA hE rfl rfl rfl rfl trivial rfl (movable_ok k a.give) rfl ?_
          refine XD.goA hT rfl rfl rfl rfl ?_
          refine XD.callGA hE rfl rfl rfl rfl rfl rfl rfl rfl rfl (none_ok) rfl ?_
          refine XD.goA hT rfl rfl rfl rfl ?_; refine XD.fin (by kernel_rfl) ?_; (repeat (first | refine XK.n ?_ | refine XK.a ?_ | refine XK.b ?_))
          (repeat (first | refine XK.n ?_ | refine XK.a ?_ | refine XK.b ?_))
          (first | refine XK.out rfl rfl rfl ?_ | refine XK.outN rfl rfl rfl ?_)
          simp [actB, hv, h1, h2]
        · exact absurd h2 h3
      · (repeat (first | refine XK.n ?_ | refine XK.a ?_ | refine XK.b ?_)); refine XK.cond rfl (fun h3 => ?_) (fun h3 => ?_) <;> (try simp at h3)
        · (repeat (first | refine XK.n ?_ | refine XK.a ?_ | refine XK.b ?_)); refine XK.drawn hm ?_; refine XD.goA hT rfl rfl rfl rfl ?_
          refine XD.callLA hE rfl rfl rfl rfl trivial rfl (movable_ok k a.give) rfl ?_
          refine XD.goA hT rfl rfl rfl rfl ?_
          refine XD.callGA hE rfl rfl rfl rfl rfl rfl rfl rfl rfl (none_ok) rfl ?_
          refine XD.goA hT rfl rfl rfl rfl ?_; refine XD.fin (by kernel_rfl) ?_; (repeat (first | refine XK.n ?_ | refine XK.a ?_ | refine XK.b ?_))
          (repeat (first | refine XK.n ?_ | refine XK.a ?_ | refine XK.b ?_))
          (first | refine XK.out rfl rfl rfl ?_ | refine XK.outN rfl rfl rfl ?_)
          simp [actB, hv, h1, h2, h3]
        · (repeat (first | refine XK.n ?_ | refine XK.a ?_ | refine XK.b ?_))
          (first | refine XK.out rfl rfl rfl ?_ | refine XK.outN rfl rfl rfl ?_)
          simp [actB, hv, h1, h2, h3]
end Go.Proofs.YtlhmgphgnedlkaaGreat
end
section
/- Contracts: package contract, held. -/
namespace Go.Proofs.YtlhmgphgnedlkaaGreat
open Go.Eng
set_option maxRecDepth 10000
def heldB (k : K) : Bool := k.holders.all (fun h => decide (0 ≤ h) && decide (h < k.parties))
theorem all_at {α : Type} [Inhabited α] {p : α → Bool} {l : List α} : l.all p = true ↔ ∀ i, i < l.length → p (l.getD i default) = true := by
  rw [List.all_eq_true]
  constructor
  · intro h i hi
    simp only [List.getD_eq_getElem?_getD, List.getElem?_eq_getElem hi, Option.getD_some]
    exact h _ (List.getElem_mem hi)
  · intro h x hx
    obtain ⟨i, hi, rfl⟩ := List.getElem_of_mem hx
    have := h i hi
    simpa only [List.getD_eq_getElem?_getD, List.getElem?_eq_getElem hi, Option.getD_some] using this
theorem all_not {α : Type} [Inhabited α] {p : α → Bool} {l : List α} {i : Nat} (hi : i < l.length) (h : p (l.getD i default) = false) : l.all p = false := by
  rw [← Bool.not_eq_true, all_at]
  intro h2
  rw [h2 i hi] at h
  cases h
theorem held_ok (k : K) (hk : kW k) : Does Tryz.prog 81 [kV k] (.c (.bool (heldB k))) := by
  refine Does.mk (fun _ => false) TT_ok Tryz.func81 rfl (by kernel_rfl) Tryz.ntmps81 rfl rfl fun E hT hE hN hR => ?_
  have hm := mixO hE
  have hp : -9223372036854775808 ≤ k.parties ∧ k.parties ≤ 9223372036854775807 := hk.1
  (repeat (first | refine XK.n ?_ | refine XK.a ?_ | refine XK.b ?_))
  refine XK.fact (Sat.rs_len (j := 6) rfl) fun hlen => ?_
  have hm' := hlen.1
  refine XK.loop (ι := Nat) (fun i => ST.of [(1, .ptr 1 0), (7, .c (.int .i64 k.holders.length)), (8, .c (.int .i64 i))] [(1, .cells 27 (kC k))] 1000 25 (fun _ => false))
    (fun i => i ≤ k.holders.length ∧ ∀ j, j < i → (decide (0 ≤ k.holders.getD j default) && decide (k.holders.getD j default < k.parties)) = true) (fun i => k.holders.length - i) 0 ⟨Nat.zero_le _, fun j hj => absurd hj (Nat.not_lt_zero _)⟩
    (Weak.of hN rfl rfl rfl ⟨rfl, rfl, rfl⟩ ⟨rfl, rfl⟩) fun i hi => ?_
  obtain ⟨hi1, hi2⟩ := hi
  (repeat (first | refine XK.n ?_ | refine XK.a ?_ | refine XK.b ?_)); refine XK.cond rfl (fun hlt => ?_) (fun hlt => ?_) <;> (try simp at hlt)
  · (repeat (first | refine XK.n ?_ | refine XK.a ?_ | refine XK.b ?_))
    refine XK.loop (ι := Nat) (fun p => ST.of [(1, .ptr 1 0), (3, .c (.int .i64 i)), (7, .c (.int .i64 k.holders.length)), (8, .c (.int .i64 i)), (12, .c (.int .i64 k.parties)), (13, .c (.int .i64 p))] [(1, .cells 27 (kC k))] 2000 25 (fun _ => false))
      (fun p => (p = 0 ∨ (p : Int) ≤ k.parties) ∧ ∀ q : Nat, q < p → k.holders.getD i default ≠ q) (fun p => k.parties.toNat - p) 0 ⟨.inl rfl, fun j hj => absurd hj (Nat.not_lt_zero _)⟩
      (Weak.of hN rfl rfl rfl ⟨rfl, rfl, rfl, rfl, rfl, rfl⟩ ⟨rfl, rfl⟩) fun p hp2 => ?_
    obtain ⟨hp1, hp2⟩ := hp2
    (repeat (first | refine XK.n ?_ | refine XK.a ?_ | refine XK.b ?_)); refine XK.cond rfl (fun hc => ?_) (fun hc => ?_) <;> (try simp at hc)
    · (repeat (first | refine XK.n ?_ | refine XK.a ?_ | refine XK.b ?_)); refine XK.cond rfl (fun he => ?_) (fun he => ?_) <;> (try simp at he)
      · (repeat (first | refine XK.n ?_ | refine XK.a ?_ | refine XK.b ?_))
        refine XK.inv ⟨i + 1, ⟨hlt, fun j hj => ?_⟩, Weak.of hN rfl rfl rfl ⟨rfl, rfl, rfl⟩ ⟨rfl, rfl⟩, by omega⟩
        by_cases h : j = i
        · subst h
          have he : k.holders.getD j default = p := by simpa using he
          rw [he]
          simp
          omega
        · exact hi2 j (by omega)
      · (repeat (first | refine XK.n ?_ | refine XK.a ?_ | refine XK.b ?_))
        refine XK.inv ⟨p + 1, ⟨.inr (by omega), fun q hq => ?_⟩, Weak.of hN rfl rfl rfl ⟨rfl, rfl, rfl, rfl, rfl, rfl⟩ ⟨rfl, rfl⟩, by omega⟩
        by_cases h : q = p
        · subst h
          simpa using he
        · exact hp2 q (by omega)
    · (repeat (first | refine XK.n ?_ | refine XK.a ?_ | refine XK.b ?_))
      (first | refine XK.out rfl rfl rfl ?_ | refine XK.outN rfl rfl rfl ?_)
      refine cB ?_
      symm
      refine all_not hlt ?_
      by_cases h0 : 0 ≤ k.holders.getD i default
      · have := hp2 (k.holders.getD i default).toNat
        simp only [Bool.and_eq_false_iff, decide_eq_false_iff_not]
        right
        intro h1
        exact hp2 (k.holders.getD i default).toNat (by omega) (by omega)
      · simp only [Bool.and_eq_false_iff, decide_eq_false_iff_not]
        exact .inl h0
  · (repeat (first | refine XK.n ?_ | refine XK.a ?_ | refine XK.b ?_))
    (first | refine XK.out rfl rfl rfl ?_ | refine XK.outN rfl rfl rfl ?_)
    refine cB ?_
    symm
    exact all_at.2 fun j hj => hi2 j (by omega)
end Go.Proofs.YtlhmgphgnedlkaaGreat
end
