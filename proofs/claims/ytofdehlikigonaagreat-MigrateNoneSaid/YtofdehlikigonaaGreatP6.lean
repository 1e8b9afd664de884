import Derived.Test.YtofdehlikigonaaGreatTys
import Derived.KernelRfl
import Derived.Test.YtofdehlikigonaaGreatP5
import Derived.Test.YtofdehlikigonaaGreatP4
import Derived.Lib.Mul64
import Derived.Laws.Bits64b
section
/- Contracts: package ratio's and its reference's arithmetic on magnitudes. -/
namespace Go.Proofs.YtofdehlikigonaaGreat
open Go.Eng
set_option maxRecDepth 10000
set_option linter.unusedSimpArgs false
set_option linter.unusedVariables false
theorem tdiv_nn (a b : Nat) : Int.tdiv (a : Int) (b : Int) = ((a / b : Nat) : Int) := rfl
theorem tmod_nn (a b : Nat) : Int.tmod (a : Int) (b : Int) = ((a % b : Nat) : Int) := rfl
theorem cI {k : IntKind} {a b : Int} (h : a = b) : AV.c (.int k a) = AV.c (.int k b) := by rw [h]
theorem cB {a b : Bool} (h : a = b) : AV.c (.bool a) = AV.c (.bool b) := by rw [h]
theorem magnitude_ok (n : Int) (h : inK .i64 n) : Does Tryz.prog 119 [.c (.int .i64 n)] (.c (.int .u64 (n.natAbs : Int))) := by
  refine Does.mk (fun _ => false) TT_ok Tryz.func119 rfl (by kernel_rfl) Tryz.ntmps119 rfl rfl fun E hT hE hN hR => ?_
  have hm : E.P.follows .mixedOrders = true := by rw [hE]; kernel_rfl
  simp only [inK] at h
  (repeat (first | refine XK.norm rfl rfl ?_ | refine XK.rgnA hT rfl rfl rfl ?_ | refine XK.rgnB hT hm rfl rfl rfl ?_))
  (repeat (first | refine XK.norm rfl rfl ?_ | refine XK.rgnA hT rfl rfl rfl ?_ | refine XK.rgnB hT hm rfl rfl rfl ?_)); refine XK.cond rfl (fun hb => ?_) (fun hb => ?_)
  · have hn : n < 0 := by simpa using hb
    (repeat (first | refine XK.norm rfl rfl ?_ | refine XK.rgnA hT rfl rfl rfl ?_ | refine XK.rgnB hT hm rfl rfl rfl ?_))
    (repeat (first | refine XK.norm rfl rfl ?_ | refine XK.rgnA hT rfl rfl rfl ?_ | refine XK.rgnB hT hm rfl rfl rfl ?_))
    exact XK.ret (RetQ.ret rfl rfl (cI (by omega)))
  · have hn : ¬ n < 0 := by simpa using hb
    (repeat (first | refine XK.norm rfl rfl ?_ | refine XK.rgnA hT rfl rfl rfl ?_ | refine XK.rgnB hT hm rfl rfl rfl ?_))
    (repeat (first | refine XK.norm rfl rfl ?_ | refine XK.rgnA hT rfl rfl rfl ?_ | refine XK.rgnB hT hm rfl rfl rfl ?_))
    exact XK.ret (RetQ.ret rfl rfl (cI (by omega)))
def gcdTo (g : Nat → Nat) : Nat → Nat
  | 0 => 0
  | n + 1 => Nat.gcd (gcdTo g n) (g n)
theorem divisor_ok (g : Nat → Nat) (n : Nat) (hg : ∀ i, i < n → g i ≤ 18446744073709551615) : Does Tryz.prog 118 [.rs 1 n (fun i => [.c (.int .u64 (g i))])] (.c (.int .u64 (gcdTo g n : Nat))) := by
  refine Does.mk (fun _ => false) TT_ok Tryz.func118 rfl (by kernel_rfl) Tryz.ntmps118 rfl rfl fun E hT hE hN hR => ?_
  have hm : E.P.follows .mixedOrders = true := by rw [hE]; kernel_rfl
  refine XK.fact (Sat.rs_len (j := 0) rfl) fun hlen => ?_
  have hn := hlen.1
  have hG : ∀ i, i ≤ n → gcdTo g i ≤ 18446744073709551615 := by
    intro i hi
    induction i with
    | zero => simp [gcdTo]
    | succ i ih =>
      have h1 := ih (by omega)
      have h2 := hg i (by omega)
      simp only [gcdTo]
      by_cases h0 : gcdTo g i = 0
      · rw [h0]; simpa using h2
      · exact Nat.le_trans (Nat.gcd_le_left _ (Nat.pos_of_ne_zero h0)) h1
  (repeat (first | refine XK.norm rfl rfl ?_ | refine XK.rgnA hT rfl rfl rfl ?_ | refine XK.rgnB hT hm rfl rfl rfl ?_))
  refine XK.loop (ι := Nat) (fun i => ST.of [(3, .c (.int .u64 (gcdTo g i))), (6, .rs 1 n (fun i => [.c (.int .u64 (g i))])), (7, .c (.int .i64 n)), (8, .c (.int .i64 i))] [] 1000 20 (fun _ => false))
    (fun i => i ≤ n) (fun i => n - i) 0 (by omega) (Weak.of hN rfl rfl rfl ⟨rfl, ⟨rfl, rfl, fun _ _ => rfl⟩, rfl, rfl⟩ trivial) fun i hi => ?_
  (repeat (first | refine XK.norm rfl rfl ?_ | refine XK.rgnA hT rfl rfl rfl ?_ | refine XK.rgnB hT hm rfl rfl rfl ?_))
  (repeat (first | refine XK.norm rfl rfl ?_ | refine XK.rgnA hT rfl rfl rfl ?_ | refine XK.rgnB hT hm rfl rfl rfl ?_)); refine XK.cond rfl (fun hb => ?_) (fun hb => ?_)
  · have hlt : i < n := by simpa using hb
    (repeat (first | refine XK.norm rfl rfl ?_ | refine XK.rgnA hT rfl rfl rfl ?_ | refine XK.rgnB hT hm rfl rfl rfl ?_))
    (repeat (first | refine XK.norm rfl rfl ?_ | refine XK.rgnA hT rfl rfl rfl ?_ | refine XK.rgnB hT hm rfl rfl rfl ?_))
    (repeat (first | refine XK.norm rfl rfl ?_ | refine XK.rgnA hT rfl rfl rfl ?_ | refine XK.rgnB hT hm rfl rfl rfl ?_))
    refine XK.loop (ι := Nat × Nat) (fun p => ST.of [(3, .c (.int .u64 p.1)), (5, .c (.int .u64 p.2)), (6, .rs 1 n (fun i => [.c (.int .u64 (g i))])), (7, .c (.int .i64 n)), (8, .c (.int .i64 i))] [] 1000 20 (fun _ => false))
      (fun p => p.1 ≤ 18446744073709551615 ∧ p.2 ≤ 18446744073709551615 ∧ Nat.gcd p.1 p.2 = gcdTo g (i + 1)) (fun p => p.2) (gcdTo g i, g i) ⟨hG i (by omega), hg i hlt, rfl⟩
      (Weak.of hN rfl rfl rfl ⟨rfl, rfl, ⟨rfl, rfl, fun _ _ => rfl⟩, rfl, rfl⟩ trivial) fun p hp => ?_
    obtain ⟨x, y⟩ := p
    obtain ⟨h1, h2, h3⟩ := hp
    simp only at h1 h2 h3
    (repeat (first | refine XK.norm rfl rfl ?_ | refine XK.rgnA hT rfl rfl rfl ?_ | refine XK.rgnB hT hm rfl rfl rfl ?_))
    (repeat (first | refine XK.norm rfl rfl ?_ | refine XK.rgnA hT rfl rfl rfl ?_ | refine XK.rgnB hT hm rfl rfl rfl ?_)); refine XK.cond rfl (fun hb => ?_) (fun hb => ?_)
    · have hy : y ≠ 0 := by simpa using hb
      (repeat (first | refine XK.norm rfl rfl ?_ | refine XK.rgnA hT rfl rfl rfl ?_ | refine XK.rgnB hT hm rfl rfl rfl ?_))
      (repeat (first | refine XK.norm rfl rfl ?_ | refine XK.rgnA hT rfl rfl rfl ?_ | refine XK.rgnB hT hm rfl rfl rfl ?_))
      (repeat (first | refine XK.norm rfl rfl ?_ | refine XK.rgnA hT rfl rfl rfl ?_ | refine XK.rgnB hT hm rfl rfl rfl ?_))
      refine XK.inv ⟨(y, x % y), ⟨h2, ?_, ?_⟩, Weak.of hN rfl rfl rfl ⟨?_, ?_, ⟨rfl, rfl, fun _ _ => rfl⟩, rfl, rfl⟩ trivial, ?_⟩
      · exact Nat.le_trans (Nat.le_of_lt (Nat.mod_lt _ (Nat.pos_of_ne_zero hy))) h2
      · rw [← h3, Nat.gcd_comm x y, Nat.gcd_rec y x, Nat.gcd_comm]
      · rfl
      · rfl
      · exact Nat.mod_lt _ (Nat.pos_of_ne_zero hy)
    · have hy : y = 0 := by simpa using hb
      subst hy
      (repeat (first | refine XK.norm rfl rfl ?_ | refine XK.rgnA hT rfl rfl rfl ?_ | refine XK.rgnB hT hm rfl rfl rfl ?_))
      (repeat (first | refine XK.norm rfl rfl ?_ | refine XK.rgnA hT rfl rfl rfl ?_ | refine XK.rgnB hT hm rfl rfl rfl ?_))
      refine XK.inv ⟨i + 1, hlt, Weak.of hN rfl rfl rfl ⟨?_, ⟨rfl, rfl, fun _ _ => rfl⟩, rfl, rfl⟩ trivial, ?_⟩
      · rw [← h3]; simp [AvIs]; rfl
      · omega
  · have : i = n := by
      have : ¬ i < n := by simpa using hb
      omega
    subst this
    (repeat (first | refine XK.norm rfl rfl ?_ | refine XK.rgnA hT rfl rfl rfl ?_ | refine XK.rgnB hT hm rfl rfl rfl ?_))
    exact XK.ret (RetQ.ret rfl rfl rfl)
end Go.Proofs.YtofdehlikigonaaGreat
end
section
/- What the arithmetic of package ratio computes: no program in sight. -/
namespace Go.Proofs.YtofdehlikigonaaGreat
open Go.Eng
abbrev Q := Int × Int
def qv (q : Q) : AV := .agg [.c (.int .i64 q.1), .c (.int .i64 q.2)]
def qr (r : Q × Int) : AV := .tup [qv r.1, .c (.int .i64 r.2)]
def qOk (q : Q) : Bool := decide (1 ≤ q.2 ∧ q.2 ≤ 1000000 ∧ -1000000000000 ≤ q.1 ∧ q.1 ≤ 1000000000000 ∧ Nat.gcd q.1.natAbs q.2.natAbs = 1)
theorem qOk_iff {q : Q} : qOk q = true ↔ 1 ≤ q.2 ∧ q.2 ≤ 1000000 ∧ -1000000000000 ≤ q.1 ∧ q.1 ≤ 1000000000000 ∧ Nat.gcd q.1.natAbs q.2.natAbs = 1 := by simp [qOk]
def fracR (neg : Bool) (num den : Nat) : Q × Int :=
  if 1000000000000 < num / Nat.gcd num den ∨ 1000000 < den / Nat.gcd num den then ((0, 0), 2)
  else ((if neg then -((num / Nat.gcd num den : Nat) : Int) else ((num / Nat.gcd num den : Nat) : Int), ((den / Nat.gcd num den : Nat) : Int)), 0)
def makeR (num den : Int) : Q × Int := if den = 0 then ((0, 0), 1) else fracR (decide (num < 0) != decide (den < 0)) num.natAbs den.natAbs
def addR (a b : Q) : Q × Int := if qOk a && qOk b then makeR (a.1 * b.2 + b.1 * a.2) (a.2 * b.2) else ((0, 0), 1)
def cmpR (a b : Q) : Int := if qOk a && qOk b then (if a.1 * b.2 < b.1 * a.2 then -1 else if b.1 * a.2 < a.1 * b.2 then 1 else 0) else 0
/-- A pair of two words. -/
def qW (q : Q) : Prop := inK .i64 q.1 ∧ inK .i64 q.2
theorem qOk_W {q : Q} (h : qOk q = true) : qW q := by
  obtain ⟨h1, h2, h3, h4, _⟩ := qOk_iff.1 h
  simp only [qW, inK]; omega
theorem prod_bound {a b : Int} {A B : Int} (h1 : -A ≤ a) (h2 : a ≤ A) (h3 : 0 ≤ b) (h4 : b ≤ B) (hA : 0 ≤ A) : -(A * B) ≤ a * b ∧ a * b ≤ A * B := by
  constructor
  · have e1 : -A * b ≤ a * b := Int.mul_le_mul_of_nonneg_right h1 h3
    have e2 : A * b ≤ A * B := Int.mul_le_mul_of_nonneg_left h4 hA
    have e3 : -A * b = -(A * b) := Int.neg_mul _ _
    omega
  · exact Int.le_trans (Int.mul_le_mul_of_nonneg_right h2 h3) (Int.mul_le_mul_of_nonneg_left h4 hA)
theorem q_prod {a b : Q} (ha : qOk a = true) (hb : qOk b = true) : (-1000000000000000000 ≤ a.1 * b.2 ∧ a.1 * b.2 ≤ 1000000000000000000) ∧ (1 ≤ a.2 * b.2 ∧ a.2 * b.2 ≤ 1000000000000) := by
  obtain ⟨h1, h2, h3, h4, _⟩ := qOk_iff.1 ha
  obtain ⟨g1, g2, g3, g4, _⟩ := qOk_iff.1 hb
  have e1 := prod_bound (A := 1000000000000) (B := 1000000) h3 h4 (by omega) g2 (by omega)
  have e2 := prod_bound (A := 1000000) (B := 1000000) (a := a.2) (b := b.2) (by omega) h2 (by omega) g2 (by omega)
  have e3 : 0 < a.2 * b.2 := Int.mul_pos (by omega) (by omega)
  omega
end Go.Proofs.YtofdehlikigonaaGreat
end
section
/- Contracts: package ratio. -/
namespace Go.Proofs.YtofdehlikigonaaGreat
open Go.Eng
set_option maxRecDepth 10000
set_option linter.unusedSimpArgs false
set_option linter.unusedVariables false
theorem gcd2 (a b : Nat) : gcdTo (fun i => if i = 0 then a else b) 2 = Nat.gcd a b := by simp [gcdTo]
theorem valid_ok (q : Q) (h : qW q) : Does Tryz.prog 100 [qv q] (.c (.bool (qOk q))) := by
  refine Does.mk (fun _ => false) TT_ok Tryz.func100 rfl (by kernel_rfl) Tryz.ntmps100 rfl rfl fun E hT hE hN hR => ?_
  have hm : E.P.follows .mixedOrders = true := by rw [hE]; kernel_rfl
  obtain ⟨n, d⟩ := q
  obtain ⟨h1, h2⟩ := h
  simp only [inK] at h1 h2
  (repeat (first | refine XK.norm rfl rfl ?_ | refine XK.rgnA hT rfl rfl rfl ?_ | refine XK.rgnB hT hm rfl rfl rfl ?_)); refine XK.cond rfl (fun hb => ?_) (fun hb => ?_)
  · (repeat (first | refine XK.norm rfl rfl ?_ | refine XK.rgnA hT rfl rfl rfl ?_ | refine XK.rgnB hT hm rfl rfl rfl ?_))
    (first | refine XK.out rfl rfl rfl ?_ | refine XK.outN rfl rfl rfl ?_)
    congr 2
    simp only [Bool.or_eq_true, decide_eq_true_eq] at hb
    simp only [qOk]
    symm
    simp only [decide_eq_false_iff_not]
    omega
  · simp only [Bool.or_eq_false_iff, decide_eq_false_iff_not] at hb
    (repeat (first | refine XK.norm rfl rfl ?_ | refine XK.rgnA hT rfl rfl rfl ?_ | refine XK.rgnB hT hm rfl rfl rfl ?_)); refine XK.drawn hm ?_; refine XD.goA hT rfl rfl rfl rfl ?_
    refine XD.callL hE rfl rfl rfl rfl trivial rfl (magnitude_ok n h1) ?_ rfl ?_
    · exact rfl
    refine XD.goA hT rfl rfl rfl rfl ?_
    refine XD.callL hE rfl rfl rfl rfl trivial rfl (magnitude_ok d h2) ?_ rfl ?_
    · exact rfl
    refine XD.goA hT rfl rfl rfl rfl ?_
    refine XD.callL hE rfl rfl rfl rfl trivial rfl (divisor_ok (fun i => if i = 0 then n.natAbs else d.natAbs) 2 (fun i hi => by split <;> omega)) ?_ rfl ?_
    · refine ⟨rfl, rfl, fun i hi => ?_⟩
      match i, hi with
      | 0, _ => rfl
      | 1, _ => rfl
    rw [gcd2]
    refine XD.goA hT rfl rfl rfl rfl ?_; refine XD.fin (by kernel_rfl) ?_; (repeat (first | refine XK.norm rfl rfl ?_ | refine XK.rgnA hT rfl rfl rfl ?_ | refine XK.rgnB hT hm rfl rfl rfl ?_))
    (repeat (first | refine XK.norm rfl rfl ?_ | refine XK.rgnA hT rfl rfl rfl ?_ | refine XK.rgnB hT hm rfl rfl rfl ?_))
    (first | refine XK.out rfl rfl rfl ?_ | refine XK.outN rfl rfl rfl ?_)
    congr 2
    rw [Bool.eq_iff_iff, qOk_iff]
    simp only [beq_iff_eq]
    omega
end Go.Proofs.YtofdehlikigonaaGreat
end
section
/- Tables of units and amounts, and what package quantity computes: no program in sight. -/
namespace Go.Proofs.YtofdehlikigonaaGreat
open Go.Eng
structure U where
  name : ByteArray
  kind : Int
  base : Int
  fac : Q
/-- An amount: its unit, its value. -/
structure A where
  unit : Int
  val : Q
def uc (u : U) : List AV := [.c (.string u.name), .c (.int .i64 u.kind), .c (.int .i64 u.base), .c (.int .i64 u.fac.1), .c (.int .i64 u.fac.2)]
def ac (a : A) : List AV := [.c (.int .i64 a.unit), .c (.int .i64 a.val.1), .c (.int .i64 a.val.2)]
def qc (q : Q) : List AV := [.c (.int .i64 q.1), .c (.int .i64 q.2)]
def av (a : A) : AV := .agg [.c (.int .i64 a.unit), .c (.int .i64 a.val.1), .c (.int .i64 a.val.2)]
def tabV (n : Nat) (t : Nat → U) : AV := .rs 5 n (fun i => uc (t i))
def amtV (n : Nat) (l : Nat → A) : AV := .rs 3 n (fun i => ac (l i))
def ratV (n : Nat) (l : Nat → Q) : AV := .rs 2 n (fun i => qc (l i))
def uW (u : U) : Prop := inK .i64 u.kind ∧ inK .i64 u.base ∧ qW u.fac
def aW (a : A) : Prop := inK .i64 a.unit ∧ qW a.val
theorem bytes_beq {a b : ByteArray} : (a == b) = true ↔ a = b := by
  obtain ⟨x⟩ := a
  obtain ⟨y⟩ := b
  show ((x == y) = true) ↔ _
  simp
theorem bytes_bne {a b : ByteArray} : (a == b) = false ↔ a ≠ b := by rw [← Bool.not_eq_true, bytes_beq]
def emptyName : ByteArray := { data := #[] }
/-- The unit with index i is valid. -/
def uOk (t : Nat → U) (n i : Nat) : Prop :=
  (i < 20 ∧ (t i).name ≠ emptyName ∧ ∀ j, j < i → (t j).name ≠ (t i).name) ∧ (((t i).kind = 1 ∨ (t i).kind = 2) ∧ qOk (t i).fac = true ∧ 0 < (t i).fac.1) ∧
  ((0 ≤ (t i).base ∧ (t i).base < n) ∧ (t (t i).base.toNat).kind = (t i).kind ∧ (t (t i).base.toNat).base = (t i).base) ∧ ((t i).base ≠ i ∨ (t i).fac = (1, 1))
instance (t : Nat → U) (n i : Nat) : Decidable (uOk t n i) := by unfold uOk; infer_instance
def uOkB (t : Nat → U) (n i : Nat) : Bool := decide (uOk t n i)
theorem uOkB_iff {t : Nat → U} {n i : Nat} : uOkB t n i = true ↔ uOk t n i := by unfold uOkB; exact decide_eq_true_iff
theorem uOkB_false {t : Nat → U} {n i : Nat} : uOkB t n i = false ↔ ¬ uOk t n i := by rw [← uOkB_iff]; simp
end Go.Proofs.YtofdehlikigonaaGreat
end
section
/- Contracts: the reference of package ratio. -/
namespace Go.Proofs.YtofdehlikigonaaGreat
open Go.Eng
set_option maxRecDepth 10000
set_option linter.unusedSimpArgs false
set_option linter.unusedVariables false
def ofR (neg : Bool) (num den : Nat) : Q × Int := if den = 0 then ((0, 0), 1) else fracR neg num den
theorem ofR_makeR (num den : Int) : ofR (decide (num < 0) != decide (den < 0)) num.natAbs den.natAbs = makeR num den := by
  unfold ofR makeR
  by_cases h : den = 0
  · simp [h]
  · have : den.natAbs ≠ 0 := by omega
    simp [h]
end Go.Proofs.YtofdehlikigonaaGreat
end
section
/- How this seat's Go types read as values of Lean types. -/
namespace Go.Proofs.YtofdehlikigonaaGreat
open Go.Eng
set_option maxRecDepth 10000
set_option linter.unusedSimpArgs false
set_option linter.unusedVariables false
instance : Inhabited U := ⟨⟨emptyName, 0, 0, (0, 0)⟩⟩
instance : Inhabited A := ⟨⟨0, (0, 0)⟩⟩
noncomputable def cInt : Codec Tryz.prog 3 Int := Codec.int .i64 (show Tryz.prog.underlying 3 = some (.int .i64) from by kernel_rfl) (by kernel_rfl)
noncomputable def cU8 : Codec Tryz.prog 5 Int := Codec.int .u8 (show Tryz.prog.underlying 5 = some (.int .u8) from by kernel_rfl) (by kernel_rfl)
noncomputable def cStr : Codec Tryz.prog 9 ByteArray := Codec.str (show Tryz.prog.underlying 9 = some .string from by kernel_rfl) (by kernel_rfl)
noncomputable def cQ : Codec Tryz.prog 30 Q := (Codec.struct ty30_k rfl (.cons cInt (.cons cInt (.nil _ _))) (by kernel_rfl)).map (fun x => (x.1, x.2.1)) qc qW (fun _ => rfl) (fun _ => rfl) (fun _ h => ⟨h.1, h.2.1⟩)
noncomputable def cU : Codec Tryz.prog 90 U := (Codec.struct ty90_k rfl (.cons cStr (.cons cInt (.cons cInt (.cons cQ (.nil _ _))))) (by kernel_rfl)).map (fun x => ⟨x.1, x.2.1, x.2.2.1, x.2.2.2.1⟩) uc uW (fun _ => rfl) (fun _ => rfl) (fun _ h => ⟨h.2.1, h.2.2.1, h.2.2.2.1⟩)
noncomputable def cUs : Codec Tryz.prog 23 (List U) := Codec.slice cU ty23_k (by decide) (by kernel_rfl)
theorem all_getD {α : Type} [Inhabited α] {p : α → Prop} {l : List α} (h : ∀ a ∈ l, p a) : ∀ j, j < l.length → p (l.getD j default) := by
  intro j hj
  simp only [List.getD_eq_getElem?_getD, List.getElem?_eq_getElem hj, Option.getD_some]
  exact h _ (List.getElem_mem hj)
end Go.Proofs.YtofdehlikigonaaGreat
end
section
/- Products of three numbers, and the fraction that is left when common divisors are gone: no program in sight. -/
namespace Go.Proofs.YtofdehlikigonaaGreat
open Go.Eng
theorem frac_unique {p q N D : Nat} (hc : Nat.gcd p q = 1) (hq : 0 < q) (hD : 0 < D) (h : p * D = q * N) : p = N / Nat.gcd N D ∧ q = D / Nat.gcd N D := by
  have hg : 0 < Nat.gcd N D := Nat.gcd_pos_of_pos_right _ hD
  obtain ⟨n, hn⟩ := Nat.gcd_dvd_left N D
  obtain ⟨d, hd⟩ := Nat.gcd_dvd_right N D
  have hnd : Nat.gcd n d = 1 := by
    have := Nat.gcd_mul_left (Nat.gcd N D) n d
    rw [← hn, ← hd] at this
    exact Nat.eq_of_mul_eq_mul_left hg (by rw [← this, Nat.mul_one])
  have e1 : N / Nat.gcd N D = n := by
    rw [Nat.div_eq_of_eq_mul_right hg hn]
  have e2 : D / Nat.gcd N D = d := by
    rw [Nat.div_eq_of_eq_mul_right hg hd]
  rw [e1, e2]
  have hd0 : 0 < d := by
    rcases Nat.eq_zero_or_pos d with h0 | h0
    · rw [h0, Nat.mul_zero] at hd; omega
    · exact h0
  have h2 : p * d = q * n := by
    have : Nat.gcd N D * (p * d) = Nat.gcd N D * (q * n) := by
      have a1 : Nat.gcd N D * (p * d) = p * (Nat.gcd N D * d) := by rw [Nat.mul_left_comm]
      have a2 : Nat.gcd N D * (q * n) = q * (Nat.gcd N D * n) := by rw [Nat.mul_left_comm]
      rw [a1, a2, ← hd, ← hn]; exact h
    exact Nat.eq_of_mul_eq_mul_left hg this
  have k1 : d ∣ q := by
    have : d ∣ q * n := ⟨p, by rw [← h2, Nat.mul_comm]⟩
    exact (Nat.Coprime.dvd_of_dvd_mul_right (show Nat.Coprime d n by rw [Nat.Coprime, Nat.gcd_comm]; exact hnd) this)
  have k2 : q ∣ d := by
    have : q ∣ d * p := ⟨n, by rw [← h2, Nat.mul_comm]⟩
    exact (Nat.Coprime.dvd_of_dvd_mul_right (show Nat.Coprime q p by rw [Nat.Coprime, Nat.gcd_comm]; exact hc) this)
  have hqd : q = d := Nat.dvd_antisymm k2 k1
  subst hqd
  refine ⟨?_, rfl⟩
  rw [Nat.mul_comm] at h2
  exact Nat.eq_of_mul_eq_mul_left hq h2
def P3 (x : Nat → Nat) : Nat := x 0 * x 1 * x 2
def setN (f : Nat → Nat) (i : Nat) (v : Nat) : Nat → Nat := fun j => if j = i then v else f j
theorem P3_set {x : Nat → Nat} {i g : Nat} (hi : i < 3) (hg : g ∣ x i) : P3 (setN x i (x i / g)) * g = P3 x := by
  obtain ⟨c, hc⟩ := hg
  rcases Nat.eq_zero_or_pos g with h0 | h0
  · subst h0
    have hx : x i = 0 := by simpa using hc
    match i, hi with
    | 0, _ => simp [P3, hx]
    | 1, _ => simp [P3, hx]
    | 2, _ => simp [P3, hx]
  · have e : x i / g = c := by rw [Nat.div_eq_of_eq_mul_right h0 hc]
    rw [e]
    match i, hi with
    | 0, _ => simp only [P3, setN]; rw [hc]; simp; grind
    | 1, _ => simp only [P3, setN]; rw [hc]; simp; grind
    | 2, _ => simp only [P3, setN]; rw [hc]; simp; grind
/-- Halfway: pairs ahead of (i, j) have no common divisor left. -/
structure Half (N D B : Nat) (x y : Nat → Nat) (i j : Nat) : Prop where
  pos : ∀ k, k < 3 → 0 < y k
  px : ∀ k, 0 < k → k < 3 → 0 < x k
  bx : ∀ k, k < 3 → x k ≤ B
  by_ : ∀ k, k < 3 → y k ≤ B
  eq : P3 x * D = P3 y * N
  done : ∀ i' j', i' < 3 → j' < 3 → (i' < i ∨ i' = i ∧ j' < j) → Nat.gcd (x i') (y j') = 1
theorem gcd_one_of_dvd {a b c d : Nat} (h : Nat.gcd a b = 1) (h1 : c ∣ a) (h2 : d ∣ b) : Nat.gcd c d = 1 :=
  Nat.eq_one_of_dvd_one (h ▸ Nat.dvd_gcd (Nat.dvd_trans (Nat.gcd_dvd_left c d) h1) (Nat.dvd_trans (Nat.gcd_dvd_right c d) h2))
theorem Half.step {N D B : Nat} {x y : Nat → Nat} {i j : Nat} (h : Half N D B x y i j) (hi : i < 3) (hj : j < 3) : Half N D B (setN x i (x i / Nat.gcd (x i) (y j))) (setN y j (y j / Nat.gcd (x i) (y j))) i (j + 1) := by
  have hg : 0 < Nat.gcd (x i) (y j) := Nat.gcd_pos_of_pos_right _ (h.pos j hj)
  have dx : ∀ k, setN x i (x i / Nat.gcd (x i) (y j)) k ∣ x k := fun k => by
    unfold setN
    split
    · rename_i e; subst e; exact Nat.div_dvd_of_dvd (Nat.gcd_dvd_left _ _)
    · exact Nat.dvd_refl _
  have dy : ∀ k, setN y j (y j / Nat.gcd (x i) (y j)) k ∣ y k := fun k => by
    unfold setN
    split
    · rename_i e; subst e; exact Nat.div_dvd_of_dvd (Nat.gcd_dvd_right _ _)
    · exact Nat.dvd_refl _
  refine ⟨fun k hk => Nat.pos_of_dvd_of_pos (dy k) (h.pos k hk), fun k h0 hk => Nat.pos_of_dvd_of_pos (dx k) (h.px k h0 hk), fun k hk => ?_, fun k hk => Nat.le_trans (Nat.le_of_dvd (h.pos k hk) (dy k)) (h.by_ k hk), ?_, fun i' j' hi' hj' hlt => ?_⟩
  · unfold setN
    split
    · rename_i e; subst e; exact Nat.le_trans (Nat.div_le_self _ _) (h.bx k hk)
    · exact h.bx k hk
  · have e1 := P3_set hi (Nat.gcd_dvd_left (x i) (y j))
    have e2 := P3_set hj (Nat.gcd_dvd_right (x i) (y j))
    have := h.eq
    rw [← e1, ← e2] at this
    generalize P3 (setN x i (x i / Nat.gcd (x i) (y j))) = a at *
    generalize P3 (setN y j (y j / Nat.gcd (x i) (y j))) = b at *
    generalize Nat.gcd (x i) (y j) = g at *
    refine Nat.eq_of_mul_eq_mul_left hg ?_
    rw [Nat.mul_right_comm, Nat.mul_right_comm b] at this
    rw [Nat.mul_comm g, Nat.mul_comm g]
    exact this
  · by_cases hij : i' = i ∧ j' = j
    · obtain ⟨rfl, rfl⟩ := hij
      simp only [setN, if_true]
      rw [Nat.gcd_div (Nat.gcd_dvd_left _ _) (Nat.gcd_dvd_right _ _)]
      exact Nat.div_self hg
    · exact gcd_one_of_dvd (h.done i' j' hi' hj' (by omega)) (dx i') (dy j')
theorem Half.next {N D B : Nat} {x y : Nat → Nat} {i : Nat} (h : Half N D B x y i 3) : Half N D B x y (i + 1) 0 :=
  ⟨h.pos, h.px, h.bx, h.by_, h.eq, fun i' j' hi' hj' hlt => h.done i' j' hi' hj' (by omega)⟩
theorem Half.cop {N D B : Nat} {x y : Nat → Nat} (h : Half N D B x y 3 0) : Nat.gcd (P3 x) (P3 y) = 1 := by
  have hc : ∀ i j, i < 3 → j < 3 → Nat.Coprime (x i) (y j) := fun i j hi hj => h.done i j hi hj (by omega)
  have row : ∀ i, i < 3 → Nat.Coprime (x i) (P3 y) := fun i hi => Nat.Coprime.mul_right (Nat.Coprime.mul_right (hc i 0 hi (by omega)) (hc i 1 hi (by omega))) (hc i 2 hi (by omega))
  exact Nat.Coprime.mul_left (Nat.Coprime.mul_left (row 0 (by omega)) (row 1 (by omega))) (row 2 (by omega))
theorem Half.end_ {N D B : Nat} {x y : Nat → Nat} (h : Half N D B x y 3 0) (hD : 0 < D) : P3 x = N / Nat.gcd N D ∧ P3 y = D / Nat.gcd N D := by
  have hc : ∀ i j, i < 3 → j < 3 → Nat.Coprime (x i) (y j) := fun i j hi hj => h.done i j hi hj (by omega)
  have hpos : 0 < P3 y := Nat.mul_pos (Nat.mul_pos (h.pos 0 (by omega)) (h.pos 1 (by omega))) (h.pos 2 (by omega))
  refine frac_unique ?_ hpos hD h.eq
  have row : ∀ i, i < 3 → Nat.Coprime (x i) (P3 y) := fun i hi => Nat.Coprime.mul_right (Nat.Coprime.mul_right (hc i 0 hi (by omega)) (hc i 1 hi (by omega))) (hc i 2 hi (by omega))
  exact Nat.Coprime.mul_left (Nat.Coprime.mul_left (row 0 (by omega)) (row 1 (by omega))) (row 2 (by omega))
/-- What value returns: v * f / d in lowest terms. -/
def valN (v f : Q) (d : Q) : Nat := v.1.natAbs * f.1.toNat * d.2.toNat
def valD (v f : Q) (d : Q) : Nat := v.2.toNat * f.2.toNat * d.1.toNat
def valR (v f d : Q) : Q × Int := fracR (decide (v.1 < 0)) (valN v f d) (valD v f d)
/-- A factor. -/
def fOk (f : Q) : Prop := qOk f = true ∧ 0 < f.1
def three (a b c : Nat) : Nat → Nat := fun i => if i = 0 then a else if i = 1 then b else c
theorem three_all {p : Nat → Prop} {a b c : Nat} (ha : p a) (hb : p b) (hc : p c) (k : Nat) : p (three a b c k) := by
  unfold three
  split
  · exact ha
  · split
    · exact hb
    · exact hc
theorem Half.start {v f d : Q} (hv : qOk v = true) (hf : fOk f) (hd : fOk d) : Half (valN v f d) (valD v f d) 1000000000000 (three v.1.natAbs f.1.toNat d.2.toNat) (three v.2.toNat f.2.toNat d.1.toNat) 0 0 := by
  obtain ⟨v1, v2, v3, v4, _⟩ := qOk_iff.1 hv
  obtain ⟨hf, hf0⟩ := hf
  obtain ⟨f1, f2, f3, f4, _⟩ := qOk_iff.1 hf
  obtain ⟨hd, hd0⟩ := hd
  obtain ⟨d1, d2, d3, d4, _⟩ := qOk_iff.1 hd
  refine ⟨fun k _ => three_all (p := fun x => 0 < x) (by omega) (by omega) (by omega) k, fun k h0 hk => ?_, fun k _ => three_all (p := fun x => x ≤ 1000000000000) (by omega) (by omega) (by omega) k, fun k _ => three_all (p := fun x => x ≤ 1000000000000) (by omega) (by omega) (by omega) k, ?_, fun i' j' _ _ h => by omega⟩
  · match k, h0, hk with
    | 1, _, _ => show 0 < f.1.toNat; omega
    | 2, _, _ => show 0 < d.2.toNat; omega
  show valN v f d * valD v f d = valD v f d * valN v f d
  exact Nat.mul_comm _ _
theorem valD_pos {v f d : Q} (hv : qOk v = true) (hf : fOk f) (hd : fOk d) : 0 < valD v f d := by
  obtain ⟨v1, _⟩ := qOk_iff.1 hv
  obtain ⟨f1, _⟩ := qOk_iff.1 hf.1
  have := hd.2
  exact Nat.mul_pos (Nat.mul_pos (by omega) (by omega)) (by omega)
end Go.Proofs.YtofdehlikigonaaGreat
end
section
/- Contracts: package quantity, tables. -/
namespace Go.Proofs.YtofdehlikigonaaGreat
open Go.Eng
set_option maxRecDepth 10000
set_option linter.unusedSimpArgs false
set_option linter.unusedVariables false
theorem isIndex_ok (n : Nat) (t : Nat → U) (i : Int) : Does Tryz.prog 117 [tabV n t, .c (.int .i64 i)] (.c (.bool (decide (0 ≤ i) && decide (i < n)))) := by
  refine Does.mk (fun _ => false) TT_ok Tryz.func117 rfl (by kernel_rfl) Tryz.ntmps117 rfl rfl fun E hT hE hN hR => ?_
  have hm : E.P.follows .mixedOrders = true := by rw [hE]; kernel_rfl
  (repeat (first | refine XK.norm rfl rfl ?_ | refine XK.rgnA hT rfl rfl rfl ?_ | refine XK.rgnB hT hm rfl rfl rfl ?_))
  (first | refine XK.out rfl rfl rfl ?_ | refine XK.outN rfl rfl rfl ?_)
  rfl
theorem toNat_nn (n : Nat) : Int.toNat (n : Int) = n := rfl
set_option maxHeartbeats 1000000 in
theorem uvalid_ok (n : Nat) (t : Nat → U) (i : Nat) (hi : i < n) (hw : ∀ j, j < n → uW (t j)) : Does Tryz.prog 99 [tabV n t, .c (.int .i64 i)] (.c (.bool (uOkB t n i))) := by
  refine Does.mk (fun _ => false) TT_ok Tryz.func99 rfl (by kernel_rfl) Tryz.ntmps99 rfl rfl fun E hT hE hN hR => ?_
  have hm : E.P.follows .mixedOrders = true := by rw [hE]; kernel_rfl
  refine XK.fact (Sat.rs_len (j := 0) rfl) fun hlen => ?_
  have hn := hlen.1
  have hui := hw i hi
  (repeat (first | refine XK.norm rfl rfl ?_ | refine XK.rgnA hT rfl rfl rfl ?_ | refine XK.rgnB hT hm rfl rfl rfl ?_))
  (repeat (first | refine XK.norm rfl rfl ?_ | refine XK.rgnA hT rfl rfl rfl ?_ | refine XK.rgnB hT hm rfl rfl rfl ?_)); refine XK.cond rfl (fun hb => ?_) (fun hb => ?_)
  · (repeat (first | refine XK.norm rfl rfl ?_ | refine XK.rgnA hT rfl rfl rfl ?_ | refine XK.rgnB hT hm rfl rfl rfl ?_))
    (first | refine XK.out rfl rfl rfl ?_ | refine XK.outN rfl rfl rfl ?_)
    refine cB ?_
    symm
    rw [uOkB_false]
    simp only [Bool.or_eq_true, decide_eq_true_eq, bytes_beq] at hb
    rintro ⟨⟨h1, h2, _⟩, _⟩
    rcases hb with hb | hb
    · omega
    · exact h2 hb
  · simp only [Bool.or_eq_false_iff, decide_eq_false_iff_not, bytes_bne] at hb
    obtain ⟨hb1, hb2⟩ := hb
    have hb2 : (t i).name ≠ emptyName := hb2
    (repeat (first | refine XK.norm rfl rfl ?_ | refine XK.rgnA hT rfl rfl rfl ?_ | refine XK.rgnB hT hm rfl rfl rfl ?_))
    (repeat (first | refine XK.norm rfl rfl ?_ | refine XK.rgnA hT rfl rfl rfl ?_ | refine XK.rgnB hT hm rfl rfl rfl ?_))
    refine XK.loop (ι := Nat) (fun j => ST.of [(0, tabV n t), (1, .c (.int .i64 i)), (5, .ptr 95 0), (21, .rs 5 i (fun j => uc (t j))), (22, .c (.int .i64 i)), (23, .c (.int .i64 j))] [(95, .cells 90 (uc (t i)))] 1000 90 (fun _ => false))
      (fun j => j ≤ i ∧ ∀ k, k < j → (t k).name ≠ (t i).name) (fun j => i - j) 0 ⟨by omega, fun k hk => absurd hk (by omega)⟩
      (Weak.of hN rfl rfl rfl ⟨AvIs.refl _, rfl, rfl, ⟨rfl, rfl, fun j hj => rfl⟩, rfl, rfl⟩ ⟨rfl, rfl⟩) fun j hj => ?_
    obtain ⟨hj1, hj2⟩ := hj
    (repeat (first | refine XK.norm rfl rfl ?_ | refine XK.rgnA hT rfl rfl rfl ?_ | refine XK.rgnB hT hm rfl rfl rfl ?_)); refine XK.cond rfl (fun hb => ?_) (fun hb => ?_)
    · have hlt : j < i := by simpa using hb
      (repeat (first | refine XK.norm rfl rfl ?_ | refine XK.rgnA hT rfl rfl rfl ?_ | refine XK.rgnB hT hm rfl rfl rfl ?_))
      (repeat (first | refine XK.norm rfl rfl ?_ | refine XK.rgnA hT rfl rfl rfl ?_ | refine XK.rgnB hT hm rfl rfl rfl ?_)); refine XK.cond rfl (fun hb => ?_) (fun hb => ?_)
      · (repeat (first | refine XK.norm rfl rfl ?_ | refine XK.rgnA hT rfl rfl rfl ?_ | refine XK.rgnB hT hm rfl rfl rfl ?_))
        (first | refine XK.out rfl rfl rfl ?_ | refine XK.outN rfl rfl rfl ?_)
        refine cB ?_
        symm
        rw [uOkB_false]
        rintro ⟨⟨h1, h2, h3⟩, _⟩
        exact h3 j hlt (bytes_beq.1 hb)
      · (repeat (first | refine XK.norm rfl rfl ?_ | refine XK.rgnA hT rfl rfl rfl ?_ | refine XK.rgnB hT hm rfl rfl rfl ?_))
        refine XK.inv ⟨j + 1, ⟨hlt, fun k hk => ?_⟩, Weak.of hN rfl rfl rfl ⟨AvIs.refl _, rfl, rfl, ⟨rfl, rfl, fun j hj => rfl⟩, rfl, rfl⟩ ⟨rfl, rfl⟩, by omega⟩
        by_cases hkj : k = j
        · subst hkj; exact bytes_bne.1 hb
        · exact hj2 k (by omega)
    · have hij : j = i := by
        have : ¬ j < i := by simpa using hb
        omega
      subst hij
      (repeat (first | refine XK.norm rfl rfl ?_ | refine XK.rgnA hT rfl rfl rfl ?_ | refine XK.rgnB hT hm rfl rfl rfl ?_)); refine XK.region ?_; refine XL.goA hT rfl rfl rfl rfl ?_
      refine XL.callGA hE rfl rfl rfl rfl rfl rfl rfl rfl (valid_ok (t j).fac hui.2.2) rfl ?_
      refine XL.goA hT rfl rfl rfl rfl ?_; refine XL.fin ?_; (repeat (first | refine XK.norm rfl rfl ?_ | refine XK.rgnA hT rfl rfl rfl ?_ | refine XK.rgnB hT hm rfl rfl rfl ?_))
      (repeat (first | refine XK.norm rfl rfl ?_ | refine XK.rgnA hT rfl rfl rfl ?_ | refine XK.rgnB hT hm rfl rfl rfl ?_)); refine XK.cond rfl (fun hb => ?_) (fun hb => ?_)
      · (repeat (first | refine XK.norm rfl rfl ?_ | refine XK.rgnA hT rfl rfl rfl ?_ | refine XK.rgnB hT hm rfl rfl rfl ?_))
        (first | refine XK.out rfl rfl rfl ?_ | refine XK.outN rfl rfl rfl ?_)
        refine cB ?_
        symm
        rw [uOkB_false]
        rintro ⟨_, ⟨h1, h2, h3⟩, _⟩
        simp only [Bool.or_eq_true, Bool.and_eq_true, bne_iff_ne, Bool.not_eq_true', decide_eq_true_eq] at hb
        rcases hb with (⟨h4, h5⟩ | h4) | h4
        · rcases h1 with h1 | h1
          · exact h4 h1
          · exact h5 h1
        · rw [h2] at h4; cases h4
        · omega
      · (repeat (first | refine XK.norm rfl rfl ?_ | refine XK.rgnA hT rfl rfl rfl ?_ | refine XK.rgnB hT hm rfl rfl rfl ?_))
        refine XK.weak (Weak.of (L := [(0, tabV n t), (1, .c (.int .i64 j)), (5, .ptr 95 0)]) (O := [(95, .cells 90 (uc (t j)))]) (nx := 2000) (nt := 90) (md := fun _ => false) hN rfl rfl rfl ⟨AvIs.refl _, rfl, rfl⟩ ⟨rfl, rfl⟩) ?_
        refine XK.drawn hm ?_
        refine XD.go hT rfl rfl rfl rfl trivial ?_
        refine XD.callL hE rfl rfl rfl rfl trivial rfl (isIndex_ok n t (t j).base) ?_ rfl ?_
        · exact ⟨AvIs.refl _, rfl⟩
        refine XD.go hT rfl rfl rfl rfl ?_ ?_
        · (first | exact trivial | (simp [AllP, impG]; done) | (simp only [AllP, List.append, List.nil_append, List.cons_append, inK, tdiv_nn, tmod_nn, Int.toNat_natCast]; omega) | (simp [AllP, impG, inK, tdiv_nn, tmod_nn]; omega) | ((repeat (first | (focus (first | omega | (intro i hi; first | rfl | (cases Nat.lt_one_iff.1 hi; rfl) | (rcases i with _ | _ | _ | _ | i <;> first | rfl | (exfalso; omega))) | (simp <;> omega))) | refine ⟨?_, ?_⟩)); done) | (simp only [AllP, impG, inK]; grind))
        refine XD.fin (by kernel_rfl) ?_
        (repeat (first | refine XK.norm rfl rfl ?_ | refine XK.rgnA hT rfl rfl rfl ?_ | refine XK.rgnB hT hm rfl rfl rfl ?_)); refine XK.cond rfl (fun hb => ?_) (fun hb => ?_)
        · (repeat (first | refine XK.norm rfl rfl ?_ | refine XK.rgnA hT rfl rfl rfl ?_ | refine XK.rgnB hT hm rfl rfl rfl ?_))
          (first | refine XK.out rfl rfl rfl ?_ | refine XK.outN rfl rfl rfl ?_)
          refine cB ?_
          symm
          rw [uOkB_false]
          rintro ⟨_, _, ⟨⟨h1, h2⟩, h3, h4⟩, _⟩
          simp [h1, h2, h3, h4] at hb
        · simp at hb
          obtain ⟨⟨⟨h1, h2⟩, h3⟩, h4⟩ := hb
          (repeat (first | refine XK.norm rfl rfl ?_ | refine XK.rgnA hT rfl rfl rfl ?_ | refine XK.rgnB hT hm rfl rfl rfl ?_))
          (first | refine XK.out rfl rfl rfl ?_ | refine XK.outN rfl rfl rfl ?_)
          refine cB ?_
          rw [Bool.eq_iff_iff, uOkB_iff]
          simp only [Bool.or_eq_false_iff, Bool.and_eq_false_imp, bne_iff_ne, ne_eq, bne_eq_false_iff_eq, Bool.not_eq_false', decide_eq_false_iff_not] at hb
          obtain ⟨⟨g1, g2⟩, g3⟩ := hb
          simp only [uOk, Bool.or_eq_true, bne_iff_ne, Bool.and_eq_true, beq_iff_eq, Prod.ext_iff]
          constructor
          · intro h
            exact ⟨⟨by omega, hb2, hj2⟩, ⟨by omega, g2, by omega⟩, ⟨⟨h1, h2⟩, h3, h4⟩, h⟩
          · rintro ⟨_, _, _, h⟩
            exact h
end Go.Proofs.YtofdehlikigonaaGreat
end
section
/- Contracts: math/bits.Mul64; products. -/
namespace Go.Proofs.YtofdehlikigonaaGreat
open Go.Eng Go.RowKit Go.Lib
set_option maxRecDepth 10000
set_option linter.unusedSimpArgs false
set_option linter.unusedVariables false
theorem Does.of_plain {P : Program} {f : FuncId} {args : List Value} {v : Value} {res : AV} (hf : FnOk P f) (h : ∀ w, Calls P f args.toArray w fun e w' => e = .returned v ∧ w' = w) (hr : ∀ w (G : Nat → Prop), R w G Rho.none res v) : Does P f (args.map AV.c) res := by
  refine ⟨hf, fun w G vs hs hG ha => ?_⟩
  have : vs = args.toArray := by
    apply Array.ext
    · simpa using hs
    · intro i h1 h2
      have hx : (args.map AV.c)[i]? = some (.c args[i]) := by simp at h2; simp [h2]
      have := ha i _ hx
      have e := this.c_inv
      simpa [h1] using e
  subst this
  refine (h w).mono ?_
  rintro e w' ⟨rfl, rfl⟩
  exact ⟨v, rfl, Keep.refl _ _, hr _ _⟩
theorem bmaskN (a : Nat) (ha : a < 18446744073709551616) : bits .and .u64 (a : Int) 4294967295 = ((a % 4294967296 : Nat) : Int) := by
  have h := bits_and_u64_nat a 4294967295 ha (by omega)
  have e : a &&& 4294967295 = a % 4294967296 := Nat.and_two_pow_sub_one_eq_mod a 32
  rw [e] at h
  exact h
theorem bdivN (a : Nat) : (a : Int) / 4294967296 = ((a / 4294967296 : Nat) : Int) := by omega
theorem bmulN (a b : Nat) : (a : Int) * (b : Int) = ((a * b : Nat) : Int) := (Int.natCast_mul a b).symm
theorem baddN (a b : Nat) : (a : Int) + (b : Int) = ((a + b : Nat) : Int) := (Int.natCast_add a b).symm
theorem bwrapN (a : Nat) (ha : a < 18446744073709551616) : IntKind.u64.wrap (a : Int) = (a : Int) := by rw [IntKind.wrap_u64]; omega
theorem bwrapM (a : Nat) : IntKind.u64.wrap (a : Int) = ((a % 18446744073709551616 : Nat) : Int) := by rw [IntKind.wrap_u64]; omega
set_option maxHeartbeats 1000000 in
theorem mul_over (p x lim : Nat) (hl : lim ≤ 18446744073709551615) : ((((p * x / 18446744073709551616 : Nat) : Int) != 0) || decide ((lim : Int) < ((p * x % 18446744073709551616 : Nat) : Int))) = decide (lim < p * x) := by
  generalize p * x = m
  by_cases h : lim < m
  · rw [decide_eq_true h]
    by_cases h2 : m < 18446744073709551616
    · have h3 : (lim : Int) < ((m % 18446744073709551616 : Nat) : Int) := by omega
      simp only [decide_eq_true h3, Bool.or_true]
    · have h3 : (((m / 18446744073709551616 : Nat) : Int) != 0) = true := by rw [bne_iff_ne]; omega
      simp only [h3, Bool.true_or]
  · rw [decide_eq_false h]
    have h3 : ¬ (lim : Int) < ((m % 18446744073709551616 : Nat) : Int) := by omega
    have h4 : (((m / 18446744073709551616 : Nat) : Int) != 0) = false := by rw [bne_eq_false_iff_eq]; omega
    simp only [decide_eq_false h3, h4, Bool.or_self]
def prodR (a b c lim : Nat) : Int × Bool := if lim < a then (0, false) else if lim < a * b then (0, false) else if lim < a * b * c then (0, false) else ((a * b * c : Nat), true)
end Go.Proofs.YtofdehlikigonaaGreat
end
section
/- Contracts: package quantity, values. -/
namespace Go.Proofs.YtofdehlikigonaaGreat
open Go.Eng
set_option maxRecDepth 10000
set_option linter.unusedSimpArgs false
set_option linter.unusedVariables false
theorem setRowF_int (x : Nat → Nat) (i v k : Nat) (z : Int) (hz : z = (v : Int)) : [AV.c (.int .i64 (setN x i v k : Nat))] = setRowF (fun i => [AV.c (.int .i64 (x i : Nat))]) i 0 [AV.c (.int .i64 z)] k := by
  subst hz
  unfold setRowF setN
  by_cases h : k = i
  · subst h; simp [setL]
  · have : Nat.beq k i = false := by
      cases hb : Nat.beq k i with
      | false => rfl
      | true => exact absurd (Nat.eq_of_beq_eq_true hb) h
    simp [h, this]
end Go.Proofs.YtofdehlikigonaaGreat
end
section
/- Contracts: package quantity, values of amounts. -/
namespace Go.Proofs.YtofdehlikigonaaGreat
open Go.Eng
set_option maxRecDepth 10000
set_option linter.unusedSimpArgs false
set_option linter.unusedVariables false
theorem cL {k : IntKind} {a b : Int} (h : a = b) : [AV.c (.int k a)] = [AV.c (.int k b)] := by rw [h]
theorem prodR_eq {a b c lim : Nat} (hb : 0 < b) (hc : 0 < c) : prodR a b c lim = if lim < a * b * c then ((0 : Int), false) else (((a * b * c : Nat) : Int), true) := by
  have h1 := Nat.le_mul_of_pos_right a hb
  have h2 := Nat.le_mul_of_pos_right (a * b) hc
  unfold prodR
  by_cases h : lim < a * b * c
  · simp only [if_pos h]
    split
    · rfl
    · split <;> rfl
  · rw [if_neg h, if_neg (by omega), if_neg (by omega)]
end Go.Proofs.YtofdehlikigonaaGreat
end
section
/- Contracts: package quantity, the table's validity. -/
namespace Go.Proofs.YtofdehlikigonaaGreat
open Go.Eng
set_option maxRecDepth 10000
set_option linter.unusedSimpArgs false
set_option linter.unusedVariables false
noncomputable def validR (t : Nat → U) (n : Nat) : Int × Bool := match (List.range n).find? (fun i => !uOkB t n i) with
  | some i => ((i : Int), false)
  | none => (-1, true)
theorem qvalid_ok (n : Nat) (t : Nat → U) (hw : ∀ j, j < n → uW (t j)) : Does Tryz.prog 77 [tabV n t] (.tup [.c (.int .i64 (validR t n).1), .c (.bool (validR t n).2)]) := by
  refine Does.mk (fun _ => false) TT_ok Tryz.func77 rfl (by kernel_rfl) Tryz.ntmps77 rfl rfl fun E hT hE hN hR => ?_
  have hm : E.P.follows .mixedOrders = true := by rw [hE]; kernel_rfl
  refine XK.fact (Sat.rs_len (j := 0) rfl) fun hlen => ?_
  have hn := hlen.1
  (repeat (first | refine XK.norm rfl rfl ?_ | refine XK.rgnA hT rfl rfl rfl ?_ | refine XK.rgnB hT hm rfl rfl rfl ?_))
  refine XK.loop (ι := Nat) (fun i => ST.of [(0, tabV n t), (5, tabV n t), (6, .c (.int .i64 n)), (7, .c (.int .i64 i))] [] 1000 16 (fun _ => false))
    (fun i => i ≤ n ∧ ∀ j, j < i → uOkB t n j = true) (fun i => n - i) 0 ⟨by omega, fun j hj => by omega⟩ (Weak.of hN rfl rfl rfl ⟨AvIs.refl _, AvIs.refl _, rfl, rfl⟩ trivial) fun i hi => ?_
  obtain ⟨hi1, hi2⟩ := hi
  (repeat (first | refine XK.norm rfl rfl ?_ | refine XK.rgnA hT rfl rfl rfl ?_ | refine XK.rgnB hT hm rfl rfl rfl ?_)); refine XK.cond rfl (fun hlt => ?_) (fun hlt => ?_) <;> (try simp at hlt)
  · (repeat (first | refine XK.norm rfl rfl ?_ | refine XK.rgnA hT rfl rfl rfl ?_ | refine XK.rgnB hT hm rfl rfl rfl ?_)); refine XK.region ?_; refine XL.goA hT rfl rfl rfl rfl ?_
    refine XL.callL hE rfl rfl rfl rfl trivial rfl (uvalid_ok n t i hlt hw) ?_ rfl ?_
    · exact ⟨AvIs.refl _, rfl⟩
    refine XL.goA hT rfl rfl rfl rfl ?_; refine XL.fin ?_; (repeat (first | refine XK.norm rfl rfl ?_ | refine XK.rgnA hT rfl rfl rfl ?_ | refine XK.rgnB hT hm rfl rfl rfl ?_))
    (repeat (first | refine XK.norm rfl rfl ?_ | refine XK.rgnA hT rfl rfl rfl ?_ | refine XK.rgnB hT hm rfl rfl rfl ?_)); refine XK.cond rfl (fun hb => ?_) (fun hb => ?_) <;> (try simp at hb)
    · (repeat (first | refine XK.norm rfl rfl ?_ | refine XK.rgnA hT rfl rfl rfl ?_ | refine XK.rgnB hT hm rfl rfl rfl ?_))
      (first | refine XK.out rfl rfl rfl ?_ | refine XK.outN rfl rfl rfl ?_)
      have : (List.range n).find? (fun i => !uOkB t n i) = some i := by
        rw [List.find?_range_eq_some]
        exact ⟨by simp [hb], by simpa using hlt, fun j hj => by simp [hi2 j hj]⟩
      simp only [validR, this]
    · (repeat (first | refine XK.norm rfl rfl ?_ | refine XK.rgnA hT rfl rfl rfl ?_ | refine XK.rgnB hT hm rfl rfl rfl ?_))
      refine XK.inv ⟨i + 1, ⟨hlt, fun j hj => ?_⟩, Weak.of hN rfl rfl rfl ⟨AvIs.refl _, AvIs.refl _, rfl, rfl⟩ trivial, by omega⟩
      by_cases h : j = i
      · subst h; exact hb
      · exact hi2 j (by omega)
  · (repeat (first | refine XK.norm rfl rfl ?_ | refine XK.rgnA hT rfl rfl rfl ?_ | refine XK.rgnB hT hm rfl rfl rfl ?_))
    (first | refine XK.out rfl rfl rfl ?_ | refine XK.outN rfl rfl rfl ?_)
    have : (List.range n).find? (fun i => !uOkB t n i) = none := by
      rw [List.find?_range_eq_none]
      exact fun j hj => by simp [hi2 j (by omega)]
    simp only [validR, this]
def aOk (n : Nat) (a : A) : Bool := decide (0 ≤ a.unit) && decide (a.unit < n) && qOk a.val
noncomputable def acceptsR (t : Nat → U) (n : Nat) (l : Nat → A) (m : Nat) : Bool := (validR t n).2 && (List.range m).all (fun i => aOk n (l i))
end Go.Proofs.YtofdehlikigonaaGreat
end
