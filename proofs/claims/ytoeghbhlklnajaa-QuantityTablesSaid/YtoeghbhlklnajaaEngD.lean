/- The engine, part D: the operations that only compute. -/
import Derived.Test.YtoeghbhlklnajaaEngC
namespace Go.Eng

def AllP : List Prop → Prop
  | [] => True
  | [p] => p
  | p :: l => p ∧ AllP l
/-- The same list, its spine written out. -/
def frcP : List Prop → Option (List Prop)
  | [] => some []
  | p :: l => match frcP l with
    | some l' => some (p :: l')
    | none => none
theorem frcP_eq : ∀ {a b : List Prop}, frcP a = some b → b = a
  | [], b, h => by simp [frcP] at h; exact h
  | a :: l, b, h => by
    simp only [frcP] at h
    cases h1 : frcP l with
    | none => simp [h1] at h
    | some l' => simp [h1] at h; rw [← h, frcP_eq h1]
theorem frcP_self : ∀ (l : List Prop), frcP l = some l
  | [] => rfl
  | p :: l => by simp [frcP, frcP_self l]
/-- The same, put one by one before what is there already. -/
def pushR : List Prop → List Prop → List Prop
  | [], acc => acc
  | p :: ps, acc => pushR ps (p :: acc)
theorem mem_pushR {q : Prop} : ∀ {l acc : List Prop}, q ∈ pushR l acc ↔ q ∈ l ∨ q ∈ acc
  | [], acc => by simp [pushR]
  | p :: ps, acc => by
    simp only [pushR, mem_pushR (l := ps), List.mem_cons]
    constructor
    · rintro (h | h | h)
      · exact .inl (.inr h)
      · exact .inl (.inl h)
      · exact .inr h
    · rintro ((h | h) | h)
      · exact .inr (.inl h)
      · exact .inl h
      · exact .inr (.inr h)
/-- Turned round, its spine written out. -/
def frcR : List Prop → List Prop → Option (List Prop)
  | [], out => some out
  | p :: l, out => frcR l (p :: out)
theorem frcR_mem {q : Prop} : ∀ {l out r : List Prop}, frcR l out = some r → (q ∈ l ∨ q ∈ out) → q ∈ r
  | [], out, r, h, hq => by
    simp only [frcR, Option.some.injEq] at h
    subst h
    simpa using hq
  | p :: l, out, r, h, hq => by
    refine frcR_mem (l := l) h ?_
    rcases hq with hq | hq
    · rcases List.mem_cons.1 hq with hq | hq
      · exact .inr (by simp [hq])
      · exact .inl hq
    · exact .inr (List.mem_cons_of_mem _ hq)
theorem AllP.cons {p : Prop} {l : List Prop} (h : AllP (p :: l)) : p ∧ AllP l := by
  cases l with
  | nil => exact ⟨h, trivial⟩
  | cons q l => exact h
theorem AllP.mem : ∀ {l : List Prop}, AllP l → ∀ p ∈ l, p
  | p :: l, h, q, hq => by
    have h' := h.cons
    rcases List.mem_cons.1 hq with rfl | hq
    · exact h'.1
    · exact AllP.mem h'.2 q hq

theorem AllP.memR {l r : List Prop} (hf : frcR l [] = some r) (h : AllP r) : ∀ p ∈ l, p := fun p hp => AllP.mem h p (frcR_mem hf (.inl hp))

def inK : IntKind → Int → Prop
  | .i64, n => -9223372036854775808 ≤ n ∧ n ≤ 9223372036854775807
  | .i32, n => -2147483648 ≤ n ∧ n ≤ 2147483647
  | .i16, n => -32768 ≤ n ∧ n ≤ 32767
  | .i8, n => -128 ≤ n ∧ n ≤ 127
  | .u64, n => 0 ≤ n ∧ n ≤ 18446744073709551615
  | .u32, n => 0 ≤ n ∧ n ≤ 4294967295
  | .u16, n => 0 ≤ n ∧ n ≤ 65535
  | .u8, n => 0 ≤ n ∧ n ≤ 255
theorem wrap_in {k : IntKind} {n : Int} (h : inK k n) : k.wrap n = n := by
  cases k
  · exact IntWalk.i8_in n h
  · exact IntWalk.i16_in n h
  · exact IntWalk.i32_in n h
  · exact IntWalk.i64_in n h
  · exact IntWalk.u8_in n h
  · exact IntWalk.u16_in n h
  · exact IntWalk.u32_in n h
  · exact IntWalk.u64_in n h

/-- wr: let it wrap; else it must fit. -/
def arith (wr : Bool) (k : IntKind) (r : Int) : Option (List Prop × AV) := bif wr then some ([], .c (.int k (k.wrap r))) else some ([inK k r], .c (.int k r))
theorem arith_ok {wr : Bool} {k : IntKind} {r : Int} {obl : List Prop} {x : AV} (h : arith wr k r = some (obl, x)) (ho : ∀ p ∈ obl, p) : x = .c (.int k (k.wrap r)) := by
  unfold arith at h
  cases wr with
  | true => simp at h; exact h.2.symm
  | false => simp at h; obtain ⟨rfl, rfl⟩ := h; rw [wrap_in (ho _ (by simp))]

def intF (wr : Bool) (op : BinOp) (k : IntKind) (a b : Int) : Option (List Prop × AV) :=
  match op with
  | .add => arith wr k (a + b)
  | .sub => arith wr k (a - b)
  | .mul => arith wr k (a * b)
  | .quo => match arith wr k (a.tdiv b) with
    | some (l, x) => some ((b ≠ 0) :: l, x)
    | none => none
  | .rem => some ([b ≠ 0], .c (.int k (a.tmod b)))
  | .eql => some ([], .c (.bool (a == b)))
  | .neq => some ([], .c (.bool (a != b)))
  | .lss => some ([], .c (.bool (decide (a < b))))
  | .leq => some ([], .c (.bool (decide (a ≤ b))))
  | .gtr => some ([], .c (.bool (decide (b < a))))
  | .geq => some ([], .c (.bool (decide (b ≤ a))))
  | .and => some ([], .c (.int k (bits .and k a b)))
  | .or => some ([], .c (.int k (bits .or k a b)))
  | .xor => some ([], .c (.int k (bits .xor k a b)))
  | .andNot => some ([], .c (.int k (bits .andNot k a b)))
  | _ => none

theorem intF_ok {P : Program} {w : World} {wr : Bool} {op : BinOp} {k : IntKind} {a b : Int} {obl : List Prop} {x : AV} (t : TypeId) (h : intF wr op k a b = some (obl, x)) (ho : ∀ p ∈ obl, p) :
    ∃ v, (binOp op t (.int k a) (.int k b)).run P w = .ok v w ∧ x = .c v := by
  cases op <;> simp only [intF] at h
  case add => exact ⟨_, by rw [binOp_add]; rfl, arith_ok h ho⟩
  case sub => exact ⟨_, by rw [binOp_sub]; rfl, arith_ok h ho⟩
  case mul => exact ⟨_, by rw [binOp_mul]; rfl, arith_ok h ho⟩
  case quo =>
    cases ha : arith wr k (a.tdiv b) with
    | none => simp [ha] at h
    | some y =>
      obtain ⟨l, y⟩ := y
      simp only [ha, Option.some.injEq, Prod.mk.injEq] at h
      obtain ⟨rfl, rfl⟩ := h
      have hb : b ≠ 0 := ho _ (by simp)
      exact ⟨_, by rw [binOp_quo]; simp only [Op.intDiv, if_neg hb]; rfl, arith_ok ha fun p hp => ho p (by simp [hp])⟩
  case rem =>
    simp only [Option.some.injEq, Prod.mk.injEq] at h
    obtain ⟨rfl, rfl⟩ := h
    have hb : b ≠ 0 := ho _ (by simp)
    exact ⟨_, by rw [binOp_rem]; simp only [Op.intDiv, if_neg hb]; rfl, rfl⟩
  all_goals first
    | (simp at h; done)
    | (simp only [Option.some.injEq, Prod.mk.injEq] at h
       obtain ⟨rfl, rfl⟩ := h
       first
         | exact ⟨_, by rw [binOp_eql]; rfl, rfl⟩
         | exact ⟨_, by rw [binOp_neq]; rfl, rfl⟩
         | exact ⟨_, by rw [binOp_lss]; rfl, rfl⟩
         | exact ⟨_, by rw [binOp_leq]; rfl, rfl⟩
         | exact ⟨_, by rw [binOp_gtr]; rfl, rfl⟩
         | exact ⟨_, by rw [binOp_geq]; rfl, rfl⟩
         | exact ⟨_, by rw [binOp_and, intBits_and]; rfl, rfl⟩
         | exact ⟨_, by rw [binOp_or, intBits_or]; rfl, rfl⟩
         | exact ⟨_, by rw [binOp_xor, intBits_xor]; rfl, rfl⟩
         | exact ⟨_, by rw [binOp_andNot, intBits_andNot]; rfl, rfl⟩)

def vals : List AV → Option (List Value)
  | [] => some []
  | .c v :: l => match vals l with
    | some vs => some (v :: vs)
    | none => none
  | _ => none
theorem vals_ok {w : World} {G : Nat → Prop} {ρ : Rho} : ∀ {l : List AV} {vs : List Value} {cs : Array Value}, vals l = some vs → cs.size = l.length → (∀ i a, l[i]? = some a → R w G ρ a (cs.getD i undef)) → cs = vs.toArray := by
  intro l vs cs h hs hr
  have key : ∀ (l : List AV) (vs : List Value), vals l = some vs → vs.length = l.length ∧ ∀ (i : Nat) (v : Value), vs[i]? = some v → l[i]? = some (AV.c v) := by
    intro l
    induction l with
    | nil => intro vs h; simp [vals] at h; subst h; simp
    | cons a l ih =>
      intro vs h
      cases a <;> simp only [vals] at h <;> try (simp at h; done)
      rename_i v
      cases hv : vals l with
      | none => simp [hv] at h
      | some us =>
        simp [hv] at h
        subst h
        obtain ⟨h1, h2⟩ := ih us hv
        refine ⟨by simp [h1], fun i u hu => ?_⟩
        cases i with
        | zero => simp at hu ⊢; exact hu
        | succ i => simp at hu ⊢; exact h2 i u hu
  obtain ⟨h1, h2⟩ := key l vs h
  apply Array.ext
  · simp [hs, h1]
  · intro i hi hi'
    simp at hi'
    have hv : vs[i]? = some vs[i] := List.getElem?_eq_getElem hi'
    have := (hr i _ (h2 i _ hv)).c_inv
    simp [hi] at this
    simp [this]

def eqF (T : TE) (t : Nat) (l l' : List AV) : Option Bool :=
  match T.find t with
  | none => none
  | some ti => match ti.leaf with
    | none => none
    | some ks => match vals l, vals l' with
      | some xs, some ys => cellsEq ks xs ys
      | _, _ => none

def binF (T : TE) (wr : Bool) (op : BinOp) (t : TypeId) : AV → AV → Option (List Prop × AV)
  | .c (.int k a), .c (.int k' b) => if k = k' then intF wr op k a b else none
  | .c (.string a), .c (.string b) => match op with
    | .eql => some ([], .c (.bool (a == b)))
    | .neq => some ([], .c (.bool (!(a == b))))
    | .lss => some ([], .c (.bool (Op.bytesLess a.toList b.toList)))
    | .gtr => some ([], .c (.bool (!(Op.bytesLess a.toList b.toList || a == b))))
    | .leq => some ([], .c (.bool (Op.bytesLess a.toList b.toList || a == b)))
    | .geq => some ([], .c (.bool (!(Op.bytesLess a.toList b.toList))))
    | .add => some ([((a.size + b.size : Nat) : Int) ≤ 9223372036854775807], .c (.string (a ++ b)))
    | _ => none
  | .c (.bool a), .c (.bool b) => match T.find t with
    | some ti => match ti.kind, op with
      | .bool, .eql => some ([], .c (.bool (a == b)))
      | .bool, .neq => some ([], .c (.bool (!(a == b))))
      | _, _ => none
    | none => none
  | .agg l, .agg l' => match op with
    | .eql => match eqF T t l l' with
      | some b => some ([], .c (.bool b))
      | none => none
    | .neq => match eqF T t l l' with
      | some b => some ([], .c (.bool (!b)))
      | none => none
    | _ => none
  | _, _ => none

theorem run_binGuard {P : Program} {w : World} {op : BinOp} {t : TypeId} {x y : Operand} {u v : Value} {r : Value} (hg : (eqGuard op t x y u v).run P w = .ok () w) (h : (binOp op t u v).run P w = .ok r w) :
    (do eqGuard op t x y u v; binOp op t u v : Sem Value).run P w = .ok r w := by
  simp [hg, h]

theorem binF_ok {P : Program} {T : TE} (hT : TOk P T) {w : World} {G : Nat → Prop} {ρ : Rho} {wr : Bool} {op : BinOp} {t : TypeId} {x y r : AV} {u v : Value} {obl : List Prop} (ox oy : Operand)
    (h : binF T wr op t x y = some (obl, r)) (ho : ∀ p ∈ obl, p) (hx : R w G ρ x u) (hy : R w G ρ y v) :
    ∃ z, (do eqGuard op t ox oy u v; binOp op t u v : Sem Value).run P w = .ok z w ∧ R w G ρ r z := by
  unfold binF at h
  split at h
  · rename_i k a k' b
    rw [hx.c_inv, hy.c_inv]
    split at h
    · rename_i hk
      subst hk
      obtain ⟨z, hz, rfl⟩ := intF_ok (P := P) (w := w) t h ho
      exact ⟨z, run_binGuard (by rw [eqGuard_at_int]; rfl) hz, .c⟩
    · cases h
  · rename_i a b
    rw [hx.c_inv, hy.c_inv]
    have hgd : ∀ op, (eqGuard op t ox oy (.string a) (.string b)).run P w = .ok () w := fun op => by rw [eqGuard_at_string]; rfl
    have hst : ∀ op, (op = .eql ∨ op = .neq ∨ op = .lss ∨ op = .leq ∨ op = .gtr ∨ op = .geq ∨ op = .add) → binOp op t (.string a) (.string b) = Op.stringOp op a b := by
      rintro op (rfl | rfl | rfl | rfl | rfl | rfl | rfl) <;> rfl
    have hbq := beq_toListBytes a b
    cases op <;> simp only at h <;> first
      | (cases h; done)
      | (simp only [Option.some.injEq, Prod.mk.injEq] at h
         obtain ⟨rfl, rfl⟩ := h
         refine ⟨_, run_binGuard (hgd _) (by rw [hst _ (by simp)]; simp only [Op.stringOp, ← hbq]; rfl), .c⟩)
      | skip
    simp only [Option.some.injEq, Prod.mk.injEq] at h
    obtain ⟨rfl, rfl⟩ := h
    have hs : ((a.size + b.size : Nat) : Int) ≤ 9223372036854775807 := ho _ (by simp)
    refine ⟨_, run_binGuard (hgd _) (by rw [hst _ (by simp)]; simp only [Op.stringOp]; rw [if_neg (by rw [IntKind.max_i64]; omega)]; rfl), .c⟩
  · rename_i a b
    rw [hx.c_inv, hy.c_inv]
    cases hf : T.find t with
    | none => simp [hf] at h
    | some ti =>
      simp only [hf] at h
      have hk := (hT t ti hf).kind
      split at h
      · rename_i hkd
        rw [hkd] at hk
        simp only [KindOk] at hk
        simp only [Option.some.injEq, Prod.mk.injEq] at h
        obtain ⟨rfl, rfl⟩ := h
        have he : (Op.equal t (.bool a) (.bool b)).run P w = .ok (a == b) w := run_equalIn_bool' w 9999 t a b hk
        exact ⟨.bool (a == b), run_binGuard (by rw [eqGuard_at_bool]; rfl) (by simp [binOp, he]), .c⟩
      · rename_i hkd
        rw [hkd] at hk
        simp only [KindOk] at hk
        simp only [Option.some.injEq, Prod.mk.injEq] at h
        obtain ⟨rfl, rfl⟩ := h
        have he : (Op.equal t (.bool a) (.bool b)).run P w = .ok (a == b) w := run_equalIn_bool' w 9999 t a b hk
        exact ⟨.bool (!(a == b)), run_binGuard (by rw [eqGuard_at_bool]; rfl) (by simp [binOp, he]), .c⟩
      · cases h
  · rename_i l l'
    obtain ⟨cs, rfl, hs, hr⟩ := hx.agg_inv
    obtain ⟨cs', rfl, hs', hr'⟩ := hy.agg_inv
    have key : ∀ b, eqF T t l l' = some b → (Op.equal t (.agg cs) (.agg cs')).run P w = .ok b w ∧ ∀ op, (eqGuard op t ox oy (.agg cs) (.agg cs')).run P w = .ok () w := by
      intro b hb
      unfold eqF at hb
      cases hf : T.find t with
      | none => simp [hf] at hb
      | some ti =>
        cases hlf : ti.leaf with
        | none => simp [hf, hlf] at hb
        | some ks =>
          simp only [hf, hlf] at hb
          split at hb
          · rename_i xs ys h1 h2
            obtain ⟨h3, h4⟩ := (hT t ti hf).leaf ks hlf
            rw [vals_ok h1 hs hr, vals_ok h2 hs' hr']
            exact ⟨h4 xs ys b w hb, fun op => run_eqGuard_agg w op t ox oy _ _ h3⟩
          · cases hb
    cases op <;> simp only at h <;> try (cases h; done)
    · cases hq : eqF T t l l' with
      | none => simp [hq] at h
      | some b =>
        simp only [hq, Option.some.injEq, Prod.mk.injEq] at h
        obtain ⟨rfl, rfl⟩ := h
        obtain ⟨h1, h2⟩ := key b hq
        exact ⟨.bool b, run_binGuard (h2 _) (by simp [binOp, h1]), .c⟩
    · cases hq : eqF T t l l' with
      | none => simp [hq] at h
      | some b =>
        simp only [hq, Option.some.injEq, Prod.mk.injEq] at h
        obtain ⟨rfl, rfl⟩ := h
        obtain ⟨h1, h2⟩ := key b hq
        exact ⟨.bool (!b), run_binGuard (h2 _) (by simp [binOp, h1]), .c⟩
  · cases h

def unF (wr : Bool) (op : UnOp) : AV → Option (List Prop × AV)
  | .c (.int k n) => match op with
    | .neg => arith wr k (0 - n)
    | _ => none
  | .c (.bool b) => match op with
    | .not => some ([], .c (.bool (!b)))
    | _ => none
  | _ => none
theorem unF_ok {P : Program} {w : World} {G : Nat → Prop} {ρ : Rho} {wr : Bool} {op : UnOp} {x r : AV} {u : Value} {obl : List Prop}
    (h : unF wr op x = some (obl, r)) (ho : ∀ p ∈ obl, p) (hx : R w G ρ x u) : ∃ z, (Op.unary op u).run P w = .ok z w ∧ R w G ρ r z := by
  unfold unF at h
  split at h
  · rw [hx.c_inv]
    cases op <;> simp only at h <;> try (cases h; done)
    rw [arith_ok h ho]
    exact ⟨_, rfl, .c⟩
  · rw [hx.c_inv]
    cases op <;> simp only at h <;> try (cases h; done)
    simp only [Option.some.injEq, Prod.mk.injEq] at h
    obtain ⟨rfl, rfl⟩ := h
    exact ⟨_, rfl, .c⟩
  · cases h

/-- A conversion between integer types. -/
def convF (T : TE) (wr : Bool) (src dst : TypeId) : AV → Option (List Prop × AV)
  | .c (.int _ n) => match T.find src, T.find dst with
    | some _, some ti => match ti.kind with
      | .int k => arith wr k n
      | _ => none
    | _, _ => none
  | .c (.string s) => match T.find src, T.find dst with
    | some si, some ti => match si.kind, ti.kind with
      | .string, .string => some ([], .c (.string s))
      | _, _ => none
    | _, _ => none
  | _ => none
theorem KindOk.under {P : Program} {t : Nat} {k : TK} (h : KindOk P t k) : ∃ d, P.underlying t = some d := by
  cases k <;> simp only [KindOk] at h
  · exact ⟨_, h⟩
  · exact ⟨_, h⟩
  · exact ⟨_, h⟩
  · obtain ⟨fs, h, _⟩ := h; exact ⟨_, h⟩
  · exact ⟨_, h⟩
  · exact ⟨_, h⟩
  · obtain ⟨d, h, _⟩ := h; exact ⟨d, h⟩
theorem convF_ok {P : Program} {T : TE} (hT : TOk P T) {w : World} {G : Nat → Prop} {ρ : Rho} {wr : Bool} {src dst : TypeId} {x r : AV} {u : Value} {obl : List Prop}
    (h : convF T wr src dst x = some (obl, r)) (ho : ∀ p ∈ obl, p) (hx : R w G ρ x u) : ∃ z, (convert src dst u).run P w = .ok z w ∧ R w G ρ r z := by
  unfold convF at h
  split at h
  · rw [hx.c_inv]
    split at h
    · rename_i si ti hs ht
      split at h
      · rename_i hk
        have h1 := (hT _ _ ht).kind
        rw [hk] at h1
        simp only [KindOk] at h1
        obtain ⟨d, h2⟩ := (hT _ _ hs).kind.under
        rw [arith_ok h ho]
        exact ⟨_, by simp [convert, run_underlying h1, run_underlying h2, Conv.intToInt], .c⟩
      · cases h
    · cases h
  · rw [hx.c_inv]
    split at h
    · rename_i si ti hs ht
      split at h
      · rename_i hk1 hk2
        have h1 := (hT _ _ ht).kind
        rw [hk2] at h1
        simp only [KindOk] at h1
        have h2 := (hT _ _ hs).kind
        rw [hk1] at h2
        simp only [KindOk] at h2
        simp only [Option.some.injEq, Prod.mk.injEq] at h
        obtain ⟨rfl, rfl⟩ := h
        exact ⟨_, by simp [convert, run_underlying h1, run_underlying h2], .c⟩
      · cases h
    · cases h
  · cases h

end Go.Eng
