import Derived.Test.YtlhmgphgnedlkaaGreatZz1
set_option linter.unusedSimpArgs false
set_option linter.unusedVariables false
section
/- The engine, part D: the operations that only compute. -/
namespace Go.Eng
def AllP : List Prop → Prop
  | [] => True
  | [p] => p
  | p :: l => p ∧ AllP l
def frcP : List Prop → Option (List Prop)
  | [] => some []
  | p :: l => match frcP l with
    | some l' => some (p :: l')
    | none => none
theorem frcP_eq : ∀ {a b : List Prop}, frcP a = some b → b = a
  | [], b, h => by simp [frcP] at h; exact h
  | a :: l, b, h => by
    simp only [frcP] at h
    cases h1 : frcP l with
    | none => simp [h1] at h
    | some l' => simp [h1] at h; rw [← h, frcP_eq h1]
theorem frcP_self : ∀ (l : List Prop), frcP l = some l
  | [] => rfl
  | p :: l => by simp [frcP, frcP_self l]
def pushR : List Prop → List Prop → List Prop
  | [], acc => acc
  | p :: ps, acc => pushR ps (p :: acc)
theorem mem_pushR {q : Prop} : ∀ {l acc : List Prop}, q ∈ pushR l acc ↔ q ∈ l ∨ q ∈ acc
  | [], acc => by simp [pushR]
  | p :: ps, acc => by
    simp only [pushR, mem_pushR (l := ps), List.mem_cons]
    constructor
    · rintro (h | h | h)
      · exact .inl (.inr h)
      · exact .inl (.inl h)
      · exact .inr h
    · rintro ((h | h) | h)
      · exact .inr (.inl h)
      · exact .inl h
      · exact .inr (.inr h)
def frcR : List Prop → List Prop → Option (List Prop)
  | [], out => some out
  | p :: l, out => frcR l (p :: out)
theorem frcR_mem {q : Prop} : ∀ {l out r : List Prop}, frcR l out = some r → (q ∈ l ∨ q ∈ out) → q ∈ r
  | [], out, r, h, hq => by
    simp only [frcR, Option.some.injEq] at h
    subst h
    simpa using hq
  | p :: l, out, r, h, hq => by
    refine frcR_mem (l := l) h ?_
    rcases hq with hq | hq
    · rcases List.mem_cons.1 hq with hq | hq
      · exact .inr (by simp [hq])
      · exact .inl hq
    · exact .inr (List.mem_cons_of_mem _ hq)
theorem AllP.cons {p : Prop} {l : List Prop} (h : AllP (p :: l)) : p ∧ AllP l := by
  cases l with
  | nil => exact ⟨h, trivial⟩
  | cons q l => exact h
theorem AllP.mem : ∀ {l : List Prop}, AllP l → ∀ p ∈ l, p
  | p :: l, h, q, hq => by
    have h' := h.cons
    rcases List.mem_cons.1 hq with rfl | hq
    · exact h'.1
    · exact AllP.mem h'.2 q hq
theorem AllP.memR {l r : List Prop} (hf : frcR l [] = some r) (h : AllP r) : ∀ p ∈ l, p := fun p hp => AllP.mem h p (frcR_mem hf (.inl hp))
def inK : IntKind → Int → Prop
  | .i64, n => -9223372036854775808 ≤ n ∧ n ≤ 9223372036854775807
  | .i32, n => -2147483648 ≤ n ∧ n ≤ 2147483647
  | .i16, n => -32768 ≤ n ∧ n ≤ 32767
  | .i8, n => -128 ≤ n ∧ n ≤ 127
  | .u64, n => 0 ≤ n ∧ n ≤ 18446744073709551615
  | .u32, n => 0 ≤ n ∧ n ≤ 4294967295
  | .u16, n => 0 ≤ n ∧ n ≤ 65535
  | .u8, n => 0 ≤ n ∧ n ≤ 255
theorem wrap_in {k : IntKind} {n : Int} (h : inK k n) : k.wrap n = n := by
  cases k
  · exact IntWalk.i8_in n h
  · exact IntWalk.i16_in n h
  · exact IntWalk.i32_in n h
  · exact IntWalk.i64_in n h
  · exact IntWalk.u8_in n h
  · exact IntWalk.u16_in n h
  · exact IntWalk.u32_in n h
  · exact IntWalk.u64_in n h
def arith (wr : Bool) (k : IntKind) (r : Int) : Option (List Prop × AV) := bif wr then some ([], .c (.int k (k.wrap r))) else some ([inK k r], .c (.int k r))
theorem arith_ok {wr : Bool} {k : IntKind} {r : Int} {obl : List Prop} {x : AV} (h : arith wr k r = some (obl, x)) (ho : ∀ p ∈ obl, p) : x = .c (.int k (k.wrap r)) := by
  unfold arith at h
  cases wr with
  | true => simp at h; exact h.2.symm
  | false => simp at h; obtain ⟨rfl, rfl⟩ := h; rw [wrap_in (ho _ (by simp))]
def intF (wr : Bool) (op : BinOp) (k : IntKind) (a b : Int) : Option (List Prop × AV) :=
  match op with
  | .add => arith wr k (a + b)
  | .sub => arith wr k (a - b)
  | .mul => arith wr k (a * b)
  | .quo => match arith wr k (a.tdiv b) with
    | some (l, x) => some ((b ≠ 0) :: l, x)
    | none => none
  | .rem => some ([b ≠ 0], .c (.int k (a.tmod b)))
  | .eql => some ([], .c (.bool (a == b)))
  | .neq => some ([], .c (.bool (a != b)))
  | .lss => some ([], .c (.bool (decide (a < b))))
  | .leq => some ([], .c (.bool (decide (a ≤ b))))
  | .gtr => some ([], .c (.bool (decide (b < a))))
  | .geq => some ([], .c (.bool (decide (b ≤ a))))
  | .and => some ([], .c (.int k (bits .and k a b)))
  | .or => some ([], .c (.int k (bits .or k a b)))
  | .xor => some ([], .c (.int k (bits .xor k a b)))
  | .andNot => some ([], .c (.int k (bits .andNot k a b)))
  | .shr => some ([0 ≤ b], .c (.int k (a.fdiv (2 ^ (min b.toNat k.bits)))))
  | _ => none
theorem intF_ok {P : Program} {w : World} {wr : Bool} {op : BinOp} {k : IntKind} {a b : Int} {obl : List Prop} {x : AV} (t : TypeId) (h : intF wr op k a b = some (obl, x)) (ho : ∀ p ∈ obl, p) :
    ∃ v, (binOp op t (.int k a) (.int k b)).run P w = .ok v w ∧ x = .c v := by
  cases op <;> simp only [intF] at h
  case add => exact ⟨_, by rw [binOp_add]; rfl, arith_ok h ho⟩
  case sub => exact ⟨_, by rw [binOp_sub]; rfl, arith_ok h ho⟩
  case mul => exact ⟨_, by rw [binOp_mul]; rfl, arith_ok h ho⟩
  case quo =>
    cases ha : arith wr k (a.tdiv b) with
    | none => simp [ha] at h
    | some y =>
      obtain ⟨l, y⟩ := y
      simp only [ha, Option.some.injEq, Prod.mk.injEq] at h
      obtain ⟨rfl, rfl⟩ := h
      have hb : b ≠ 0 := ho _ (by simp)
      exact ⟨_, by rw [binOp_quo]; simp only [Op.intDiv, if_neg hb]; rfl, arith_ok ha fun p hp => ho p (by simp [hp])⟩
  case shr =>
    simp only [Option.some.injEq, Prod.mk.injEq] at h
    obtain ⟨rfl, rfl⟩ := h
    have hb : ¬ b < 0 := by have := ho (0 ≤ b) (by simp); omega
    exact ⟨_, by simp only [binOp, Op.shift, if_neg hb]; rfl, rfl⟩
  case rem =>
    simp only [Option.some.injEq, Prod.mk.injEq] at h
    obtain ⟨rfl, rfl⟩ := h
    have hb : b ≠ 0 := ho _ (by simp)
    exact ⟨_, by rw [binOp_rem]; simp only [Op.intDiv, if_neg hb]; rfl, rfl⟩
  all_goals first
    | (simp at h; done)
    | (simp only [Option.some.injEq, Prod.mk.injEq] at h
       obtain ⟨rfl, rfl⟩ := h
       first
         | exact ⟨_, by rw [binOp_eql]; rfl, rfl⟩
         | exact ⟨_, by rw [binOp_neq]; rfl, rfl⟩
         | exact ⟨_, by rw [binOp_lss]; rfl, rfl⟩
         | exact ⟨_, by rw [binOp_leq]; rfl, rfl⟩
         | exact ⟨_, by rw [binOp_gtr]; rfl, rfl⟩
         | exact ⟨_, by rw [binOp_geq]; rfl, rfl⟩
         | exact ⟨_, by rw [binOp_and, intBits_and]; rfl, rfl⟩
         | exact ⟨_, by rw [binOp_or, intBits_or]; rfl, rfl⟩
         | exact ⟨_, by rw [binOp_xor, intBits_xor]; rfl, rfl⟩
         | exact ⟨_, by rw [binOp_andNot, intBits_andNot]; rfl, rfl⟩)
def vals : List AV → Option (List Value)
  | [] => some []
  | .c v :: l => match vals l with
    | some vs => some (v :: vs)
    | none => none
  | _ => none
theorem vals_ok {w : World} {G : Nat → Prop} {ρ : Rho} : ∀ {l : List AV} {vs : List Value} {cs : Array Value}, vals l = some vs → cs.size = l.length → (∀ i a, l[i]? = some a → R w G ρ a (cs.getD i undef)) → cs = vs.toArray := by
  intro l vs cs h hs hr
  have key : ∀ (l : List AV) (vs : List Value), vals l = some vs → vs.length = l.length ∧ ∀ (i : Nat) (v : Value), vs[i]? = some v → l[i]? = some (AV.c v) := by
    intro l
    induction l with
    | nil => intro vs h; simp [vals] at h; subst h; simp
    | cons a l ih =>
      intro vs h
      cases a <;> simp only [vals] at h <;> try (simp at h; done)
      rename_i v
      cases hv : vals l with
      | none => simp [hv] at h
      | some us =>
        simp [hv] at h
        subst h
        obtain ⟨h1, h2⟩ := ih us hv
        refine ⟨by simp [h1], fun i u hu => ?_⟩
        cases i with
        | zero => simp at hu ⊢; exact hu
        | succ i => simp at hu ⊢; exact h2 i u hu
  obtain ⟨h1, h2⟩ := key l vs h
  apply Array.ext
  · simp [hs, h1]
  · intro i hi hi'
    simp at hi'
    have hv : vs[i]? = some vs[i] := List.getElem?_eq_getElem hi'
    have := (hr i _ (h2 i _ hv)).c_inv
    simp [hi] at this
    simp [this]
def eqF (T : TE) (t : Nat) (l l' : List AV) : Option Bool :=
  match T.find t with
  | none => none
  | some ti => match ti.leaf with
    | none => none
    | some ks => match vals l, vals l' with
      | some xs, some ys => cellsEq ks xs ys
      | _, _ => none
def binF (T : TE) (wr : Bool) (op : BinOp) (t : TypeId) : AV → AV → Option (List Prop × AV)
  | .c (.int k a), .c (.int k' b) => if k = k' then intF wr op k a b else none
  | .c (.string a), .c (.string b) => match op with
    | .eql => some ([], .c (.bool (a == b)))
    | .neq => some ([], .c (.bool (!(a == b))))
    | .lss => some ([], .c (.bool (Op.bytesLess a.toList b.toList)))
    | .gtr => some ([], .c (.bool (!(Op.bytesLess a.toList b.toList || a == b))))
    | .leq => some ([], .c (.bool (Op.bytesLess a.toList b.toList || a == b)))
    | .geq => some ([], .c (.bool (!(Op.bytesLess a.toList b.toList))))
    | .add => some ([((a.size + b.size : Nat) : Int) ≤ 9223372036854775807], .c (.string (a ++ b)))
    | _ => none
  | .c (.bool a), .c (.bool b) => match T.find t with
    | some ti => match ti.kind, op with
      | .bool, .eql => some ([], .c (.bool (a == b)))
      | .bool, .neq => some ([], .c (.bool (!(a == b))))
      | _, _ => none
    | none => none
  | .agg l, .agg l' => match op with
    | .eql => match eqF T t l l' with
      | some b => some ([], .c (.bool b))
      | none => none
    | .neq => match eqF T t l l' with
      | some b => some ([], .c (.bool (!b)))
      | none => none
    | _ => none
  | .rs _ n _, .c (.slice none 0 0) => match T.find t with
    | some ti => match ti.kind, op with
      | .slice _, .eql => some ([0 < n], .c (.bool false))
      | .slice _, .neq => some ([0 < n], .c (.bool true))
      | _, _ => none
    | none => none
  | .c (.slice A _ _), .c (.slice none 0 0) => match T.find t with
    | some ti => match ti.kind, op with
      | .slice _, .eql => some ([], .c (.bool A.isNone))
      | .slice _, .neq => some ([], .c (.bool (!A.isNone)))
      | _, _ => none
    | none => none
  | _, _ => none
theorem run_equalIn_sliceNil {P : Program} (w : World) (d : Nat) (t e : TypeId) (ad : Addr) (n cap : Nat) (hk : P.underlying t = some (.slice e)) : (Op.equalIn (d + 1) t (.slice (some ad) n cap) (.slice none 0 0)).run P w = .ok false w := by
  simp only [Op.equalIn, Sem.run_bind, run_underlying hk, Result.andThen_ok]
  rfl
theorem run_equalIn_slicesNil {P : Program} (w : World) (d : Nat) (t e : TypeId) (A : Option Addr) (n cap : Nat) (hk : P.underlying t = some (.slice e)) : (Op.equalIn (d + 1) t (.slice A n cap) (.slice none 0 0)).run P w = .ok A.isNone w := by
  simp only [Op.equalIn, Sem.run_bind, run_underlying hk, Result.andThen_ok]
  cases A <;> rfl
theorem run_binGuard {P : Program} {w : World} {op : BinOp} {t : TypeId} {x y : Operand} {u v : Value} {r : Value} (hg : (eqGuard op t x y u v).run P w = .ok () w) (h : (binOp op t u v).run P w = .ok r w) :
    (do eqGuard op t x y u v; binOp op t u v : Sem Value).run P w = .ok r w := by
  simp [hg, h]
theorem binF_ok {P : Program} {T : TE} (hT : TOk P T) {w : World} {G : Nat → Prop} {ρ : Rho} {wr : Bool} {op : BinOp} {t : TypeId} {x y r : AV} {u v : Value} {obl : List Prop} (ox oy : Operand)
    (h : binF T wr op t x y = some (obl, r)) (ho : ∀ p ∈ obl, p) (hx : R w G ρ x u) (hy : R w G ρ y v) :
    ∃ z, (do eqGuard op t ox oy u v; binOp op t u v : Sem Value).run P w = .ok z w ∧ R w G ρ r z := by
  unfold binF at h
  split at h
  · rename_i k a k' b
    rw [hx.c_inv, hy.c_inv]
    split at h
    · rename_i hk
      subst hk
      obtain ⟨z, hz, rfl⟩ := intF_ok (P := P) (w := w) t h ho
      exact ⟨z, run_binGuard (by rw [eqGuard_at_int]; rfl) hz, .c⟩
    · cases h
  · rename_i a b
    rw [hx.c_inv, hy.c_inv]
    have hgd : ∀ op, (eqGuard op t ox oy (.string a) (.string b)).run P w = .ok () w := fun op => by rw [eqGuard_at_string]; rfl
    have hst : ∀ op, (op = .eql ∨ op = .neq ∨ op = .lss ∨ op = .leq ∨ op = .gtr ∨ op = .geq ∨ op = .add) → binOp op t (.string a) (.string b) = Op.stringOp op a b := by
      rintro op (rfl | rfl | rfl | rfl | rfl | rfl | rfl) <;> rfl
    have hbq := beq_toListBytes a b
    cases op <;> simp only at h <;> first
      | (cases h; done)
      | (simp only [Option.some.injEq, Prod.mk.injEq] at h
         obtain ⟨rfl, rfl⟩ := h
         refine ⟨_, run_binGuard (hgd _) (by rw [hst _ (by simp)]; simp only [Op.stringOp, ← hbq]; rfl), .c⟩)
      | skip
    simp only [Option.some.injEq, Prod.mk.injEq] at h
    obtain ⟨rfl, rfl⟩ := h
    have hs : ((a.size + b.size : Nat) : Int) ≤ 9223372036854775807 := ho _ (by simp)
    refine ⟨_, run_binGuard (hgd _) (by rw [hst _ (by simp)]; simp only [Op.stringOp]; rw [if_neg (by rw [IntKind.max_i64]; omega)]; rfl), .c⟩
  · rename_i a b
    rw [hx.c_inv, hy.c_inv]
    cases hf : T.find t with
    | none => simp [hf] at h
    | some ti =>
      simp only [hf] at h
      have hk := (hT t ti hf).kind
      split at h
      · rename_i hkd
        rw [hkd] at hk
        simp only [KindOk] at hk
        simp only [Option.some.injEq, Prod.mk.injEq] at h
        obtain ⟨rfl, rfl⟩ := h
        have he : (Op.equal t (.bool a) (.bool b)).run P w = .ok (a == b) w := run_equalIn_bool' w 9999 t a b hk
        exact ⟨.bool (a == b), run_binGuard (by rw [eqGuard_at_bool]; rfl) (by simp [binOp, he]), .c⟩
      · rename_i hkd
        rw [hkd] at hk
        simp only [KindOk] at hk
        simp only [Option.some.injEq, Prod.mk.injEq] at h
        obtain ⟨rfl, rfl⟩ := h
        have he : (Op.equal t (.bool a) (.bool b)).run P w = .ok (a == b) w := run_equalIn_bool' w 9999 t a b hk
        exact ⟨.bool (!(a == b)), run_binGuard (by rw [eqGuard_at_bool]; rfl) (by simp [binOp, he]), .c⟩
      · cases h
  · rename_i l l'
    obtain ⟨cs, rfl, hs, hr⟩ := hx.agg_inv
    obtain ⟨cs', rfl, hs', hr'⟩ := hy.agg_inv
    have key : ∀ b, eqF T t l l' = some b → (Op.equal t (.agg cs) (.agg cs')).run P w = .ok b w ∧ ∀ op, (eqGuard op t ox oy (.agg cs) (.agg cs')).run P w = .ok () w := by
      intro b hb
      unfold eqF at hb
      cases hf : T.find t with
      | none => simp [hf] at hb
      | some ti =>
        cases hlf : ti.leaf with
        | none => simp [hf, hlf] at hb
        | some ks =>
          simp only [hf, hlf] at hb
          split at hb
          · rename_i xs ys h1 h2
            obtain ⟨h3, h4⟩ := (hT t ti hf).leaf ks hlf
            rw [vals_ok h1 hs hr, vals_ok h2 hs' hr']
            exact ⟨h4 xs ys b w hb, fun op => run_eqGuard_agg w op t ox oy _ _ h3⟩
          · cases hb
    cases op <;> simp only at h <;> try (cases h; done)
    · cases hq : eqF T t l l' with
      | none => simp [hq] at h
      | some b =>
        simp only [hq, Option.some.injEq, Prod.mk.injEq] at h
        obtain ⟨rfl, rfl⟩ := h
        obtain ⟨h1, h2⟩ := key b hq
        exact ⟨.bool b, run_binGuard (h2 _) (by simp [binOp, h1]), .c⟩
    · cases hq : eqF T t l l' with
      | none => simp [hq] at h
      | some b =>
        simp only [hq, Option.some.injEq, Prod.mk.injEq] at h
        obtain ⟨rfl, rfl⟩ := h
        obtain ⟨h1, h2⟩ := key b hq
        exact ⟨.bool (!b), run_binGuard (h2 _) (by simp [binOp, h1]), .c⟩
  · rename_i sz n f
    cases hf : T.find t with
    | none => simp [hf] at h
    | some ti =>
      simp only [hf] at h
      have hk := (hT t ti hf).kind
      rw [hy.c_inv]
      obtain ⟨A, cap, rfl, hn, hm, hl, hc⟩ := hx.rs_inv
      split at h
      · rename_i e hkd
        rw [hkd] at hk
        simp only [KindOk] at hk
        simp only [Option.some.injEq, Prod.mk.injEq] at h
        obtain ⟨rfl, rfl⟩ := h
        obtain ⟨ad, rfl, _⟩ := hc (ho _ (by simp))
        have he : (Op.equal t (.slice (some ad) n cap) (.slice none 0 0)).run P w = .ok false w := run_equalIn_sliceNil w 9999 t _ ad n cap hk
        exact ⟨.bool false, run_binGuard (by simp [eqGuard]) (by simp [binOp, he]), .c⟩
      · rename_i e hkd
        rw [hkd] at hk
        simp only [KindOk] at hk
        simp only [Option.some.injEq, Prod.mk.injEq] at h
        obtain ⟨rfl, rfl⟩ := h
        obtain ⟨ad, rfl, _⟩ := hc (ho _ (by simp))
        have he : (Op.equal t (.slice (some ad) n cap) (.slice none 0 0)).run P w = .ok false w := run_equalIn_sliceNil w 9999 t _ ad n cap hk
        exact ⟨.bool true, run_binGuard (by simp [eqGuard]) (by simp [binOp, he]), .c⟩
      · cases h
  · rename_i A n cap
    rw [hx.c_inv, hy.c_inv]
    cases hf : T.find t with
    | none => simp [hf] at h
    | some ti =>
      simp only [hf] at h
      have hk := (hT t ti hf).kind
      split at h
      · rename_i e hkd
        rw [hkd] at hk
        simp only [KindOk] at hk
        simp only [Option.some.injEq, Prod.mk.injEq] at h
        obtain ⟨rfl, rfl⟩ := h
        have he : (Op.equal t (.slice A n cap) (.slice none 0 0)).run P w = .ok A.isNone w := run_equalIn_slicesNil w 9999 t _ A n cap hk
        exact ⟨.bool A.isNone, run_binGuard (by simp [eqGuard]) (by simp [binOp, he]), .c⟩
      · rename_i e hkd
        rw [hkd] at hk
        simp only [KindOk] at hk
        simp only [Option.some.injEq, Prod.mk.injEq] at h
        obtain ⟨rfl, rfl⟩ := h
        have he : (Op.equal t (.slice A n cap) (.slice none 0 0)).run P w = .ok A.isNone w := run_equalIn_slicesNil w 9999 t _ A n cap hk
        exact ⟨.bool (!A.isNone), run_binGuard (by simp [eqGuard]) (by simp [binOp, he]), .c⟩
      · cases h
  · cases h
def unF (wr : Bool) (op : UnOp) : AV → Option (List Prop × AV)
  | .c (.int k n) => match op with
    | .neg => arith wr k (0 - n)
    | _ => none
  | .c (.bool b) => match op with
    | .not => some ([], .c (.bool (!b)))
    | _ => none
  | _ => none
theorem unF_ok {P : Program} {w : World} {G : Nat → Prop} {ρ : Rho} {wr : Bool} {op : UnOp} {x r : AV} {u : Value} {obl : List Prop}
    (h : unF wr op x = some (obl, r)) (ho : ∀ p ∈ obl, p) (hx : R w G ρ x u) : ∃ z, (Op.unary op u).run P w = .ok z w ∧ R w G ρ r z := by
  unfold unF at h
  split at h
  · rw [hx.c_inv]
    cases op <;> simp only at h <;> try (cases h; done)
    rw [arith_ok h ho]
    exact ⟨_, rfl, .c⟩
  · rw [hx.c_inv]
    cases op <;> simp only at h <;> try (cases h; done)
    simp only [Option.some.injEq, Prod.mk.injEq] at h
    obtain ⟨rfl, rfl⟩ := h
    exact ⟨_, rfl, .c⟩
  · cases h
def convF (T : TE) (wr : Bool) (src dst : TypeId) : AV → Option (List Prop × AV)
  | .c (.int _ n) => match T.find src, T.find dst with
    | some _, some ti => match ti.kind with
      | .int k => arith wr k n
      | _ => none
    | _, _ => none
  | .c (.string s) => match T.find src, T.find dst with
    | some si, some ti => match si.kind, ti.kind with
      | .string, .string => some ([], .c (.string s))
      | _, _ => none
    | _, _ => none
  | _ => none
theorem KindOk.under {P : Program} {t : Nat} {k : TK} (h : KindOk P t k) : ∃ d, P.underlying t = some d := by
  cases k <;> simp only [KindOk] at h
  · exact ⟨_, h⟩
  · exact ⟨_, h⟩
  · exact ⟨_, h⟩
  · obtain ⟨fs, h, _⟩ := h; exact ⟨_, h⟩
  · exact ⟨_, h⟩
  · exact ⟨_, h⟩
  · exact ⟨_, h⟩
  · obtain ⟨d, h, _⟩ := h; exact ⟨d, h⟩
theorem convF_ok {P : Program} {T : TE} (hT : TOk P T) {w : World} {G : Nat → Prop} {ρ : Rho} {wr : Bool} {src dst : TypeId} {x r : AV} {u : Value} {obl : List Prop}
    (h : convF T wr src dst x = some (obl, r)) (ho : ∀ p ∈ obl, p) (hx : R w G ρ x u) : ∃ z, (convert src dst u).run P w = .ok z w ∧ R w G ρ r z := by
  unfold convF at h
  split at h
  · rw [hx.c_inv]
    split at h
    · rename_i si ti hs ht
      split at h
      · rename_i hk
        have h1 := (hT _ _ ht).kind
        rw [hk] at h1
        simp only [KindOk] at h1
        obtain ⟨d, h2⟩ := (hT _ _ hs).kind.under
        rw [arith_ok h ho]
        exact ⟨_, by simp [convert, run_underlying h1, run_underlying h2, Conv.intToInt], .c⟩
      · cases h
    · cases h
  · rw [hx.c_inv]
    split at h
    · rename_i si ti hs ht
      split at h
      · rename_i hk1 hk2
        have h1 := (hT _ _ ht).kind
        rw [hk2] at h1
        simp only [KindOk] at h1
        have h2 := (hT _ _ hs).kind
        rw [hk1] at h2
        simp only [KindOk] at h2
        simp only [Option.some.injEq, Prod.mk.injEq] at h
        obtain ⟨rfl, rfl⟩ := h
        exact ⟨_, by simp [convert, run_underlying h1, run_underlying h2], .c⟩
      · cases h
    · cases h
  · cases h
end Go.Eng
end
section
/- The engine, part E: addresses, loads, lengths, cuts, structs built: what only looks at the state. -/
namespace Go.Eng
def live (ob : Nat → Option Ob) : AV → Bool
  | .vec k s => match ob k with
    | some (.vec _ _ s' _ _) => Nat.beq s s'
    | _ => false
  | .vptr k s _ _ _ => match ob k with
    | some (.vec _ _ s' _ _) => Nat.beq s s'
    | _ => false
  | _ => true
def avCells (ob : Nat → Option Ob) : AV → Option (List AV)
  | .agg l => some l
  | .c (.agg _) => none
  | .c (.tuple _) => none
  | .tup _ => none
  | .gd _ _ => none
  | .junk => none
  | x => bif live ob x then some [x] else none
def oneAV (ob : Nat → Option Ob) : AV → Bool
  | .c v => v.oneCell'
  | .ptr _ _ => true
  | .mp _ => true
  | .rptr _ => true
  | .rs _ _ _ => true
  | .fn _ _ _ => true
  | .vec k s => live ob (.vec k s)
  | .vptr k s sz i off => live ob (.vptr k s sz i off)
  | _ => false
section
variable {E : Env} {st : ST} {a : Act} {w : World} {ρ : Rho}
theorem SatR.live_vec (h : SatR E st a w ρ) {k s : Nat} {v : Value} (hl : live st.ob (.vec k s) = true) (hr : R w (E.good w ρ) ρ (.vec k s) v) :
    ∃ e sz n f xs, st.ob k = some (.vec e sz s n f) ∧ ρ k = some (.hdr s v) ∧ w.ownsRow 0 e sz v n xs ∧ (∀ i, i < n → (f i).length = sz) ∧ ∀ i j x, i < n → (f i)[j]? = some x → R w (E.good w ρ) Rho.none x (xs.getD (i * sz + j) undef) := by
  simp only [live] at hl
  split at hl
  · rename_i e sz s' n f ho
    have hs := Nat.eq_of_beq_eq_true hl
    subst hs
    obtain ⟨hv, xs, hk, hown, hf, hx⟩ := h.ob k _ ho
    have := hr.vec_inv hk
    subst this
    exact ⟨e, sz, n, f, xs, ho, hk, hown, hf, hx⟩
  · cases hl
theorem SatR.live_vptr (h : SatR E st a w ρ) {k s sz i off : Nat} {v : Value} (hl : live st.ob (.vptr k s sz i off) = true) (hr : R w (E.good w ρ) ρ (.vptr k s sz i off) v) :
    ∃ e sz' n f g cap cur, st.ob k = some (.vec e sz' s n f) ∧ ρ k = some (.hdr s (.slice (some ⟨g, 0, none⟩) n cap)) ∧ v = .pointer (some ⟨g, i * sz + off, none⟩) ∧ i < n ∧ n ≤ cap ∧ cap ≤ maxLen ∧
      w.heap[g]? = some (.cells cur e (0, 0)) ∧ cur.size = cap * sz' ∧ (∀ i, i < n → (f i).length = sz') ∧ ∀ i j x, i < n → (f i)[j]? = some x → R w (E.good w ρ) Rho.none x (cur.getD (i * sz' + j) undef) := by
  simp only [live] at hl
  split at hl
  · rename_i e sz' s' n f ho
    have hs := Nat.eq_of_beq_eq_true hl
    subst hs
    obtain ⟨hv, xs, hk, hown, hf, hx⟩ := h.ob k _ ho
    obtain ⟨g, n', cap, rfl, hi, rfl⟩ := hr.vptr_inv hk
    rcases hown with ⟨hxl, ⟨h1, _⟩ | ⟨g', cap', cur, h1, _, hh, hnc, hm, hs, htake⟩⟩
    · simp at h1
    · injection h1 with h1 h2 h3
      injection h1 with h1
      injection h1 with h1
      subst h1 h2 h3
      refine ⟨e, sz', n', f, g, cap, cur, ho, hk, rfl, hi, hnc, hm, hh, hs, hf, fun i j x hi hx' => ?_⟩
      have hj : j < sz' := by
        have := (List.getElem?_eq_some_iff.1 hx').1
        rw [hf i hi] at this; exact this
      have hij : i * sz' + j < n' * sz' := by
        have : (i + 1) * sz' ≤ n' * sz' := Nat.mul_le_mul_right sz' hi
        rw [Nat.add_mul] at this; omega
      have := hx i j x hi hx'
      rw [← htake] at this
      simpa [List.getD, List.getElem?_take, hij] using this
  · cases hl
theorem SatR.oneCell (h : SatR E st a w ρ) {x : AV} {v : Value} (ho : oneAV st.ob x = true) (hr : R w (E.good w ρ) ρ x v) : v.oneCell' = true := by
  cases x with
  | c u => rw [hr.c_inv]; exact ho
  | ptr k off => obtain ⟨_, _, rfl⟩ := hr.ptr_inv; rfl
  | mp k => cases hr; rfl
  | rptr l => obtain ⟨_, rfl, _⟩ := hr.rptr_inv; rfl
  | rs sz n f => obtain ⟨_, _, rfl, _⟩ := hr.rs_inv; rfl
  | fn f l l' => cases hr; rfl
  | vec k s =>
    obtain ⟨_, _, _, _, _, _, _, hown, _⟩ := h.live_vec ho hr
    rcases hown.2 with ⟨rfl, _⟩ | ⟨_, _, _, rfl, _⟩ <;> rfl
  | vptr k s sz i off => obtain ⟨_, _, _, _, _, _, _, _, _, rfl, _⟩ := h.live_vptr ho hr; rfl
  | junk => simp [oneAV] at ho
  | agg l => simp [oneAV] at ho
  | tup l => simp [oneAV] at ho
  | gd g a => simp [oneAV] at ho
theorem Value.cells_one {v : Value} (h : ∀ cs, v ≠ .agg cs) : v.cells = #[v] := by
  cases v <;> first | rfl | exact absurd rfl (h _)
theorem SatR.cells (h : SatR E st a w ρ) {x : AV} {v : Value} {l : List AV} (hl : avCells st.ob x = some l) (hr : R w (E.good w ρ) ρ x v) :
    v.cells.size = l.length ∧ ∀ i y, l[i]? = some y → R w (E.good w ρ) ρ y (v.cells.getD i undef) := by
  have one : ∀ {x : AV} {l : List AV} {v : Value}, (∀ cs, v ≠ .agg cs) → some [x] = some l → R w (E.good w ρ) ρ x v → v.cells.size = l.length ∧ ∀ i y, l[i]? = some y → R w (E.good w ρ) ρ y (v.cells.getD i undef) := by
    intro x l v hv h1 hr
    injection h1 with h1
    subst h1
    rw [Value.cells_one hv]
    refine ⟨rfl, fun i y hy => ?_⟩
    cases i with
    | zero => simp at hy; subst hy; exact hr
    | succ i => simp at hy
  cases x with
  | agg l' =>
    simp only [avCells, Option.some.injEq] at hl
    subst hl
    obtain ⟨cs, rfl, h1, h2⟩ := hr.agg_inv
    exact ⟨h1, h2⟩
  | c u =>
    rw [hr.c_inv]
    cases u <;> simp only [avCells, live, cond_true] at hl <;> first | exact one (fun _ e => by cases e) hl .c | (cases hl; done)
  | ptr k off =>
    obtain ⟨_, _, rfl⟩ := hr.ptr_inv
    exact one (fun _ e => by cases e) (by simpa [avCells, live] using hl) hr
  | mp k =>
    have hv : ∀ cs, v ≠ .agg cs := by cases hr; exact fun _ e => by cases e
    exact one hv (by simpa [avCells, live] using hl) hr
  | rptr l' =>
    obtain ⟨_, rfl, _⟩ := hr.rptr_inv
    exact one (fun _ e => by cases e) (by simpa [avCells, live] using hl) hr
  | rs sz n f =>
    obtain ⟨_, _, rfl, _⟩ := hr.rs_inv
    exact one (fun _ e => by cases e) (by simpa [avCells, live] using hl) hr
  | fn f l1 l2 =>
    have hv : ∀ cs, v ≠ .agg cs := by cases hr; exact fun _ e => by cases e
    exact one hv (by simpa [avCells, live] using hl) hr
  | vec k s =>
    cases hb : live st.ob (.vec k s) with
    | false => simp [avCells, hb] at hl
    | true =>
      obtain ⟨_, _, _, _, _, _, _, hown, _⟩ := h.live_vec hb hr
      refine one (fun cs e => ?_) (by simpa [avCells, hb] using hl) hr
      rcases hown.2 with ⟨h1, _⟩ | ⟨_, _, _, h1, _⟩ <;> rw [h1] at e <;> cases e
  | vptr k s sz i off =>
    cases hb : live st.ob (.vptr k s sz i off) with
    | false => simp [avCells, hb] at hl
    | true =>
      obtain ⟨_, _, _, _, _, _, _, _, _, h1, _⟩ := h.live_vptr hb hr
      exact one (fun cs e => by rw [h1] at e; cases e) (by simpa [avCells, hb] using hl) hr
  | junk => simp [avCells] at hl
  | tup l' => simp [avCells] at hl
  | gd g a' => simp [avCells] at hl
theorem SatR.objCells (h : SatR E st a w ρ) {k : Nat} {t : TypeId} {cs : List AV} {g : Nat} (ho : st.ob k = some (.cells t cs)) (hk : ρ k = some (.blk g)) : Cells w (E.good w ρ) ρ ⟨g, 0, none⟩ cs := by
  obtain ⟨g', arr, hk', hh, hs, hr⟩ := h.ob k _ ho
  rw [hk] at hk'
  injection hk' with hk'
  injection hk' with hk'
  subst hk'
  intro i x hx
  have hi : i < arr.size := by rw [hs]; exact (List.getElem?_eq_some_iff.1 hx).1
  refine ⟨arr.getD i undef, ?_, hr i x hx⟩
  rw [Addr.add_lit, Nat.zero_add, cell_of_row w g i arr t (0, 0) hh]
  simp [hi]
end
/- Loads. -/
def loadF (T : TE) (ob : Nat → Option Ob) (t : TypeId) : AV → Option (List Prop × AV)
  | .ptr k off => match T.find t, ob k with
    | some ti, some (.cells _ cs) => match cellsAt ti cs off with
      | some x => some ([], x)
      | none => none
    | _, _ => none
  | .rptr l => match T.find t with
    | some ti => match cellsAt ti l 0 with
      | some x => some ([], x)
      | none => none
    | none => none
  | .vptr k s sz i off => match T.find t, ob k with
    | some ti, some (.vec _ sz' s' n f) => bif Nat.beq s s' && Nat.beq sz sz' then
        (match ti.kind with
         | .array m _ => bif Nat.beq i 0 && Nat.beq off 0 && Nat.beq m n then (match cellsAt ti ((List.range n).flatMap f) 0 with
             | some x => some ([], x)
             | none => none) else none
         | _ => match cellsAt ti (f i) off with
             | some x => some ([], x)
             | none => none)
        else none
    | _, _ => none
  | _ => none
theorem flat_at {n sz : Nat} {f : Nat → List AV} (hf : ∀ i, i < n → (f i).length = sz) {j : Nat} {x : AV} (h : ((List.range n).flatMap f)[j]? = some x) : ∃ i k, i < n ∧ j = i * sz + k ∧ (f i)[k]? = some x := by
  induction n generalizing j with
  | zero => simp at h
  | succ n ih =>
    have hlen : ((List.range n).flatMap f).length = n * sz := by
      clear h ih
      induction n with
      | zero => simp
      | succ n ih => rw [List.range_succ, List.flatMap_append]; simp [ih fun i hi => hf i (by omega), hf n (by omega), Nat.add_mul]
    rw [List.range_succ, List.flatMap_append, List.getElem?_append] at h
    split at h
    · obtain ⟨i, k, h1, h2, h3⟩ := ih (fun i hi => hf i (by omega)) h
      exact ⟨i, k, by omega, h2, h3⟩
    · rw [hlen] at h
      exact ⟨n, j - n * sz, by omega, by omega, by simpa using h⟩
section
variable {E : Env} {st : ST} {a : Act} {w : World} {ρ : Rho} {T : TE}
theorem loadF_ok (hT : TOk E.P T) (h : SatR E st a w ρ) {t : TypeId} {x r : AV} {v : Value} {obl : List Prop} (hl : loadF T st.ob t x = some (obl, r)) (hr : R w (E.good w ρ) ρ x v) :
    ∃ z, (Instr.loadAt t v).run E.P w = .ok z w ∧ R w (E.good w ρ) ρ r z := by
  have fin : ∀ {ad : Addr} {cs : List AV} {off : Nat} {ti : TI} {ρ' : Rho}, T.find t = some ti → Cells w (E.good w ρ) ρ' ad cs → cellsAt ti cs off = some r → Le ρ' ρ → v = .pointer (some (ad.add off)) →
      ∃ z, (Instr.loadAt t v).run E.P w = .ok z w ∧ R w (E.good w ρ) ρ r z := by
    intro ad cs off ti ρ' ht hc hx hle hv
    obtain ⟨z, h1, h2⟩ := run_loadVar (P := E.P) (hT t ti ht) hc hx
    exact ⟨z, by subst hv; simp [Instr.loadAt, Instr.sureAddr, h1], h2.tr (fun _ hb => ⟨hb, rfl⟩) _ hle⟩
  unfold loadF at hl
  split at hl
  · rename_i k off
    split at hl
    · rename_i ti _ cs ht ho
      split at hl
      · rename_i y hy
        simp only [Option.some.injEq, Prod.mk.injEq] at hl
        obtain ⟨_, rfl⟩ := hl
        obtain ⟨g, hk, rfl⟩ := hr.ptr_inv
        exact fin ht (h.objCells ho hk) hy (Le.refl _) (by rw [Addr.add_lit, Nat.zero_add])
      · cases hl
    · cases hl
  · rename_i l
    split at hl
    · rename_i ti ht
      split at hl
      · rename_i y hy
        simp only [Option.some.injEq, Prod.mk.injEq] at hl
        obtain ⟨_, rfl⟩ := hl
        obtain ⟨ad, rfl, _, hc⟩ := hr.rptr_inv
        exact fin ht hc hy (Le.none _) (by rw [Addr.add_zero'])
      · cases hl
    · cases hl
  · rename_i k s sz i off
    split at hl
    · rename_i ti e sz' s' n f ht ho
      cases hb : Nat.beq s s' && Nat.beq sz sz' with
      | false => rw [hb] at hl; simp at hl
      | true =>
        rw [hb] at hl
        simp only [cond_true] at hl
        simp only [Bool.and_eq_true] at hb
        have hs := Nat.eq_of_beq_eq_true hb.1
        have hsz := Nat.eq_of_beq_eq_true hb.2
        subst hs hsz
        obtain ⟨e', sz'', n', f', g, cap, cur, ho', hk, rfl, hi, hnc, _, hh, hcs, hf, hx⟩ := h.live_vptr (by simp [live, ho]) hr
        rw [ho] at ho'
        injection ho' with ho'
        injection ho' with _ h2 _ h4 h5
        subst h2 h4 h5
        have row : ∀ i, i < n → Cells w (E.good w ρ) Rho.none ⟨g, i * sz, none⟩ (f i) := by
          intro i hi j x hx'
          have hj : j < sz := by
            have := (List.getElem?_eq_some_iff.1 hx').1
            rw [hf i hi] at this; exact this
          have hij : i * sz + j < cur.size := by
            have h1 : (i + 1) * sz ≤ n * sz := Nat.mul_le_mul_right sz hi
            have h2 := Nat.mul_le_mul_right sz hnc
            rw [Nat.add_mul] at h1; omega
          refine ⟨cur.getD (i * sz + j) undef, ?_, hx i j x hi hx'⟩
          rw [Addr.add_lit, cell_of_row w g _ cur e' (0, 0) hh]
          simp [hij]
        split at hl
        · rename_i m e2 _
          cases hb2 : Nat.beq i 0 && Nat.beq off 0 && Nat.beq m n with
          | false => rw [hb2] at hl; simp at hl
          | true =>
            rw [hb2] at hl
            simp only [cond_true] at hl
            simp only [Bool.and_eq_true] at hb2
            have h0 := Nat.eq_of_beq_eq_true hb2.1.1
            have h1 := Nat.eq_of_beq_eq_true hb2.1.2
            subst h0 h1
            split at hl
            · rename_i y hy
              simp only [Option.some.injEq, Prod.mk.injEq] at hl
              obtain ⟨_, rfl⟩ := hl
              refine fin (ad := ⟨g, 0, none⟩) ht (fun j x hx' => ?_) hy (Le.none _) (by rw [Addr.add_zero']; simp)
              obtain ⟨i, k, h1, rfl, h3⟩ := flat_at hf hx'
              obtain ⟨u, h4, h5⟩ := row i h1 k x h3
              refine ⟨u, ?_, h5⟩
              rw [Addr.add_lit] at h4 ⊢
              rw [Nat.zero_add]; exact h4
            · cases hl
        · split at hl
          · rename_i y hy
            simp only [Option.some.injEq, Prod.mk.injEq] at hl
            obtain ⟨_, rfl⟩ := hl
            exact fin ht (row i hi) hy (Le.none _) (by rw [Addr.add_lit])
          · cases hl
    · cases hl
  · cases hl
end
/- Addresses of fields, of elements. -/
def fieldF (T : TE) (ob : Nat → Option Ob) (s : TypeId) (f : Nat) : AV → Option (List Prop × AV)
  | x => match T.find s with
    | some ti => match ti.kind with
      | .struct pl _ => match pl[f]? with
        | some (o, sz) => bif Nat.beq sz 0 then none else (match x with
          | .ptr k off => some ([], .ptr k (off + o))
          | .rptr l => some ([], .rptr (l.drop o))
          | .vptr k s sz i off => bif live ob (.vptr k s sz i off) then some ([], .vptr k s sz i (off + o)) else none
          | _ => none)
        | none => none
      | _ => none
    | none => none
theorem mapM_get {α β : Type} {f : α → Option β} : ∀ {l : List α} {r : List β}, l.mapM f = some r → ∀ (i : Nat) (b : β), r[i]? = some b → ∃ x, l[i]? = some x ∧ f x = some b
  | [], r, h, i, b, hb => by simp at h; subst h; simp at hb
  | x :: l, r, h, i, b, hb => by
    simp only [List.mapM_cons, Option.bind_eq_bind, Option.pure_def] at h
    cases hx : f x with
    | none => simp [hx] at h
    | some y =>
      cases hl : l.mapM f with
      | none => simp [hx, hl] at h
      | some ys =>
        simp [hx, hl] at h
        subst h
        cases i with
        | zero => simp at hb; subst hb; exact ⟨x, by simp, hx⟩
        | succ i => simp at hb ⊢; exact mapM_get hl i b hb
section
variable {E : Env} {st : ST} {a : Act} {w : World} {ρ : Rho} {T : TE}
theorem TIOk.field {P : Program} {t : Nat} {ti : TI} (h : TIOk P t ti) {pl : List (Nat × Nat)} {ty : List Nat} (hk : ti.kind = .struct pl ty) {f o sz : Nat} (hf : pl[f]? = some (o, sz)) :
    ∃ fs : Array Field, ∃ fd inf, P.underlying t = some (.struct fs) ∧ fs[f]? = some fd ∧ fd.offset = o ∧ P.info? fd.type = some inf ∧ inf.size = sz ∧ ty[f]? = some fd.type := by
  have h1 := h.kind
  rw [hk] at h1
  obtain ⟨fs, h2, h3, h4⟩ := h1
  obtain ⟨fd, h5, h6⟩ := mapM_get h3 f _ hf
  cases hi : P.info? fd.type with
  | none => simp [hi] at h6
  | some inf =>
    simp [hi] at h6
    exact ⟨fs, fd, inf, h2, by simpa using h5, h6.1, hi, h6.2, by rw [← h4]; simp [List.getElem?_map, h5]⟩
theorem fieldF_ok (hT : TOk E.P T) (h : SatR E st a w ρ) {s : TypeId} {f : Nat} {x r : AV} {v : Value} {obl : List Prop} (hl : fieldF T st.ob s f x = some (obl, r)) (hr : R w (E.good w ρ) ρ x v) :
    ∃ z, (Instr.fieldAt s v f).run E.P w = .ok z w ∧ R w (E.good w ρ) ρ r z := by
  unfold fieldF at hl
  split at hl
  · rename_i ti ht
    split at hl
    · rename_i pl ty hk
      split at hl
      · rename_i o sz hf
        obtain ⟨fs, fd, inf, h1, h2, h3, h4, h5, _⟩ := (hT s ti ht).field hk hf
        cases hz : Nat.beq sz 0 with
        | true => rw [hz] at hl; simp at hl
        | false =>
          rw [hz] at hl
          simp only [cond_false] at hl
          have hne : sz ≠ 0 := fun e => by subst e; simp at hz
          have key : ∀ ad, (Instr.fieldAt s (.pointer (some ad)) f).run E.P w = .ok (.pointer (some (ad.add o))) w := by
            intro ad
            have hso : (sizeOf fd.type).run E.P w = .ok sz w := by simp [sizeOf, typeInfo, h4, h5]
            have hfp : (fieldPlace ad fd).run E.P w = .ok (ad.add o) w := by simp [fieldPlace, hso, hne, h3]
            simp [Instr.fieldAt, run_underlying h1, h2, Instr.sureAddr, hfp]
          split at hl
          · simp only [Option.some.injEq, Prod.mk.injEq] at hl
            obtain ⟨_, rfl⟩ := hl
            obtain ⟨g, hk', rfl⟩ := hr.ptr_inv
            exact ⟨_, key _, by rw [Addr.add_lit]; exact .ptr hk'⟩
          · simp only [Option.some.injEq, Prod.mk.injEq] at hl
            obtain ⟨_, rfl⟩ := hl
            obtain ⟨ad, rfl, hg, hc⟩ := hr.rptr_inv
            exact ⟨_, key _, R.rptr_mk (by rw [block_add]; exact hg) (hc.drop o)⟩
          · rename_i k s' sz' i off
            cases hb : live st.ob (.vptr k s' sz' i off) with
            | false => simp [hb] at hl
            | true =>
              simp only [hb, cond_true, Option.some.injEq, Prod.mk.injEq] at hl
              obtain ⟨_, rfl⟩ := hl
              obtain ⟨_, _, _, _, g, cap, cur, _, hk', rfl, hi, _⟩ := h.live_vptr hb hr
              exact ⟨_, key _, by rw [Addr.add_lit, Nat.add_assoc]; exact .vptr hk' hi⟩
          · cases hl
      · cases hl
    · cases hl
  · cases hl
theorem asIntOf_int {P : Program} {w : World} {k : IntKind} {n : Int} : (asIntOf (.int k n)).run P w = .ok (k, n) w := rfl
def indexF (T : TE) (ob : Nat → Option Ob) (t : TypeId) : AV → AV → Option (List Prop × AV)
  | x, .c (.int _ i) => match T.find t with
    | some ti => match ti.kind with
      | .slice e => match T.find e with
        | some te => (match x with
          | .rs sz n f => bif Nat.beq sz te.size then some ([0 ≤ i ∧ i < (n : Int)], .rptr (f i.toNat)) else none
          | .vec k s => match ob k with
            | some (.vec _ sz s' n _) => bif Nat.beq s s' && Nat.beq sz te.size then some ([0 ≤ i ∧ i < (n : Int)], .vptr k s sz i.toNat 0) else none
            | _ => none
          | _ => none)
        | none => none
      | .array m e => match T.find e with
        | some te => (match x with
          | .vptr k s sz j off => match ob k with
            | some (.vec _ sz' s' n _) => bif Nat.beq s s' && Nat.beq sz te.size && Nat.beq sz sz' && Nat.beq off 0 && Nat.beq m n && Nat.beq j 0 then some ([0 ≤ i ∧ i < (n : Int)], .vptr k s sz i.toNat 0)
                else bif Nat.beq s s' && Nat.beq sz te.size && Nat.beq sz sz' && Nat.beq off 0 then some ([0 ≤ i ∧ i < (m : Int) ∧ (j : Int) + i < (n : Int)], .vptr k s sz (j + i.toNat) 0)
                else (match te.kind with
                  | .array m2 _ => bif Nat.beq s s' && Nat.beq (m2 * sz) te.size && Nat.beq sz sz' && Nat.beq off 0 then some ([0 ≤ i ∧ i < (m : Int) ∧ (j : Int) + i * m2 < (n : Int)], .vptr k s sz (j + i.toNat * m2) 0) else none
                  | _ => none)
            | _ => none
          | _ => none)
        | none => none
      | _ => none
    | none => none
  | _, _ => none
theorem indexF_ok (hT : TOk E.P T) (h : SatR E st a w ρ) {t : TypeId} {x y r : AV} {u v : Value} {obl : List Prop} (hl : indexF T st.ob t x y = some (obl, r)) (ho : ∀ p ∈ obl, p)
    (hx : R w (E.good w ρ) ρ x u) (hy : R w (E.good w ρ) ρ y v) : ∃ z, (Instr.indexAt t u v).run E.P w = .ok z w ∧ R w (E.good w ρ) ρ r z := by
  unfold indexF at hl
  split at hl
  · rename_i x' ik i
    rw [hy.c_inv]
    split at hl
    · rename_i ti ht
      have hkd := (hT t ti ht).kind
      split at hl
      · rename_i e hk
        rw [hk] at hkd
        simp only [KindOk] at hkd
        split at hl
        · rename_i te hte
          have hso := (hT e te hte).run_sizeOf w
          split at hl
          · rename_i sz n f
            cases hb : Nat.beq sz te.size with
            | false => simp [hb] at hl
            | true =>
              simp only [hb, cond_true, Option.some.injEq, Prod.mk.injEq] at hl
              obtain ⟨rfl, rfl⟩ := hl
              have hsz := Nat.eq_of_beq_eq_true hb
              subst hsz
              obtain ⟨h0, h1⟩ : 0 ≤ i ∧ i < (n : Int) := ho _ (by simp)
              obtain ⟨A, cap, rfl, _, _, hf, hc⟩ := hx.rs_inv
              obtain ⟨ad, rfl, hg, hcc⟩ := hc (by omega)
              refine ⟨.pointer (some (ad.add (i.toNat * te.size))), ?_, R.rptr_mk (by rw [block_add]; exact hg) (hcc _ (by omega))⟩
              simp [Instr.indexAt, asIntOf_int, run_underlying hkd, h0, h1, hso]
          · rename_i k s
            split at hl
            · rename_i e' sz s' n f hob
              cases hb : Nat.beq s s' && Nat.beq sz te.size with
              | false => simp [hb] at hl
              | true =>
                simp only [hb, cond_true, Option.some.injEq, Prod.mk.injEq] at hl
                obtain ⟨rfl, rfl⟩ := hl
                simp only [Bool.and_eq_true] at hb
                have hs := Nat.eq_of_beq_eq_true hb.1
                have hsz := Nat.eq_of_beq_eq_true hb.2
                subst hs hsz
                obtain ⟨h0, h1⟩ : 0 ≤ i ∧ i < (n : Int) := ho _ (by simp)
                obtain ⟨_, _, _, _, xs, ho', hk', hown, _⟩ := h.live_vec (by simp [live, hob]) hx
                rw [hob] at ho'
                injection ho' with ho'
                injection ho' with h2 h3 _ h4 h5
                subst h2 h3 h4 h5
                rcases hown.2 with ⟨rfl, hn⟩ | ⟨g, cap, cur, rfl, _⟩
                · omega
                · refine ⟨.pointer (some ⟨g, i.toNat * te.size, none⟩), ?_, .vptr hk' (by omega)⟩
                  simp [Instr.indexAt, asIntOf_int, run_underlying hkd, h0, h1, hso, Addr.add_lit]
            · cases hl
          · cases hl
        · cases hl
      · rename_i m e hk
        rw [hk] at hkd
        simp only [KindOk] at hkd
        split at hl
        · rename_i te hte
          have hso := (hT e te hte).run_sizeOf w
          split at hl
          · rename_i k s sz j off
            split at hl
            · rename_i e' sz' s' n f hob
              cases hb : Nat.beq s s' && Nat.beq sz te.size && Nat.beq sz sz' && Nat.beq off 0 && Nat.beq m n && Nat.beq j 0 with
              | true =>
                simp only [hb, cond_true, Option.some.injEq, Prod.mk.injEq] at hl
                obtain ⟨rfl, rfl⟩ := hl
                simp only [Bool.and_eq_true] at hb
                obtain ⟨⟨⟨⟨⟨b1, b2⟩, b3⟩, b5⟩, b6⟩, b4⟩ := hb
                have e1 := Nat.eq_of_beq_eq_true b1
                have e3 := Nat.eq_of_beq_eq_true b3
                subst e1 e3
                obtain ⟨_, _, _, _, g, cap, cur, ho', hk', rfl, _⟩ := h.live_vptr (by simp [live, hob]) hx
                rw [hob] at ho'
                injection ho' with ho'
                injection ho' with h2 h3 _ h4 h5
                subst h2 h3 h4 h5
                have e2 := Nat.eq_of_beq_eq_true b2
                have e4 := Nat.eq_of_beq_eq_true b4
                have e5 := Nat.eq_of_beq_eq_true b5
                have e6 := Nat.eq_of_beq_eq_true b6
                obtain ⟨h0, h1⟩ : 0 ≤ i ∧ i < (n : Int) := ho _ (by simp)
                subst e4 e5 e6
                refine ⟨.pointer (some ⟨g, i.toNat * sz, none⟩), ?_, .vptr hk' (by omega)⟩
                simp [Instr.indexAt, asIntOf_int, run_underlying hkd, h0, h1, hso, Addr.add_lit, Instr.sureAddr, e2]
              | false =>
                rw [hb] at hl
                simp only [cond_false] at hl
                clear hb
                cases hb : Nat.beq s s' && Nat.beq sz te.size && Nat.beq sz sz' && Nat.beq off 0 with
                | true =>
                  simp only [hb, cond_true, Option.some.injEq, Prod.mk.injEq] at hl
                  obtain ⟨rfl, rfl⟩ := hl
                  simp only [Bool.and_eq_true] at hb
                  obtain ⟨⟨⟨b1, b2⟩, b3⟩, b5⟩ := hb
                  have e1 := Nat.eq_of_beq_eq_true b1
                  have e3 := Nat.eq_of_beq_eq_true b3
                  subst e1 e3
                  obtain ⟨_, _, _, _, g, cap, cur, ho', hk', rfl, _⟩ := h.live_vptr (by simp [live, hob]) hx
                  rw [hob] at ho'
                  injection ho' with ho'
                  injection ho' with h2 h3 _ h4 h5
                  subst h2 h3 h4 h5
                  have e2 := Nat.eq_of_beq_eq_true b2
                  have e5 := Nat.eq_of_beq_eq_true b5
                  obtain ⟨h0, h1, h6⟩ : 0 ≤ i ∧ i < (m : Int) ∧ (j : Int) + i < (n : Int) := ho _ (by simp)
                  subst e5
                  refine ⟨.pointer (some ⟨g, (j + i.toNat) * sz, none⟩), ?_, .vptr hk' (by omega)⟩
                  simp [Instr.indexAt, asIntOf_int, run_underlying hkd, h0, h1, hso, Addr.add_lit, Instr.sureAddr, e2, Nat.add_mul]
                | false =>
                  rw [hb] at hl
                  simp only [cond_false] at hl
                  clear hb
                  split at hl
                  · rename_i m2 e2 hk2
                    cases hb : Nat.beq s s' && Nat.beq (m2 * sz) te.size && Nat.beq sz sz' && Nat.beq off 0 with
                    | false => simp [hb] at hl
                    | true =>
                      simp only [hb, cond_true, Option.some.injEq, Prod.mk.injEq] at hl
                      obtain ⟨rfl, rfl⟩ := hl
                      simp only [Bool.and_eq_true] at hb
                      obtain ⟨⟨⟨b1, b2⟩, b3⟩, b5⟩ := hb
                      have e1 := Nat.eq_of_beq_eq_true b1
                      have e3 := Nat.eq_of_beq_eq_true b3
                      subst e1 e3
                      obtain ⟨_, _, _, _, g, cap, cur, ho', hk', rfl, _⟩ := h.live_vptr (by simp [live, hob]) hx
                      rw [hob] at ho'
                      injection ho' with ho'
                      injection ho' with h2 h3 _ h4 h5
                      subst h2 h3 h4 h5
                      have e2 := Nat.eq_of_beq_eq_true b2
                      have e5 := Nat.eq_of_beq_eq_true b5
                      obtain ⟨h0, h1, h6⟩ : 0 ≤ i ∧ i < (m : Int) ∧ (j : Int) + i * m2 < (n : Int) := ho _ (by simp)
                      subst e5
                      have hcast : ((i.toNat * m2 : Nat) : Int) = i * m2 := by rw [Int.natCast_mul, Int.toNat_of_nonneg h0]
                      refine ⟨.pointer (some ⟨g, (j + i.toNat * m2) * sz, none⟩), ?_, .vptr hk' (by omega)⟩
                      simp [Instr.indexAt, asIntOf_int, run_underlying hkd, h0, h1, hso, Addr.add_lit, Instr.sureAddr, ← e2, Nat.add_mul, Nat.mul_assoc]
                  · cases hl
            · cases hl
          · cases hl
        · cases hl
      · cases hl
    · cases hl
  · cases hl
def sliceF (T : TE) (t : TypeId) (lo hi : Option AV) : AV → Option (List Prop × AV)
  | .rs sz n f => match T.find t with
    | some ti => match ti.kind with
      | .slice e => match T.find e with
        | some te => bif Nat.beq sz te.size then
            (match lo, hi with
             | none, none => some ([], .rs sz n f)
             | some (.c (.int _ l)), none => some ([0 ≤ l ∧ l ≤ (n : Int)], .rs sz (n - l.toNat) (fun i => f (i + l.toNat)))
             | none, some (.c (.int _ h)) => some ([0 ≤ h ∧ h ≤ (n : Int)], .rs sz h.toNat f)
             | some (.c (.int _ l)), some (.c (.int _ h)) => some ([0 ≤ l ∧ l ≤ h, h ≤ (n : Int)], .rs sz (h.toNat - l.toNat) (fun i => f (i + l.toNat)))
             | _, _ => none) else none
        | none => none
      | _ => none
    | none => none
  | .c (.string s) => match T.find t with
    | some ti => match ti.kind with
      | .string => (match lo, hi with
         | none, none => some ([], .c (.string (s.extract 0 s.size)))
         | some (.c (.int _ l)), none => some ([0 ≤ l ∧ l ≤ (s.size : Int)], .c (.string (s.extract l.toNat s.size)))
         | none, some (.c (.int _ h)) => some ([0 ≤ h ∧ h ≤ (s.size : Int)], .c (.string (s.extract 0 h.toNat)))
         | some (.c (.int _ l)), some (.c (.int _ h)) => some ([0 ≤ l ∧ l ≤ h, h ≤ (s.size : Int)], .c (.string (s.extract l.toNat h.toNat)))
         | _, _ => none)
      | _ => none
    | none => none
  | .rptr l => match T.find t with
    | some ti => match ti.kind with
      | .array n e => match T.find e with
        | some te => bif Nat.beq l.length (n * te.size) && Nat.ble n 1000000 then
            (match lo, hi with
             | none, some (.c (.int _ h)) => some ([0 ≤ h ∧ h ≤ (n : Int)], .rs te.size h.toNat (fun i => (l.drop (i * te.size)).take te.size))
             | _, _ => none) else none
        | none => none
      | _ => none
    | none => none
  | _ => none
theorem R.rs_cut {G : Nat → Prop} {sz n cap : Nat} {f : Nat → List AV} {A : Option Addr} {l h : Nat} (hx : R w G ρ (.rs sz n f) (.slice A n cap)) (h1 : l ≤ h) (h2 : h ≤ n) :
    R w G ρ (.rs sz (h - l) (fun i => f (i + l))) (.slice (if cap = l then A else A.map (·.add (l * sz))) (h - l) (cap - l)) := by
  obtain ⟨A', cap', he, hn, hm, hf, hc⟩ := hx.rs_inv
  injection he with e1 _ e3
  subst e1 e3
  refine R.rs_mk (by omega) (by omega) (fun i hi => hf _ (by omega)) fun h0 => ?_
  obtain ⟨ad, rfl, hg, hcc⟩ := hc (by omega)
  rw [if_neg (by omega)]
  refine ⟨ad.add (l * sz), rfl, by rw [block_add]; exact hg, fun i hi => ?_⟩
  have := hcc (i + l) (by omega)
  rw [add_add]
  rwa [Nat.add_mul, Nat.add_comm (i * sz)] at this
theorem sliceF_ok (hT : TOk E.P T) (h : SatR E st a w ρ) {t : TypeId} {x r : AV} {lo hi : Option AV} {u : Value} {vlo vhi : Option Value} {obl : List Prop} (hl : sliceF T t lo hi x = some (obl, r)) (ho : ∀ p ∈ obl, p)
    (hx : R w (E.good w ρ) ρ x u) (hlo : ∀ y, lo = some y → ∃ v, vlo = some v ∧ R w (E.good w ρ) ρ y v) (hlon : lo = none → vlo = none)
    (hhi : ∀ y, hi = some y → ∃ v, vhi = some v ∧ R w (E.good w ρ) ρ y v) (hhin : hi = none → vhi = none) :
    ∃ z, (Instr.sliceAt t u vlo vhi none).run E.P w = .ok z w ∧ R w (E.good w ρ) ρ r z := by
  have _ := h
  have hlo' : ∀ k l, lo = some (.c (.int k l)) → vlo = some (.int k l) := fun k l e => by obtain ⟨v, h1, h2⟩ := hlo _ e; rw [h1, h2.c_inv]
  have hhi' : ∀ k l, hi = some (.c (.int k l)) → vhi = some (.int k l) := fun k l e => by obtain ⟨v, h1, h2⟩ := hhi _ e; rw [h1, h2.c_inv]
  have sb : ∀ {k : IntKind} {i : Int} {y : Nat} {code : BoundsCode}, 0 ≤ i → i ≤ (y : Int) → (Instr.sliceBound (.int k i) y code).run E.P w = .ok i.toNat w := by
    intro k i y code h0 h1
    simp [Instr.sliceBound, asIntOf_int, h0, h1]
  unfold sliceF at hl
  split at hl
  · rename_i sz n f
    split at hl
    · rename_i ti ht
      have hkd := (hT t ti ht).kind
      split at hl
      · rename_i e hk
        rw [hk] at hkd
        simp only [KindOk] at hkd
        split at hl
        · rename_i te hte
          have hso := (hT e te hte).run_sizeOf w
          cases hb : Nat.beq sz te.size with
          | false => simp [hb] at hl
          | true =>
            have hsz := Nat.eq_of_beq_eq_true hb
            subst hsz
            simp only [hb, cond_true] at hl
            obtain ⟨A, cap, rfl, hn, hm, hf, hc⟩ := hx.rs_inv
            split at hl
            · simp only [Option.some.injEq, Prod.mk.injEq] at hl
              obtain ⟨rfl, rfl⟩ := hl
              rw [hlon rfl, hhin rfl]
              refine ⟨_, ?_, by simpa using R.rs_cut hx (Nat.zero_le n) (Nat.le_refl n)⟩
              simp [Instr.sliceAt, Instr.slice, Instr.sliceBounds, run_underlying hkd, hso]
            · rename_i k l
              simp only [Option.some.injEq, Prod.mk.injEq] at hl
              obtain ⟨rfl, rfl⟩ := hl
              obtain ⟨h0, h1⟩ : 0 ≤ l ∧ l ≤ (n : Int) := ho _ (by simp)
              rw [hlo' _ _ rfl, hhin rfl]
              refine ⟨_, ?_, R.rs_cut hx (l := l.toNat) (h := n) (by omega) (Nat.le_refl n)⟩
              simp [Instr.sliceAt, Instr.slice, Instr.sliceBounds, run_underlying hkd, hso, sb h0 h1]
            · rename_i k hh
              simp only [Option.some.injEq, Prod.mk.injEq] at hl
              obtain ⟨rfl, rfl⟩ := hl
              obtain ⟨h0, h1⟩ : 0 ≤ hh ∧ hh ≤ (n : Int) := ho _ (by simp)
              rw [hlon rfl, hhi' _ _ rfl]
              have h1' : hh ≤ (cap : Int) := by omega
              refine ⟨_, ?_, by simpa using R.rs_cut hx (l := 0) (h := hh.toNat) (by omega) (by omega)⟩
              simp [Instr.sliceAt, Instr.slice, Instr.sliceBounds, run_underlying hkd, hso, sb h0 h1']
            · rename_i k l k' hh
              simp only [Option.some.injEq, Prod.mk.injEq] at hl
              obtain ⟨rfl, rfl⟩ := hl
              obtain ⟨h0, h1⟩ : 0 ≤ l ∧ l ≤ hh := ho _ (by simp)
              have h2 : hh ≤ (n : Int) := ho _ (by simp)
              rw [hlo' _ _ rfl, hhi' _ _ rfl]
              have h1' : hh ≤ (cap : Int) := by omega
              have h1'' : l ≤ (hh.toNat : Int) := by omega
              refine ⟨_, ?_, R.rs_cut hx (l := l.toNat) (h := hh.toNat) (by omega) (by omega)⟩
              simp [Instr.sliceAt, Instr.slice, Instr.sliceBounds, run_underlying hkd, hso, sb (show 0 ≤ hh by omega) h1', sb h0 h1'']
            · cases hl
        · cases hl
      · cases hl
    · cases hl
  · rename_i s
    rw [hx.c_inv]
    split at hl
    · rename_i ti ht
      have hkd := (hT t ti ht).kind
      split at hl
      · rename_i hk
        rw [hk] at hkd
        simp only [KindOk] at hkd
        split at hl
        · simp only [Option.some.injEq, Prod.mk.injEq] at hl
          obtain ⟨rfl, rfl⟩ := hl
          rw [hlon rfl, hhin rfl]
          exact ⟨_, by simp [Instr.sliceAt, Instr.slice, Instr.sliceBounds, run_underlying hkd], .c⟩
        · rename_i k l
          simp only [Option.some.injEq, Prod.mk.injEq] at hl
          obtain ⟨rfl, rfl⟩ := hl
          obtain ⟨h0, h1⟩ : 0 ≤ l ∧ l ≤ (s.size : Int) := ho _ (by simp)
          rw [hlo' _ _ rfl, hhin rfl]
          exact ⟨_, by simp [Instr.sliceAt, Instr.slice, Instr.sliceBounds, run_underlying hkd, sb h0 h1], .c⟩
        · rename_i k hh
          simp only [Option.some.injEq, Prod.mk.injEq] at hl
          obtain ⟨rfl, rfl⟩ := hl
          obtain ⟨h0, h1⟩ : 0 ≤ hh ∧ hh ≤ (s.size : Int) := ho _ (by simp)
          rw [hlon rfl, hhi' _ _ rfl]
          exact ⟨_, by simp [Instr.sliceAt, Instr.slice, Instr.sliceBounds, run_underlying hkd, sb h0 h1], .c⟩
        · rename_i k l k' hh
          simp only [Option.some.injEq, Prod.mk.injEq] at hl
          obtain ⟨rfl, rfl⟩ := hl
          obtain ⟨h0, h1⟩ : 0 ≤ l ∧ l ≤ hh := ho _ (by simp)
          have h2 : hh ≤ (s.size : Int) := ho _ (by simp)
          rw [hlo' _ _ rfl, hhi' _ _ rfl]
          have h1'' : l ≤ (hh.toNat : Int) := by omega
          exact ⟨_, by simp [Instr.sliceAt, Instr.slice, Instr.sliceBounds, run_underlying hkd, sb (show 0 ≤ hh by omega) h2, sb h0 h1''], .c⟩
        · cases hl
      · cases hl
    · cases hl
  · rename_i l
    split at hl
    · rename_i ti ht
      have hkd := (hT t ti ht).kind
      split at hl
      · rename_i n e hk
        rw [hk] at hkd
        simp only [KindOk] at hkd
        split at hl
        · rename_i te hte
          have hso := (hT e te hte).run_sizeOf w
          cases hb : Nat.beq l.length (n * te.size) && Nat.ble n 1000000 with
          | false => simp [hb] at hl
          | true =>
            simp only [hb, cond_true] at hl
            simp only [Bool.and_eq_true] at hb
            have e1 := Nat.eq_of_beq_eq_true hb.1
            have e2 := Nat.le_of_ble_eq_true hb.2
            split at hl
            · rename_i k hh
              simp only [Option.some.injEq, Prod.mk.injEq] at hl
              obtain ⟨rfl, rfl⟩ := hl
              obtain ⟨h0, h1⟩ : 0 ≤ hh ∧ hh ≤ (n : Int) := ho _ (by simp)
              obtain ⟨a, rfl, hg, hc⟩ := hx.rptr_inv
              rw [hlon rfl, hhi' _ _ rfl]
              have hrow : ∀ i, i < n → i * te.size + te.size ≤ n * te.size := fun i hi => by
                have : (i + 1) * te.size ≤ n * te.size := Nat.mul_le_mul_right te.size hi
                rw [Nat.add_mul] at this; omega
              refine ⟨.slice (some a) hh.toNat n, ?_, R.rs_mk (by omega) (by unfold maxLen; omega) (fun i hi => ?_) (fun _ => ⟨a, rfl, hg, fun i hi j x hxj => ?_⟩)⟩
              · have ha0 : a.add 0 = a := by unfold Addr.add; simp
                simp [Instr.sliceAt, Instr.sureAddr, Instr.sliceBounds, run_underlying hkd, hso, sb h0 h1, ha0]
              · have := hrow i (by omega)
                simp only [List.length_take, List.length_drop]
                omega
              · rw [add_add]
                refine hc _ x ?_
                simp only [List.getElem?_take, List.getElem?_drop] at hxj
                split at hxj
                · exact hxj
                · cases hxj
            · cases hl
        · cases hl
      · cases hl
    · cases hl
  · cases hl
end
end Go.Eng
end
