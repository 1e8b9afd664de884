/- The engine, part L: code; calls; contracts. -/
import Derived.Test.YtoeghbhlklnajaaEngK
import Derived.LoopN
namespace Go.Eng

def Post (E : Env) (Q : Exit → ST → Prop) : Exit → Act → World → Prop := fun e a w => ∃ st, Sat E st a w ∧ Q e st
def XC (E : Env) (c : Code) (Q : Exit → ST → Prop) (st : ST) : Prop := ∀ a w, Sat E st a w → c.wp E.P (Post E Q) a w

/-- What is still to be walked. -/
inductive It where
  | code (c : Code)
  | blk (id : Nat)
  | inv (J : ST → Prop)

def XQ (E : Env) : List It → (Exit → ST → Prop) → Exit → ST → Prop
  | [], Q, e, st => Q e st
  | .code c :: k, Q, e, st => match e with
    | .normal => XC E c (XQ E k Q) st
    | e => XQ E k Q e st
  | .blk id :: k, Q, e, st => match e with
    | .exit id' => if id' = id then XQ E k Q .normal st else XQ E k Q (.exit id') st
    | e => XQ E k Q e st
  | .inv J :: k, Q, e, st => match e with
    | .normal => J st
    | e => XQ E k Q e st

def XK (E : Env) (k : List It) (Q : Exit → ST → Prop) (st : ST) : Prop := XQ E k Q .normal st

section
variable {E : Env} {Q : Exit → ST → Prop} {st : ST} {k : List It} {T : TE}

theorem XC.mono {c : Code} {Q' : Exit → ST → Prop} (h : XC E c Q st) (hq : ∀ e st, Q e st → Q' e st) : XC E c Q' st :=
  fun a w hs => wp_mono (h a w hs) fun _ _ _ ⟨st, h1, h2⟩ => ⟨st, h1, hq _ _ h2⟩

theorem XK.seq {a b : Code} (h : XK E (.code a :: .code b :: k) Q st) : XK E (.code (.seq a b) :: k) Q st := by
  intro ac w hs
  refine wp_seq (wp_mono (h ac w hs) ?_)
  rintro e a' w' ⟨st', h1, h2⟩
  cases e with
  | normal => exact h2 a' w' h1
  | _ => exact ⟨st', h1, h2⟩
theorem XK.skip (h : XK E k Q st) : XK E (.code .skip :: k) Q st := fun _ _ hs => wp_skip ⟨st, hs, h⟩
theorem XK.block {id : Nat} {c : Code} (h : XK E (.code c :: .blk id :: k) Q st) : XK E (.code (.block id c) :: k) Q st := by
  intro ac w hs
  refine wp_block (wp_mono (h ac w hs) ?_)
  rintro e a' w' ⟨st', h1, h2⟩
  cases e with
  | exit id' =>
    simp only [Exit.inBlock]
    simp only [XQ] at h2
    split
    · rename_i hid
      rw [if_pos hid] at h2
      exact ⟨st', h1, h2⟩
    · rename_i hid
      rw [if_neg hid] at h2
      exact ⟨st', h1, h2⟩
  | _ => exact ⟨st', h1, h2⟩
theorem XK.pop {id : Nat} (h : XK E k Q st) : XK E (.blk id :: k) Q st := h
theorem XK.inv {J : ST → Prop} (h : J st) : XK E (.inv J :: k) Q st := h

def unw (id : Nat) : List It → Option (List It)
  | [] => none
  | .code _ :: k => unw id k
  | .inv _ :: k => unw id k
  | .blk id' :: k => bif Nat.beq id' id then some k else unw id k
theorem unw_ok {id : Nat} : ∀ {k k' : List It}, unw id k = some k' → XK E k' Q st → XQ E k Q (.exit id) st
  | [], k', h, _ => by cases h
  | .code _ :: k, k', h, hk => unw_ok (k := k) h hk
  | .inv _ :: k, k', h, hk => unw_ok (k := k) h hk
  | .blk id' :: k, k', h, hk => by
    simp only [unw] at h
    cases hb : Nat.beq id' id with
    | true =>
      have := Nat.eq_of_beq_eq_true hb
      subst this
      rw [hb, cond_true] at h
      injection h with h
      subst h
      simp only [XQ, if_true]
      exact hk
    | false =>
      rw [hb, cond_false] at h
      have hne : ¬ id = id' := fun e => by subst e; simp at hb
      simpa [XQ, hne] using unw_ok (k := k) h hk
theorem XK.exit {id : Nat} {k' : List It} (hu : unw id k = some k') (h : XK E k' Q st) : XK E (.code (.exit id) :: k) Q st :=
  fun _ _ hs => wp_exit ⟨st, hs, unw_ok hu h⟩
theorem XQ.ret : ∀ {k : List It}, Q .ret st → XQ E k Q .ret st
  | [], h => h
  | .code _ :: k, h => XQ.ret (k := k) h
  | .inv _ :: k, h => XQ.ret (k := k) h
  | .blk _ :: k, h => XQ.ret (k := k) h
theorem XK.ret (h : Q .ret st) : XK E (.code .ret :: k) Q st := fun _ _ hs => wp_ret ⟨st, hs, XQ.ret h⟩
theorem XK.nil (h : Q .normal st) : XK E [] Q st := h

theorem XK.cond {c : Operand} {x y : Code} {b : Bool} (hc : st.ev c = .c (.bool b)) (ht : b = true → XK E (.code x :: k) Q st) (hf : b = false → XK E (.code y :: k) Q st) : XK E (.code (.cond c x y) :: k) Q st := by
  intro a w hs
  obtain ⟨ρ, h⟩ := hs
  have hv := h.ev c
  rw [hc] at hv
  exact wp_cond_split hv.c_inv (fun hb => ht hb a w ⟨ρ, h⟩) (fun hb => hf hb a w ⟨ρ, h⟩)
theorem XK.cond_t {c : Operand} {x y : Code} (hc : st.ev c = .c (.bool true)) (h : XK E (.code x :: k) Q st) : XK E (.code (.cond c x y) :: k) Q st := XK.cond hc (fun _ => h) (fun e => by cases e)
theorem XK.cond_f {c : Operand} {x y : Code} (hc : st.ev c = .c (.bool false)) (h : XK E (.code y :: k) Q st) : XK E (.code (.cond c x y) :: k) Q st := XK.cond hc (fun e => by cases e) (fun _ => h)

/-- What follows from a state. -/
def Weak (E : Env) (st st' : ST) : Prop := ∀ a w, Sat E st a w → Sat E st' a w
theorem Weak.refl (E : Env) (st : ST) : Weak E st st := fun _ _ h => h
theorem Weak.trans {a b c : ST} (h : Weak E a b) (h' : Weak E b c) : Weak E a c := fun _ _ hs => h' _ _ (h _ _ hs)

theorem XQ.weak {st' : ST} (hw : Weak E st st') : ∀ {c : Code}, XK E (.code c :: k) Q st' → XK E (.code c :: k) Q st := fun h a w hs => h a w (hw a w hs)

theorem XK.loop {ι : Type} (I : ι → ST) (Inv : ι → Prop) (μ : ι → Nat) {body : Code} (i0 : ι) (hi : Inv i0) (h0 : Weak E st (I i0))
    (round : ∀ i, Inv i → XK E (.code body :: .inv (fun st' => ∃ j, Inv j ∧ Weak E st' (I j) ∧ μ j < μ i) :: k) Q (I i)) : XK E (.code (.loop body) :: k) Q st := by
  intro a w hs b kk cs
  have key : ∀ n i a w, μ i = n → Inv i → Sat E (I i) a w →
      ∃ e a' w', Post E (XQ E k Q) e a' w' ∧ Arrives E.P (lone (b.at a (.code body :: .inLoop body :: kk)) cs w) b kk cs e a' w' := by
    intro n
    induction n using Nat.strongRecOn with
    | _ n ih =>
      intro i a w hn hI hsat
      obtain ⟨e, a₁, w₁, ⟨st', hs', hq⟩, harr⟩ := round i hI a w hsat b (.inLoop body :: kk) cs
      cases e with
      | normal =>
        obtain ⟨j, hj, hwk, hlt⟩ := hq
        obtain ⟨e₂, a₂, w₂, hq₂, harr₂⟩ := ih (μ j) (hn ▸ hlt) j a₁ w₁ rfl hj (hwk _ _ hs')
        exact ⟨e₂, a₂, w₂, hq₂, .of_steps (Steps.trans harr (.one step_inLoop)) harr₂⟩
      | exit id => exact ⟨_, a₁, w₁, ⟨st', hs', hq⟩, .pass (x := .inLoop body) rfl (fun _ _ => .inl (by simp)) harr⟩
      | goto l => exact ⟨_, a₁, w₁, ⟨st', hs', hq⟩, .pass (x := .inLoop body) rfl (fun _ _ => .inl (by simp)) harr⟩
      | ret => exact ⟨_, a₁, w₁, ⟨st', hs', hq⟩, .pass (x := .inLoop body) rfl (fun _ _ => .inl (by simp)) harr⟩
      | panic ch => exact ⟨_, a₁, w₁, ⟨st', hs', hq⟩, .pass (x := .inLoop body) rfl (fun _ _ => .inl (by simp)) harr⟩
      | outgrown => exact ⟨_, a₁, w₁, ⟨st', hs', hq⟩, .pass (x := .inLoop body) rfl (fun _ _ => .inl (by simp)) harr⟩
  obtain ⟨e, a', w', hq, harr⟩ := key _ i0 a w rfl hi (h0 _ _ hs)
  exact ⟨e, a', w', hq, .of_steps (.one step_loop) harr⟩

/-- A loop walked round by round, n rounds at most. -/
def XR (E : Env) (body : Code) (k : List It) (Q : Exit → ST → Prop) : Nat → ST → Prop
  | 0, _ => False
  | n + 1, st => XK E (.code body :: .inv (XR E body k Q n) :: k) Q st
theorem XK.rounds (n : Nat) {body : Code} (h : XR E body k Q n st) : XK E (.code (.loop body) :: k) Q st := by
  intro a w hs
  refine wp_loop_rounds n ?_
  induction n generalizing st a w with
  | zero => exact h.elim
  | succ n ih =>
    refine wp_mono (h a w hs) ?_
    rintro e a' w' ⟨st', h1, h2⟩
    cases e with
    | normal => exact ih h2 a' w' h1
    | _ => exact ⟨st', h1, h2⟩
theorem XR.step {n : Nat} {body : Code} (h : XK E (.code body :: .inv (XR E body k Q n) :: k) Q st) : XR E body k Q (n + 1) st := h

/- Regions. -/
def ST.bump (st : ST) : ST := { st with nx := st.nx + st.nt }
theorem Sat.bump {a : Act} {w : World} (h : Sat E st a w) : Sat E st.bump a w := by
  obtain ⟨ρ, h⟩ := h
  exact ⟨ρ, h.keep, h.tsz, h.dfr, h.fr, h.ob, h.no, h.dis, h.own, h.le⟩

def XL (E : Env) (ops : Array Oper) (Q : Exit → ST → Prop) (l : List Oper) (st : ST) : Prop := ∀ a w, Sat E st a w → wpList E.P ops (Post E Q) l a w

theorem XL.nil {ops : Array Oper} (h : Q .normal st.bump) : XL E ops Q [] st := fun _ _ hs => wpList_nil ⟨_, hs.bump, h⟩
theorem XK.region {id : Nat} {ops : Array Oper} (h : XL E ops (XQ E k Q) ops.toList st) : XK E (.code (.region id ops false) :: k) Q st := fun a w hs => wp_region_list (h a w hs)

theorem XL.step {ops : Array Oper} {o : Oper} {rest : List Oper} {st' : ST} (hs : StepTo E ops o st st') (h : XL E ops Q rest st') : XL E ops Q (o :: rest) st := by
  intro a w hsat
  have h1 := hs a w hsat (Post E Q)
  refine wpList_step fun K hK => ?_
  split
  · rename_i hw
    rw [if_pos hw] at h1
    exact Oper.wp_mono (fun a' w' hs' => hK _ _ (h a' w' hs')) h1
  · rename_i hw
    rw [if_neg hw] at h1
    exact hK _ _ (h _ _ h1)

def frcO : Ob → Option Ob
  | .cells t cs => match frcL cs with
    | some cs' => some (.cells t cs')
    | none => none
  | .vec e sz s n f => some (.vec e sz s n f)
theorem frcO_eq {a b : Ob} (h : frcO a = some b) : b = a := by
  cases a with
  | cells t cs =>
    simp only [frcO] at h
    cases hl : frcL cs with
    | none => simp [hl] at h
    | some l' => simp [hl] at h; rw [← h, frcL_eq hl]
  | vec => simp [frcO] at h; exact h.symm

/-- The same, with the object's name. -/
def frcKO (k : Nat) (o : Ob) : Option (Nat × Ob) := match frcO o with
  | some o' => (match k with
    | 0 => some (0, o')
    | k' + 1 => some (k' + 1, o'))
  | none => none
theorem frcKO_eq {k k' : Nat} {o o' : Ob} (h : frcKO k o = some (k', o')) : k' = k ∧ o' = o := by
  unfold frcKO at h
  split at h
  · rename_i o2 ho
    cases k <;> simp only [Option.some.injEq, Prod.mk.injEq] at h <;> exact ⟨h.1.symm, h.2 ▸ frcO_eq ho⟩
  · cases h

structure RunR where
  obl : List Prop
  fr : Nat → AV
  ob : Nat → Option Ob
  rest : List Oper

/-- As many operations as go by themselves: what they ask, the state behind them, what is left. -/
def runF (T : TE) (l : List Oper) (nx nt : Nat) (md : Nat → Bool) : List Prop → (Nat → AV) → (Nat → Option Ob) → List Oper → RunR
  | acc, fr, ob, [] => ⟨acc, fr, ob, []⟩
  | acc, fr, ob, o :: rest => match stepN T l fr ob nx nt md o with
    | some (obl, ⟨av, eo⟩) => match frc av, eo, o.dst with
      | some x, none, some d => (match obl with
        | [] => runF T l nx nt md acc (upd fr d x) ob rest
        | p :: ps => runF T l nx nt md (pushR (p :: ps) acc) (upd fr d x) ob rest)
      | some x, some (k, o'), some d => (match frcKO k o' with
        | some (k, o2) => (match obl with
          | [] => runF T l nx nt md acc (upd fr d x) (upd ob k (some o2)) rest
          | p :: ps => runF T l nx nt md (pushR (p :: ps) acc) (upd fr d x) (upd ob k (some o2)) rest)
        | none => ⟨acc, fr, ob, o :: rest⟩)
      | some _, some (k, o'), none => (match frcKO k o' with
        | some (k, o2) => (match obl with
          | [] => runF T l nx nt md acc fr (upd ob k (some o2)) rest
          | p :: ps => runF T l nx nt md (pushR (p :: ps) acc) fr (upd ob k (some o2)) rest)
        | none => ⟨acc, fr, ob, o :: rest⟩)
      | _, _, _ => ⟨acc, fr, ob, o :: rest⟩
    | none => ⟨acc, fr, ob, o :: rest⟩

theorem XL.run (hT : TOk E.P T) {ops : Array Oper} {nx nt : Nat} {md : Nat → Bool} (hd : ops.toList.all (dstOk ⟨st.fr, st.ob, nx, nt, md⟩) = true) : ∀ {l : List Oper} {acc : List Prop} {fr fr' : Nat → AV} {ob ob' : Nat → Option Ob} {obl : List Prop} {rest : List Oper}, (∀ o ∈ l, o ∈ ops.toList) → runF T ops.toList nx nt md acc fr ob l = ⟨obl, fr', ob', rest⟩ → (∀ p ∈ obl, p) →
    XL E ops Q rest ⟨fr', ob', nx, nt, md⟩ → XL E ops Q l ⟨fr, ob, nx, nt, md⟩ ∧ ∀ p ∈ acc, p
  | [], acc, fr, fr', ob, ob', obl, rest, _, hr, ho, h => by
    simp only [runF, RunR.mk.injEq] at hr
    obtain ⟨rfl, rfl, rfl, rfl⟩ := hr
    exact ⟨h, ho⟩
  | o :: l, acc, fr, fr', ob, ob', obl, rest, hmem, hr, ho, h => by
    have dk : ∀ o' ∈ ops.toList, dstOk ⟨fr, ob, nx, nt, md⟩ o' = true := fun o' ho' => List.all_eq_true.1 hd o' ho'
    have stop : (⟨acc, fr, ob, o :: l⟩ : RunR) = ⟨obl, fr', ob', rest⟩ → XL E ops Q (o :: l) ⟨fr, ob, nx, nt, md⟩ ∧ ∀ p ∈ acc, p := by
      intro hr
      simp only [RunR.mk.injEq] at hr
      obtain ⟨rfl, rfl, rfl, rfl⟩ := hr
      exact ⟨h, ho⟩
    have go : ∀ {ob1 : List Prop} {eff : Eff} {fr1 : Nat → AV} {obj1 : Nat → Option Ob}, stepF T ops.toList ⟨fr, ob, nx, nt, md⟩ o = some (ob1, eff) → (ST.app ⟨fr, ob, nx, nt, md⟩ o.dst eff) = ⟨fr1, obj1, nx, nt, md⟩ →
        (match ob1 with
          | [] => runF T ops.toList nx nt md acc fr1 obj1 l
          | p :: ps => runF T ops.toList nx nt md (pushR (p :: ps) acc) fr1 obj1 l) = ⟨obl, fr', ob', rest⟩ → XL E ops Q (o :: l) ⟨fr, ob, nx, nt, md⟩ ∧ ∀ p ∈ acc, p := by
      intro ob1 eff fr1 obj1 hs he hr
      have fin : XL E ops Q l ⟨fr1, obj1, nx, nt, md⟩ → (∀ p ∈ ob1, p) → XL E ops Q (o :: l) ⟨fr, ob, nx, nt, md⟩ := fun hx hp =>
        XL.step (stepF_ok hT hs hp (dk o (hmem o (by simp))) (fun j pol o' d _ hj hdst => dstOk_lt (dk o' (Array.mem_toList_iff.2 (Array.mem_of_getElem? hj))) d hdst)) (he ▸ hx)
      cases ob1 with
      | nil =>
        obtain ⟨h1, h2⟩ := XL.run hT hd (fun o' ho' => hmem o' (by simp [ho'])) hr ho h
        exact ⟨fin h1 (fun p hp => by cases hp), h2⟩
      | cons q qs =>
        obtain ⟨h1, h2⟩ := XL.run hT hd (fun o' ho' => hmem o' (by simp [ho'])) hr ho h
        exact ⟨fin h1 (fun p hp => h2 p (mem_pushR.2 (.inl hp))), fun p hp => h2 p (mem_pushR.2 (.inr hp))⟩
    simp only [runF, stepN_eq] at hr
    split at hr
    · rename_i ob1 av eo hs
      split at hr
      · rename_i x d hx hd1
        have := frc_eq hx
        subst this
        exact go hs (by rw [hd1]; rfl) hr
      · rename_i x k o' d hx hd1
        have := frc_eq hx
        subst this
        split at hr
        · rename_i k2 o2 ho2
          obtain ⟨h1, h2⟩ := frcKO_eq ho2
          subst h1 h2
          exact go hs (by rw [hd1]; rfl) hr
        · exact stop hr
      · rename_i x k o' hx hd1
        split at hr
        · rename_i k2 o2 ho2
          obtain ⟨h1, h2⟩ := frcKO_eq ho2
          subst h1 h2
          exact go hs (by rw [hd1]; rfl) hr
        · exact stop hr
      · exact stop hr
    · exact stop hr

/-- A region that draws no order, without calls. -/
theorem XK.rgn (hT : TOk E.P T) {id : Nat} {ops : Array Oper} {fr fr' : Nat → AV} {ob ob' : Nat → Option Ob} {nx nt : Nat} {md : Nat → Bool} {obl obl' : List Prop} (hd : ops.toList.all (dstOk ⟨fun _ => .junk, fun _ => none, nx, nt, md⟩) = true)
    (hr : runF T ops.toList nx nt md [] fr ob ops.toList = ⟨obl, fr', ob', []⟩) (hf : frcR obl [] = some obl') (ho : AllP obl') (h : XK E k Q ⟨fr', ob', nx + nt, nt, md⟩) :
    XK E (.code (.region id ops false) :: k) Q ⟨fr, ob, nx, nt, md⟩ :=
  XK.region (XL.run (st := ⟨fun _ => .junk, fun _ => none, nx, nt, md⟩) hT hd (fun _ h => h) hr (AllP.memR hf ho) (XL.nil h)).1
/-- The same, up to an operation that does not go by itself (a call). -/
theorem XL.go (hT : TOk E.P T) {ops : Array Oper} {l rest : List Oper} {fr fr' : Nat → AV} {ob ob' : Nat → Option Ob} {nx nt : Nat} {md : Nat → Bool} {obl obl' : List Prop} (hd : ops.toList.all (dstOk ⟨fun _ => .junk, fun _ => none, nx, nt, md⟩) = true)
    (hm : ops.toList.drop (ops.toList.length - l.length) = l) (hr : runF T ops.toList nx nt md [] fr ob l = ⟨obl, fr', ob', rest⟩) (hf : frcR obl [] = some obl') (ho : AllP obl') (h : XL E ops Q rest ⟨fr', ob', nx, nt, md⟩) : XL E ops Q l ⟨fr, ob, nx, nt, md⟩ :=
  (XL.run (st := ⟨fun _ => .junk, fun _ => none, nx, nt, md⟩) hT hd (fun _ h => List.mem_of_mem_drop (hm ▸ h)) hr (AllP.memR hf ho) h).1

/- Contracts. -/
def FnOk (P : Program) (f : FuncId) : Prop := ∃ fn, P.funcs[f]? = some fn ∧ fn.body.isSome = true ∧ (fn.name == "runtime.NumGoroutine") = false

/-- Called with such arguments, the function hands back such a value, and what was there stays as it was. -/
def Does (P : Program) (f : FuncId) (args : List AV) (res : AV) : Prop :=
  FnOk P f ∧ ∀ (w : World) (G : Nat → Prop) (vs : Array Value), vs.size = args.length → (∀ b, G b → b < w.heap.size) → (∀ i x, args[i]? = some x → R w G Rho.none x (vs.getD i undef)) →
    Calls P f vs w fun e w' => ∃ v, e = .returned v ∧ Keep (fun _ => False) w w' ∧ R w' (fun b => G b ∨ (w.heap.size ≤ b ∧ b < w'.heap.size)) Rho.none res v

mutual
/-- What a name of the call's own object says to whoever only looks. -/
def AV.lend (ob : Nat → Option Ob) : AV → AV
  | .agg l => .agg (AV.lendL ob l)
  | .tup l => .tup (AV.lendL ob l)
  | .fn f l l' => .fn f (AV.lendL ob l) (AV.lendL ob l')
  | .vec k s => match ob k with
    | some (.vec _ sz s' n f) => bif Nat.beq s s' then .rs sz n f else .junk
    | _ => .junk
  | .ptr k off => match ob k with
    | some (.cells _ cs) => bif AV.ksL (fun _ => false) cs then .rptr (cs.drop off) else .junk
    | _ => .junk
  | .vptr _ _ _ _ _ => .junk
  | .gd _ _ => .junk
  | .junk => .junk
  | .c v => .c v
  | .rptr l => .rptr l
  | .rs sz n f => .rs sz n f
def AV.lendL (ob : Nat → Option Ob) : List AV → List AV
  | [] => []
  | a :: l => AV.lend ob a :: AV.lendL ob l
end
theorem AV.lendL_get {ob : Nat → Option Ob} : ∀ {l : List AV} {i : Nat} {x : AV}, (AV.lendL ob l)[i]? = some x → ∃ y, l[i]? = some y ∧ x = y.lend ob
  | [], i, x, h => by simp [AV.lendL] at h
  | a :: l, 0, x, h => by simp [AV.lendL] at h; exact ⟨a, rfl, h.symm⟩
  | a :: l, i + 1, x, h => by simp [AV.lendL] at h; simpa using AV.lendL_get h
theorem AV.lendL_length {ob : Nat → Option Ob} : ∀ {l : List AV}, (AV.lendL ob l).length = l.length
  | [] => rfl
  | a :: l => by simp [AV.lendL, AV.lendL_length (l := l)]

theorem SatR.lend {a : Act} {w : World} {ρ : Rho} (h : SatR E st a w ρ) {x : AV} {v : Value} (hx : R w (E.good w ρ) ρ x v) : R w (fun b => b < w.heap.size) Rho.none (x.lend st.ob) v := by
  have hG : ∀ b, E.good w ρ b → b < w.heap.size ∧ w.heap[b]? = w.heap[b]? := fun b hb => ⟨hb.2.1, rfl⟩
  have key : ∀ {ρ' : Rho} {x : AV} {v : Value}, R w (E.good w ρ) ρ' x v → ρ' = ρ → R w (fun b => b < w.heap.size) Rho.none (x.lend st.ob) v := by
    intro ρ' x v hx
    induction hx with
    | junk => exact fun _ => .junk
    | c => exact fun _ => .c
    | agg hs _ ih =>
      intro e
      refine .agg (by rw [AV.lendL_length]; exact hs) fun i x hi => ?_
      obtain ⟨y, hy, rfl⟩ := AV.lendL_get hi
      exact ih i y hy e
    | tup hs _ ih =>
      intro e
      refine .tup (by rw [AV.lendL_length]; exact hs) fun i x hi => ?_
      obtain ⟨y, hy, rfl⟩ := AV.lendL_get hi
      exact ih i y hy e
    | @ptr ρ' k off g hk =>
      intro e
      subst e
      simp only [AV.lend]
      split
      · rename_i t cs ho
        cases hb : AV.ksL (fun _ => false) cs with
        | false => exact .junk
        | true =>
          rw [cond_true]
          have hc := (h.objCells ho hk).drop off
          rw [Addr.add_lit, Nat.zero_add] at hc
          refine R.rptr_mk ?_ fun i y hy => ?_
          · exact h.lt hk rfl
          · obtain ⟨u, hu, hr⟩ := hc i y hy
            have hks : y.ks (fun _ => false) = true := by
              rw [List.getElem?_drop] at hy
              exact AV.ksL_at hb hy
            exact ⟨u, hu, (hr.tr hG _ (Le.refl _)).free hks⟩
      · exact .junk
    | vptr => exact fun _ => .junk
    | vptrOld => exact fun _ => .junk
    | @vec ρ' k s hv hk =>
      intro e
      subst e
      simp only [AV.lend]
      split
      · rename_i e sz s' n f ho
        cases hb : Nat.beq s s' with
        | false => exact .junk
        | true =>
          rw [cond_true]
          obtain ⟨A, cap, rfl, hm, hf, hc⟩ := src_ok (sz := sz) (m := n) (f := f) h (x := .vec k s) (by simp [srcF, ho, hb]) (.vec hk)
          obtain ⟨_, _, _, _, xs, ho', hk', hown, _, _⟩ := h.live_vec (k := k) (s := s) (by simp [live, ho, hb]) (.vec hk)
          have hcap : n ≤ cap ∧ cap ≤ maxLen := by
            rw [ho] at ho'
            injection ho' with ho'
            injection ho' with _ _ _ q4 _
            subst q4
            rcases hown.2 with ⟨h1, h2⟩ | ⟨g, cap', cur, h1, _, _, h3, h4, _⟩
            · injection h1 with _ q q'
              subst q'
              exact ⟨by omega, Nat.zero_le _⟩
            · injection h1 with _ _ q'
              subst q'
              exact ⟨h3, h4⟩
          refine R.rs_mk hcap.1 hcap.2 hf fun h0 => ?_
          obtain ⟨ad, rfl, hcc⟩ := hc h0
          refine ⟨ad, rfl, ?_, fun i hi j y hy => ?_⟩
          · exact h.lt hk' rfl
          · obtain ⟨u, hu, hr⟩ := hcc i hi j y hy
            exact ⟨u, hu, hr.tr hG _ (Le.refl _)⟩
      · exact .junk
    | vecOld hk hs =>
      intro e
      subst e
      simp only [AV.lend]
      split
      · rename_i e sz s' n f ho
        cases hb : Nat.beq _ s' with
        | false => exact .junk
        | true =>
          have := Nat.eq_of_beq_eq_true hb
          subst this
          obtain ⟨hv, _, hk', _⟩ := h.ob _ _ ho
          rw [hk] at hk'
          injection hk' with hk'
          injection hk' with hk' _
          omega
      · exact .junk
    | rptr val hg hc hx _ => exact fun _ => (R.rptr val hg hc hx).tr hG _ (Le.none _)
    | rs val hn hm hc hl hx _ => exact fun _ => (R.rs val hn hm hc hl hx).tr hG _ (Le.none _)
    | fn hs _ hs' _ ih ih' =>
      intro e
      refine .fn (by rw [AV.lendL_length]; exact hs) (fun i x hi => ?_) (by rw [AV.lendL_length]; exact hs') (fun i x hi => ?_)
      · obtain ⟨y, hy, rfl⟩ := AV.lendL_get hi
        exact ih i y hy e
      · obtain ⟨y, hy, rfl⟩ := AV.lendL_get hi
        exact ih' i y hy e
    | gd => exact fun _ => .junk
  exact key hx rfl
end
end Go.Eng
