import Derived.Test.YtofdehlikigonaaGreatP4
import Derived.KernelRfl
import Derived.ProofKit
import Derived.OpenShut
import Derived.ChangeOld
import Derived.Below
section
/- The engine, part U: functions that write what they are lent: contracts, calls, returns. -/
namespace Go.Eng
set_option linter.unusedVariables false
/-- The place of a name in a list of names. -/
def posF : List Nat → Nat → Option Nat
  | [], _ => none
  | a :: l, k => bif Nat.beq a k then some 0 else match posF l k with
    | some i => some (i + 1)
    | none => none
def nodupB : List Nat → Bool
  | [] => true
  | a :: l => !l.any (fun b => Nat.beq b a) && nodupB l
theorem posF_some : ∀ {L : List Nat} {k i : Nat}, posF L k = some i → L[i]? = some k
  | [], k, i, h => by cases h
  | a :: l, k, i, h => by
    simp only [posF] at h
    cases hb : Nat.beq a k with
    | true =>
      rw [hb, cond_true] at h
      injection h with h
      subst h
      simp [Nat.eq_of_beq_eq_true hb]
    | false =>
      rw [hb, cond_false] at h
      cases hp : posF l k with
      | none => rw [hp] at h; cases h
      | some j =>
        rw [hp] at h
        injection h with h
        subst h
        simpa using posF_some hp
theorem posF_none : ∀ {L : List Nat} {k : Nat}, posF L k = none → k ∉ L
  | [], k, h => by simp
  | a :: l, k, h => by
    simp only [posF] at h
    cases hb : Nat.beq a k with
    | true => rw [hb, cond_true] at h; cases h
    | false =>
      rw [hb, cond_false] at h
      cases hp : posF l k with
      | some j => rw [hp] at h; cases h
      | none =>
        have := posF_none hp
        simp only [List.mem_cons, not_or]
        exact ⟨fun e => by subst e; simp at hb, this⟩
theorem posF_of : ∀ {L : List Nat} {k i : Nat}, nodupB L = true → L[i]? = some k → posF L k = some i
  | [], k, i, _, h => by simp at h
  | a :: l, k, i, hn, h => by
    simp only [nodupB, Bool.and_eq_true, Bool.not_eq_true'] at hn
    simp only [posF]
    cases i with
    | zero =>
      simp at h
      subst h
      simp
    | succ i =>
      simp at h
      have hb : Nat.beq a k = false := by
        cases hb : Nat.beq a k with
        | false => rfl
        | true =>
          have := Nat.eq_of_beq_eq_true hb
          subst this
          have : l.any (fun b => Nat.beq b a) = true := List.any_eq_true.2 ⟨a, List.mem_of_getElem? h, by simp⟩
          rw [hn.1] at this
          cases this
      rw [hb, cond_false, posF_of hn.2 h]
/-- Names turned by f; a name that f does not know says nothing. -/
def renG (f : Nat → Option Nat) : AV → AV
  | .ptr k off => match f k with
    | some i => .ptr i off
    | none => .junk
  | .mp k => match f k with
    | some i => .mp i
    | none => .junk
  | .vptr k s sz i off => match f k with
    | some j => .vptr j s sz i off
    | none => .junk
  | .vec k s => match f k with
    | some i => .vec i s
    | none => .junk
  | x => x
theorem ren_leaf {w w' : World} {G G' : Nat → Prop} {ρ ρ' : Rho} {f : Nat → Option Nat} (hρ : ∀ k x, ρ k = some x → f k = none ∨ ∃ i, f k = some i ∧ ρ' i = some x) :
    ∀ x v, x.isName = true → R w G ρ x v → R w' G' ρ' (renG f x) v := by
  intro x v hx h
  cases h with
  | ptr hk =>
    rcases hρ _ _ hk with h1 | ⟨i, h1, h2⟩
    · simp only [renG, h1]; exact .junk
    · simp only [renG, h1]; exact .ptr h2
  | mp hk =>
    rcases hρ _ _ hk with h1 | ⟨i, h1, h2⟩
    · simp only [renG, h1]; exact .junk
    · simp only [renG, h1]; exact .mp h2
  | vptr hk hi =>
    rcases hρ _ _ hk with h1 | ⟨i, h1, h2⟩
    · simp only [renG, h1]; exact .junk
    · simp only [renG, h1]; exact .vptr h2 hi
  | vptrOld hk hs =>
    rcases hρ _ _ hk with h1 | ⟨i, h1, h2⟩
    · simp only [renG, h1]; exact .junk
    · simp only [renG, h1]; exact .vptrOld h2 hs
  | vec hk =>
    rcases hρ _ _ hk with h1 | ⟨i, h1, h2⟩
    · simp only [renG, h1]; exact .junk
    · simp only [renG, h1]; exact .vec h2
  | vecOld hk hs =>
    rcases hρ _ _ hk with h1 | ⟨i, h1, h2⟩
    · simp only [renG, h1]; exact .junk
    · simp only [renG, h1]; exact .vecOld h2 hs
  | _ => simp [AV.isName] at hx
/-- The memory's part of a state. -/
structure MemR (E : Env) (O : Nat → Option Ob) (w : World) (ρ : Rho) : Prop where
  keep : Keep E.M E.w0 w
  ob : ∀ k o, O k = some o → ObOk w (E.good w ρ) ρ k o
  no : ∀ k, O k = none → ρ k = none
  dis : ∀ k k' x x' b, ρ k = some x → ρ k' = some x' → x.block = some b → x'.block = some b → k = k'
  own : ∀ k x b, ρ k = some x → x.block = some b → E.w0.heap.size ≤ b ∨ E.M b
  le : ∀ k, k < E.N → ∀ x, E.r0 k = some x → ρ k = some x ∨ ∃ s v s' v', x = .hdr s v ∧ ρ k = some (.hdr s' v') ∧ s < s'
theorem SatR.mem {E : Env} {st : ST} {a : Act} {w : World} {ρ : Rho} (h : SatR E st a w ρ) : MemR E st.ob w ρ := ⟨h.keep, h.ob, h.no, h.dis, h.own, h.le⟩
theorem MemR.lt {E : Env} {O : Nat → Option Ob} {w : World} {ρ : Rho} (h : MemR E O w ρ) {k : Nat} {x : RV} {b : Nat} (hx : ρ k = some x) (hb : x.block = some b) : b < w.heap.size := by
  cases ho : O k with
  | none => rw [h.no k ho] at hx; cases hx
  | some o => exact (h.ob k o ho).lt hx hb
/-- The objects of a list, by place. -/
def obL (O : List Ob) : Nat → Option Ob := fun k => O[k]?
/-- The blocks in which objects lie. -/
def Owned (r : Rho) (b : Nat) : Prop := ∃ k x, r k = some x ∧ x.block = some b
def Env.at_ (P : Program) (w : World) (G : Nat → Prop) (n : Nat) (r : Rho) : Env := ⟨P, w, Owned r, G, n, r, none⟩
/-- Called with such arguments, over such objects, the function hands back such a value, and leaves the objects so; behind those that were lent stand the new ones. All else stays as it was. -/
def DoesM (P : Program) (f : FuncId) (args : List AV) (O : List Ob) (res : AV) (O' : List Ob) : Prop :=
  FnOk P f ∧ O.length ≤ O'.length ∧ ∀ (w : World) (G : Nat → Prop) (r : Rho) (vs : Array Value), vs.size = args.length → (∀ b, G b → (Env.at_ P w G O.length r).good w r b) → MemR (Env.at_ P w G O.length r) (obL O) w r →
    (∀ i x, args[i]? = some x → R w ((Env.at_ P w G O.length r).good w r) r x (vs.getD i undef)) →
    Calls P f vs w fun e w' => ∃ v ρ, e = .returned v ∧ MemR (Env.at_ P w G O.length r) (obL O') w' ρ ∧ R w' ((Env.at_ P w G O.length r).good w' ρ) ρ res v
/-- The same of whatever is called as C says. -/
def DoesX (C : Array Value → World → (Ending → World → Prop) → Prop) (P : Program) (args : List AV) (O : List Ob) (res : AV) (O' : List Ob) : Prop :=
  O.length ≤ O'.length ∧ ∀ (w : World) (G : Nat → Prop) (r : Rho) (vs : Array Value), vs.size = args.length → (∀ b, G b → (Env.at_ P w G O.length r).good w r b) → MemR (Env.at_ P w G O.length r) (obL O) w r →
    (∀ i x, args[i]? = some x → R w ((Env.at_ P w G O.length r).good w r) r x (vs.getD i undef)) →
    C vs w fun e w' => ∃ v ρ, e = .returned v ∧ MemR (Env.at_ P w G O.length r) (obL O') w' ρ ∧ R w' ((Env.at_ P w G O.length r).good w' ρ) ρ res v
section
variable {E : Env} {st : ST} {a : Act} {w : World} {ρ : Rho} {T : TE} {Q : Exit → ST → Prop} {k : List It}
/-- The objects in the order of a list of names; the others are forgotten. -/
def ST.ren (st : ST) (L : List Nat) : ST :=
  { st with fr := fun j => (st.fr j).map (renG (posF L)), ob := fun i => match L[i]? with
    | some k => (st.ob k).map (Ob.map (renG (posF L)))
    | none => none }
theorem Weak.ren {n : Nat} (L : List Nat) (hN : E.N = n) (hd : nodupB L = true) (hn : (List.range n).all (fun i => match L[i]? with
    | some k => Nat.beq k i
    | none => false) = true) : Weak E st (st.ren L) := by
  intro a w ⟨ρ, h⟩
  subst hN
  have hlt : ∀ i, i < E.N → L[i]? = some i := by
    intro i hi
    have := List.all_eq_true.1 hn i (List.mem_range.2 hi)
    split at this
    · rename_i k hk
      rw [hk, Nat.eq_of_beq_eq_true this]
    · cases this
  let ρ' : Rho := fun i => (L[i]?).bind ρ
  have hρ : ∀ k x, ρ k = some x → posF L k = none ∨ ∃ i, posF L k = some i ∧ ρ' i = some x := by
    intro k x hx
    cases hp : posF L k with
    | none => exact .inl rfl
    | some i => exact .inr ⟨i, rfl, by simp only [ρ', posF_some hp, Option.bind_some, hx]⟩
  have hback : ∀ i x, ρ' i = some x → ∃ k, L[i]? = some k ∧ ρ k = some x := by
    intro i x hx
    simp only [ρ', Option.bind_eq_some_iff] at hx
    exact hx
  have hG : ∀ b, E.good w ρ b → E.good w ρ' b := fun b hb => ⟨hb.1, hb.2.1, fun j y hj hy => by
    obtain ⟨k', _, h2⟩ := hback j y hj
    exact hb.2.2 k' y h2 hy⟩
  refine ⟨ρ', h.keep, h.tsz, h.dfr.tr (fun b hb => ⟨hG b hb, rfl⟩), fun k => (h.fr k).map (fun b hb => ⟨hG b hb, rfl⟩) (ren_leaf hρ), ?_, ?_, ?_, ?_, ?_⟩
  · intro i o ho
    simp only [ST.ren] at ho
    split at ho
    · rename_i k hk
      simp only [Option.map_eq_some_iff] at ho
      obtain ⟨o1, ho1, rfl⟩ := ho
      exact (h.ob k o1 ho1).map hG (ren_leaf hρ) (by simp only [ρ', hk, Option.bind_some])
    · cases ho
  · intro i ho
    simp only [ST.ren] at ho
    split at ho
    · rename_i k hk
      have ho : st.ob k = none := by simpa using ho
      simp only [ρ', hk, Option.bind_some, h.no k ho]
    · rename_i hk
      simp only [ρ', hk, Option.bind_none]
  · intro i i' x x' b hi hi' hb hb'
    obtain ⟨k, h1, h2⟩ := hback i x hi
    obtain ⟨k', h1', h2'⟩ := hback i' x' hi'
    have := h.dis k k' x x' b h2 h2' hb hb'
    subst this
    have e1 := posF_of hd h1
    rw [posF_of hd h1'] at e1
    exact (Option.some.inj e1).symm
  · intro i x b hi hb
    obtain ⟨k, _, h2⟩ := hback i x hi
    exact h.own k x b h2 hb
  · intro i hi x hx
    simp only [ρ', hlt i hi, Option.bind_some]
    exact h.le i hi x hx
/-- The end of a function that writes what it is lent. -/
def RetM (E : Env) (T : TE) (rs : List ResultVar) (res : AV) (O' : List Ob) : Exit → ST → Prop := fun e st => (e = .normal ∨ e = .ret) ∧ ∃ st' x, Weak E st st' ∧ retF T st' rs = some x ∧ AvIs x res ∧ st'.ob = obL O'
theorem DoesM.mk {P : Program} {f : FuncId} {fn : Func} {c : Code} {args : List AV} {O O' : List Ob} {res : AV} {T : TE} (md : Nat → Bool) (nx : Nat) (hT : TOk P T) (hf : P.funcs[f]? = some fn) (hb : fn.body = some c) (hnm : (fn.name == "runtime.NumGoroutine") = false)
    {nt : Nat} {rs : List ResultVar} (hnt : fn.ntmps = nt) (hrs : fn.results.toList = rs) (hle : Nat.ble args.length nt = true) (hO : Nat.ble O.length O'.length = true)
    (h : ∀ E : Env, TOk E.P T → E.P = P → E.N = O.length → E.rd = none → XK E [.code c] (RetM E T rs res O') ⟨argFr args, obL O, nx, nt, md⟩) : DoesM P f args O res O' := by
  subst hnt hrs
  refine ⟨⟨fn, hf, by rw [hb]; rfl, hnm⟩, Nat.le_of_ble_eq_true hO, fun w G r vs hs hG hm hr => ?_⟩
  have hle' := Nat.le_of_ble_eq_true hle
  have hsz : (vs ++ Array.replicate (fn.ntmps - vs.size) undef).size = fn.ntmps := by simp; omega
  have h0 : SatR (Env.at_ P w G O.length r) ⟨argFr args, obL O, nx, fn.ntmps, md⟩ { tmps := vs ++ Array.replicate (fn.ntmps - vs.size) undef, defers := [] } w r := by
    refine ⟨Keep.refl _ _, hsz, DfrOk.nil, fun k => ?_, hm.ob, hm.no, hm.dis, hm.own, hm.le⟩
    by_cases hk : k < args.length
    · have hx := List.getElem?_eq_getElem hk
      have h1 := hr k _ hx
      have hlt : k < vs.size := by omega
      simp only [argFr_eq, hx, Option.getD_some]
      simpa [Array.getElem?_append_left hlt] using h1
    · simp only [argFr_eq, List.getElem?_eq_none (Nat.le_of_not_lt hk), Option.getD_none]
      exact .junk
  refine (callsIn_wide (n := 0)).1 (callsIn_of_wp_marks hf hb trivial (wpIn_mono (h (Env.at_ P w G O.length r) hT rfl rfl rfl _ w ⟨_, h0⟩) ?_))
  rintro e a' w1 ⟨st0, hs0, he, st', x, hwk, hx, hxr, hob⟩
  obtain ⟨ρ, hs1⟩ := hwk a' w1 hs0
  suffices hlv : LeavesInM Fence.wide 0 P fn a'.tmps (fun e w' => ∃ v ρ, e = .returned v ∧ MemR (Env.at_ P w G O.length r) (obL O') w' ρ ∧ R w' ((Env.at_ P w G O.length r).good w' ρ) ρ res v) a'.defers .returning w1 by
    rcases he with rfl | rfl <;> exact hlv
  obtain ⟨df, hdf, -⟩ := hs1.dfr
  obtain ⟨ta, da⟩ := a'
  simp only at hdf
  subst hdf
  refine SatR.leaves df hs1 fun w' hs' => ?_
  obtain ⟨v, h1, h2⟩ := retF_ok (E := Env.at_ P w G O.length r) hT hs' hx
  have key : ∃ v, (results fn ta).run P w' = .ok v w' ∧ ∃ u ρ, Ending.returned v = .returned u ∧ MemR (Env.at_ P w G O.length r) (obL O') w' ρ ∧ R w' ((Env.at_ P w G O.length r).good w' ρ) ρ res u :=
    ⟨v, h1, v, ρ, rfl, hob ▸ hs'.mem, hxr.ok h2⟩
  exact key
/- Calls. -/
/-- The objects K of a state are, under their places in K, those of a list. -/
def ViewIs (ob : Nat → Option Ob) (f : Nat → Option Nat) : List Nat → List Ob → Prop
  | _, [] => True
  | k :: _, [o] => ObIs1 ((ob k).map (Ob.map (renG f))) o
  | k :: K, o :: l => ObIs1 ((ob k).map (Ob.map (renG f))) o ∧ ViewIs ob f K l
  | [], _ :: _ => False
theorem ViewIs.at_ {ob : Nat → Option Ob} {f : Nat → Option Nat} : ∀ {K : List Nat} {O : List Ob}, ViewIs ob f K O → ∀ (i : Nat) (o : Ob), O[i]? = some o → ∃ k, K[i]? = some k ∧ ObIs1 ((ob k).map (Ob.map (renG f))) o
  | _, [], _, i, o, h => by simp at h
  | k :: K, [o1], h, i, o, ho => by
    match i with
    | 0 => simp at ho; subst ho; exact ⟨k, rfl, h⟩
    | i + 1 => simp at ho
  | k :: K, o1 :: o2 :: l, h, i, o, ho => by
    obtain ⟨h1, h2⟩ : ObIs1 ((ob k).map (Ob.map (renG f))) o1 ∧ ViewIs ob f K (o2 :: l) := h
    match i with
    | 0 => simp at ho; subst ho; exact ⟨k, rfl, h1⟩
    | i + 1 =>
      obtain ⟨k', h3, h4⟩ := ViewIs.at_ h2 i o (by simpa using ho)
      exact ⟨k', by simpa using h3, h4⟩
  | [], o1 :: l, h, i, o, ho => by
    cases l <;> exact h.elim
/-- What the call leaves of the objects, under the caller's names, written out. -/
def backF (g : AV → AV) : List Nat → List Ob → Option (List (Nat × Ob))
  | k :: K, o :: O => match frcKO k (o.map g), backF g K O with
    | some p, some l => some (p :: l)
    | _, _ => none
  | [], [] => some []
  | _, _ => none
theorem backF_ok {g : AV → AV} : ∀ {K : List Nat} {O : List Ob} {l : List (Nat × Ob)}, backF g K O = some l → l.map (·.1) = K ∧ K.length = O.length ∧ ∀ (i k : Nat), nodupB K = true → K[i]? = some k → ∀ ob, putAll ob l k = (O[i]?).map (Ob.map g)
  | [], [], l, h => by simp [backF] at h; subst h; exact ⟨rfl, rfl, fun i k _ h => by simp at h⟩
  | [], _ :: _, l, h => by simp [backF] at h
  | _ :: _, [], l, h => by simp [backF] at h
  | k :: K, o :: O, l, h => by
    simp only [backF] at h
    split at h
    · rename_i p l' h1 h2
      injection h with h
      subst h
      obtain ⟨k', o'⟩ := p
      obtain ⟨rfl, rfl⟩ := frcKO_eq h1
      obtain ⟨h3, h4, h5⟩ := backF_ok h2
      refine ⟨by simp [h3], by simp [h4], fun i kk hn hi ob => ?_⟩
      have hn' := hn
      simp only [nodupB, Bool.and_eq_true, Bool.not_eq_true'] at hn'
      simp only [putAll]
      match i with
      | 0 =>
        simp at hi
        subst hi
        simp [upd_same]
      | i + 1 =>
        simp at hi
        have hne : kk ≠ k' := fun e => by
          subst e
          have : K.any (fun b => Nat.beq b kk) = true := List.any_eq_true.2 ⟨kk, List.mem_of_getElem? hi, by simp⟩
          rw [hn'.1] at this
          cases this
        rw [upd_other _ _ hne]
        simpa using h5 i kk hn'.2 hi ob
    · cases h
mutual
/-- No memory but the objects that are named. -/
def AV.bare : AV → Bool
  | .agg l => AV.bareL l
  | .tup l => AV.bareL l
  | .c _ => true
  | .junk => true
  | .ptr _ _ => true
  | .mp _ => true
  | .vptr _ _ _ _ _ => true
  | .vec _ _ => true
  | .rptr _ => false
  | .rs _ _ _ => false
  | .fn _ l l' => AV.bareL l && AV.bareL l'
  | .gd _ _ => false
def AV.bareL : List AV → Bool
  | [] => true
  | a :: l => AV.bare a && AV.bareL l
end
theorem AV.bareL_at : ∀ {l : List AV} {i : Nat} {a : AV}, AV.bareL l = true → l[i]? = some a → a.bare = true
  | [], i, a, _, h => by simp at h
  | b :: l, 0, a, hl, h => by simp at h; subst h; simp [AV.bareL] at hl; exact hl.1
  | b :: l, i + 1, a, hl, h => by simp at h; simp [AV.bareL] at hl; exact AV.bareL_at hl.2 h
theorem R.map_bare {w w' : World} {G G' : Nat → Prop} {ρ : Rho} {a : AV} {v : Value} (h : R w G ρ a v) :
    ∀ {ρ' : Rho} {g : AV → AV}, a.bare = true → (∀ x v, x.isName = true → R w G ρ x v → R w' G' ρ' (g x) v) → R w' G' ρ' (a.map g) v := by
  induction h with
  | junk => exact fun _ _ => .junk
  | c => exact fun _ _ => .c
  | agg hs _ ih =>
    intro ρ' g hb hg
    refine .agg (by rw [AV.mapL_length]; exact hs) fun i a h => ?_
    obtain ⟨y, hy, rfl⟩ := AV.mapL_get h
    exact ih i y hy (AV.bareL_at (by simpa [AV.bare] using hb) hy) hg
  | tup hs _ ih =>
    intro ρ' g hb hg
    refine .tup (by rw [AV.mapL_length]; exact hs) fun i a h => ?_
    obtain ⟨y, hy, rfl⟩ := AV.mapL_get h
    exact ih i y hy (AV.bareL_at (by simpa [AV.bare] using hb) hy) hg
  | ptr hk => exact fun _ hg => hg _ _ rfl (.ptr hk)
  | mp hk => exact fun _ hg => hg _ _ rfl (.mp hk)
  | vptr hk hi => exact fun _ hg => hg _ _ rfl (.vptr hk hi)
  | vptrOld hk hs => exact fun _ hg => hg _ _ rfl (.vptrOld hk hs)
  | vec hk => exact fun _ hg => hg _ _ rfl (.vec hk)
  | vecOld hk hs => exact fun _ hg => hg _ _ rfl (.vecOld hk hs)
  | rptr => intro _ _ hb; simp [AV.bare] at hb
  | rs => intro _ _ hb; simp [AV.bare] at hb
  | fn hs _ hs' _ ih ih' =>
    intro ρ' g hb hg
    simp only [AV.bare, Bool.and_eq_true] at hb
    refine .fn (by rw [AV.mapL_length]; exact hs) (fun i a h => ?_) (by rw [AV.mapL_length]; exact hs') (fun i a h => ?_)
    · obtain ⟨y, hy, rfl⟩ := AV.mapL_get h
      exact ih i y hy (AV.bareL_at hb.1 hy) hg
    · obtain ⟨y, hy, rfl⟩ := AV.mapL_get h
      exact ih' i y hy (AV.bareL_at hb.2 hy) hg
  | gd => intro _ _ hb; simp [AV.bare] at hb
def Ob.Bare : Ob → Prop
  | .cells _ cs => AV.bareL cs = true
  | .vec _ _ _ n f => ∀ i, i < n → AV.flatL (f i) = true
  | .mapo _ _ _ f => ∀ z, (f z).bare = true
  | .mapb _ _ _ f => ∀ z, (f z).flat = true
  | .lrec _ _ cs => AV.bareL cs = true
theorem ObOk.map_bare {w : World} {G G' : Nat → Prop} {ρ ρ' : Rho} {g : AV → AV} (hg : ∀ x v, x.isName = true → R w G ρ x v → R w G' ρ' (g x) v) {k k' : Nat} {o : Ob} (hb : o.Bare) (h : ObOk w G ρ k o) (hk : ρ' k' = ρ k) : ObOk w G' ρ' k' (o.map g) := by
  cases o with
  | cells t cs =>
    obtain ⟨b, arr, hk', hh, hs, hr⟩ := h
    refine ⟨b, arr, hk.trans hk', hh, by rw [AV.mapL_length]; exact hs, fun i x hx => ?_⟩
    obtain ⟨y, hy, rfl⟩ := AV.mapL_get hx
    exact (hr i y hy).map_bare (AV.bareL_at hb hy) hg
  | vec e sz s n f =>
    obtain ⟨hv, xs, hk', hown, hf, hr⟩ := h
    exact ⟨hv, xs, hk.trans hk', hown, hf, fun i j x hi hx => (hr i j x hi hx).of_flat _ (AV.flatL_at (hb i hi) hx)⟩
  | mapo kk zv d f =>
    obtain ⟨b, es, clock, hk', hh, hs, hr⟩ := h
    exact ⟨b, es, clock, hk.trans hk', hh, hs, fun z hz => by
      obtain ⟨r, h1, h2, h3⟩ := hr z hz
      exact ⟨r, h1, h2, h3.map_bare (hb z) hg⟩⟩
  | mapb kk zv d f =>
    obtain ⟨b, es, clock, hk', hh, hs, hr⟩ := h
    exact ⟨b, es, clock, hk.trans hk', hh, hs, fun z hz => by
      obtain ⟨r, h1, h2, h3⟩ := hr z hz
      exact ⟨r, h1, h2, h3.of_flat _ (hb z)⟩⟩
  | lrec mk b cs =>
    obtain ⟨arr, hk', hh, hs, hr⟩ := h
    refine ⟨arr, hk.trans hk', hh, by rw [AV.mapL_length]; exact hs, fun i x hx => ?_⟩
    obtain ⟨y, hy, rfl⟩ := AV.mapL_get hx
    exact (hr i y hy).map_bare (AV.bareL_at hb hy) hg
/-- A call that writes what it is lent. K: the caller's names of the objects lent, in the callee's order, and then the new names of the new ones. -/
theorem SatR.calledX {C : Array Value → World → (Ending → World → Prop) → Prop} (hC : ∀ vs w R R', C vs w R → (∀ e w', R e w' → R' e w') → C vs w R') (h : SatR E st a w ρ) {st1 : ST} {ρ1 : Rho} (h1 : SatR E st1 a w ρ1) (hsub : ∀ k x, ρ1 k = some x → ρ k = some x) {args' : List AV} {O O' : List Ob} {res : AV} (hP : DoesX C E.P args' O res O') {K : List Nat} {obs : List (Nat × Ob)} (hbare : ρ1 = ρ ∨ (res.bare = true ∧ ∀ o ∈ O', o.Bare)) (hd : nodupB K = true)
    (hv : ViewIs st1.ob (posF (K.take O.length)) (K.take O.length) O) (hnew : (K.drop O.length).all (fun k => (st.ob k).isNone) = true) (hob : backF (renG (fun i => K[i]?)) K O' = some obs)
    {vs : Array Value} (hsz : vs.size = args'.length) (hvs : ∀ (i : Nat) (y : AV), args'[i]? = some y → ∃ x, R w (E.good w ρ1) ρ1 x (vs.getD i undef) ∧ AvIs (x.map (renG (posF (K.take O.length)))) y)
    {next : Act → World → Prop} {Q' : Exit → Act → World → Prop} {Q : Ending → World → Prop} (hQ : ∀ v w' ρ', MemR E (putAll st.ob obs) w' ρ' → Le ρ ρ' → (∀ b, E.good w ρ b → E.good w' ρ' b ∧ w'.heap[b]? = w.heap[b]?) → R w' (E.good w' ρ') ρ' (res.map (renG (fun i => K[i]?))) v → Q (.returned v) w') : C vs w Q := by
  obtain ⟨hlen, hP⟩ := hP
  obtain ⟨hk1, hk2, hput⟩ := backF_ok hob
  have hput := fun i k hi ob => hput i k hd hi ob
  generalize hn : O.length = n at *
  let L := K.take n
  have hLlen : n ≤ K.length := by omega
  have hLd : nodupB L = true := by
    have : ∀ (l : List Nat) (m : Nat), nodupB l = true → nodupB (l.take m) = true := by
      intro l
      induction l with
      | nil => intro m _; simp [nodupB]
      | cons a l ih =>
        intro m hm
        cases m with
        | zero => simp [nodupB]
        | succ m =>
          simp only [nodupB, Bool.and_eq_true, Bool.not_eq_true', List.take_succ_cons] at hm ⊢
          refine ⟨?_, ih m hm.2⟩
          cases hb : (List.take m l).any (fun b => Nat.beq b a) with
          | false => rfl
          | true =>
            obtain ⟨b, h1, h2⟩ := List.any_eq_true.1 hb
            have : l.any (fun b => Nat.beq b a) = true := List.any_eq_true.2 ⟨b, List.mem_of_mem_take h1, h2⟩
            rw [hm.1] at this
            cases this
    exact this K n hd
  have hLat : ∀ i, i < n → L[i]? = K[i]? := fun i hi => by simp [L, hi]
  have hLnone : ∀ i, n ≤ i → L[i]? = none := fun i hi => by simp [L]; omega
  have hLmem : ∀ i k, L[i]? = some k → i < n ∧ K[i]? = some k := fun i k hi => by
    by_cases hlt : i < n
    · exact ⟨hlt, (hLat i hlt) ▸ hi⟩
    · rw [hLnone i (by omega)] at hi; cases hi
  -- the objects as the callee sees them
  let r : Rho := fun i => (L[i]?).bind ρ1
  have hr : ∀ i x, r i = some x → ∃ k, L[i]? = some k ∧ ρ1 k = some x := by
    intro i x hx
    simp only [r, Option.bind_eq_some_iff] at hx
    exact hx
  have hρr : ∀ k x, ρ1 k = some x → posF L k = none ∨ ∃ i, posF L k = some i ∧ r i = some x := by
    intro k x hx
    cases hp : posF L k with
    | none => exact .inl rfl
    | some i => exact .inr ⟨i, rfl, by simp only [r, posF_some hp, Option.bind_some, hx]⟩
  have hown : ∀ b, Owned r b → ∃ (k : Nat) (x : RV) (i : Nat), L[i]? = some k ∧ ρ k = some x ∧ x.block = some b := by
    rintro b ⟨i, x, hi, hb⟩
    obtain ⟨k, h1, h2⟩ := hr i x hi
    exact ⟨k, x, i, h1, hsub k x h2, hb⟩
  have hG1 : ∀ b, E.good w ρ1 b → (Env.at_ E.P w (E.good w ρ1) n r).good w r b := by
    intro b hb
    refine ⟨.inl hb, hb.2.1, fun i x hi hx => ?_⟩
    obtain ⟨k, _, h2⟩ := hr i x hi
    exact hb.2.2 k x h2 hx
  have hm : MemR (Env.at_ E.P w (E.good w ρ1) n r) (obL O) w r := by
    refine ⟨Keep.refl _ _, ?_, ?_, ?_, ?_, ?_⟩
    · intro i o ho
      obtain ⟨k, hk1, h2⟩ := hv.at_ i o ho
      cases hk : st1.ob k with
      | none => rw [hk] at h2; exact h2.elim
      | some o1 =>
        rw [hk] at h2
        exact ObIs1.ok h2 ((h1.ob k o1 hk).map hG1 (ren_leaf hρr) (by simp only [r, show L[i]? = some k from hk1, Option.bind_some]))
    · intro i ho
      have hi : n ≤ i := by
        have : O.length ≤ i := by simpa [obL] using ho
        omega
      simp only [r, hLnone i hi, Option.bind_none]
    · intro i i' x x' b hi hi' hb hb'
      obtain ⟨k, g1, h2⟩ := hr i x hi
      obtain ⟨k', h1', h2'⟩ := hr i' x' hi'
      have := h1.dis k k' x x' b h2 h2' hb hb'
      subst this
      have e1 := posF_of hLd g1
      have e2 := posF_of hLd h1'
      rw [e1] at e2
      exact Option.some.inj e2
    · intro i x b hi hb
      exact .inr ⟨i, x, hi, hb⟩
    · intro i _ x hx
      exact .inl hx
  refine hC _ _ _ _ (hP w (E.good w ρ1) r vs hsz hG1 hm (fun i y hy => ?_)) ?_
  · obtain ⟨x, hx, hxy⟩ := hvs i y hy
    exact hxy.ok (hx.map (fun b hb => ⟨hG1 b hb, rfl⟩) (ren_leaf hρr))
  rintro e w' ⟨v, r', rfl, hm', hres⟩
  -- the caller's view of what is left
  let ρ' : Rho := fun j => match posF K j with
    | some i => r' i
    | none => ρ j
  have hlt' : ∀ i x, r' i = some x → i < K.length := by
    intro i x hx
    by_cases hi : i < O'.length
    · omega
    · have := hm'.no i (by simp [obL]; omega)
      rw [this] at hx; cases hx
  have hKi : ∀ i x, r' i = some x → ∃ j, K[i]? = some j ∧ posF K j = some i ∧ ρ' j = some x := by
    intro i x hx
    have hi := hlt' i x hx
    have h1 : K[i]? = some K[i] := List.getElem?_eq_getElem hi
    have h2 := posF_of hd h1
    exact ⟨_, h1, h2, by simp only [ρ', h2, hx]⟩
  have hcase : ∀ j x, ρ' j = some x → (∃ i, posF K j = some i ∧ r' i = some x) ∨ (posF K j = none ∧ ρ j = some x) := by
    intro j x hx
    simp only [ρ'] at hx
    split at hx
    · rename_i i hi; exact .inl ⟨i, hi, hx⟩
    · rename_i hi; exact .inr ⟨hi, hx⟩
  have hne : ∀ j i, posF K j = some i → n ≤ i → ρ j = none := by
    intro j i hj hi
    have h1 := posF_some hj
    have hmem : j ∈ K.drop n := by
      refine List.mem_of_getElem? (i := i - n) ?_
      rw [List.getElem?_drop, show n + (i - n) = i by omega]
      exact h1
    have := List.all_eq_true.1 hnew j hmem
    exact h.no j (by simpa using this)
  have hin : ∀ j i, posF K j = some i → i < n → r i = ρ j ∧ posF L j = some i := by
    intro j i hj hi
    have h1 := posF_some hj
    have h2 : L[i]? = some j := (hLat i hi).trans h1
    have h3 : r i = ρ1 j := by simp only [r, h2, Option.bind_some]
    refine ⟨?_, posF_of hLd h2⟩
    have hlt : i < O.length := by omega
    have hoi := hm.ob i _ (List.getElem?_eq_getElem hlt)
    have hsome : ∃ y, r i = some y := by
      cases hoo : O[i] with
      | cells t cs => rw [hoo] at hoi; obtain ⟨g, arr, hg, _⟩ := hoi; exact ⟨_, hg⟩
      | vec e sz s n f => rw [hoo] at hoi; obtain ⟨g, arr, hg, _⟩ := hoi; exact ⟨_, hg⟩
      | mapo kk zv d f => rw [hoo] at hoi; obtain ⟨g, es, clock, hg, _⟩ := hoi; exact ⟨_, hg⟩
      | mapb kk zv d f => rw [hoo] at hoi; obtain ⟨g, es, clock, hg, _⟩ := hoi; exact ⟨_, hg⟩
      | lrec mk b cs => rw [hoo] at hoi; obtain ⟨arr, hg, _⟩ := hoi; exact ⟨_, hg⟩
    obtain ⟨y, hy⟩ := hsome
    rw [hy, hsub j y (h3 ▸ hy)]
  have hle : Le ρ ρ' := by
    intro j x hx
    simp only [ρ']
    cases hp : posF K j with
    | none => exact .inl hx
    | some i =>
      by_cases hi : i < n
      · obtain ⟨h1, _⟩ := hin j i hp hi
        exact hm'.le i (by exact hi) x (h1.trans hx)
      · rw [hne j i hp (by omega)] at hx; cases hx
  have hnotown : ∀ b j x, ρ j = some x → x.block = some b → posF K j = none → ¬ Owned r b := by
    intro b j x hj hb hp ho
    obtain ⟨k, y, i, h1, h2, h3⟩ := hown b ho
    have := h.dis j k x y b hj h2 hb h3
    subst this
    obtain ⟨_, h4⟩ := hLmem i j h1
    rw [posF_of hd h4] at hp
    cases hp
  have hblk : ∀ b, b < w.heap.size → ¬ Owned r b → w'.heap[b]? = w.heap[b]? := fun b h1 h2 => hm'.keep.block b h1 h2
  have hG2 : ∀ b, E.good w ρ b → E.good w' ρ' b ∧ w'.heap[b]? = w.heap[b]? := by
    intro b hb
    have hno : ¬ Owned r b := fun ho => by
      obtain ⟨k, y, i, _, h2, h3⟩ := hown b ho
      exact hb.2.2 k y h2 h3
    refine ⟨⟨hb.1, Nat.lt_of_lt_of_le hb.2.1 hm'.keep.size, fun j x hj hx => ?_⟩, hblk b hb.2.1 hno⟩
    rcases hcase j x hj with ⟨i, _, h2⟩ | ⟨_, h2⟩
    · rcases hm'.own i x b h2 hx with h3 | h3
      · exact absurd hb.2.1 (Nat.not_lt.2 h3)
      · exact hno h3
    · exact hb.2.2 j x h2 hx
  have hE0 : ∀ b, Owned r b → E.w0.heap.size ≤ b ∨ E.M b := fun b ho => by
    obtain ⟨k, y, i, _, h2, h3⟩ := hown b ho
    exact h.own k y b h2 h3
  have hG3 : ρ1 = ρ → ∀ b, (Env.at_ E.P w (E.good w ρ1) n r).good w' r' b → E.good w' ρ' b := by
    rintro heq b ⟨h1, h2, h3⟩
    have h1 : E.good w ρ b ∨ w.heap.size ≤ b ∨ Owned r b := by rw [← heq]; exact h1
    refine ⟨?_, h2, fun j x hj hx => ?_⟩
    · rcases h1 with h1 | h1 | h1
      · exact h1.1
      · exact .inr (.inl (Nat.le_trans h.keep.size h1))
      · rcases hE0 b h1 with h4 | h4
        · exact .inr (.inl h4)
        · exact .inr (.inr h4)
    · rcases hcase j x hj with ⟨i, _, h4⟩ | ⟨hp, h4⟩
      · exact h3 i x h4 hx
      · rcases h1 with h1 | h1 | h1
        · exact h1.2.2 j x h4 hx
        · exact absurd (h.lt h4 hx) (Nat.not_lt.2 h1)
        · exact hnotown b j x h4 hx hp h1
  have hleaf : ∀ x v, x.isName = true → R w' ((Env.at_ E.P w (E.good w ρ1) n r).good w' r') r' x v → R w' (E.good w' ρ') ρ' (renG (fun i => K[i]?) x) v :=
    ren_leaf fun i x hx => by
      obtain ⟨j, h1, _, h3⟩ := hKi i x hx
      exact .inr ⟨j, h1, h3⟩
  have hout : R w' (E.good w' ρ') ρ' (res.map (renG (fun i => K[i]?))) v := by
    rcases hbare with heq | ⟨hb1, _⟩
    · exact hres.map (fun b hb => ⟨hG3 heq b hb, rfl⟩) hleaf
    · exact hres.map_bare hb1 hleaf
  refine hQ v w' ρ' ⟨?_, ?_, ?_, ?_, ?_, ?_⟩ hle hG2 hout
  · refine ⟨hm'.keep.os.trans h.keep.os, hm'.keep.tape.trans h.keep.tape, hm'.keep.output.trans h.keep.output, Nat.le_trans h.keep.size hm'.keep.size, fun b hb hM => ?_, Nat.le_trans h.keep.drawn hm'.keep.drawn⟩
    have hno : ¬ Owned r b := fun ho => by
      rcases hE0 b ho with h1 | h1
      · omega
      · exact hM h1
    exact (hblk b (Nat.lt_of_lt_of_le hb h.keep.size) hno).trans (h.keep.block b hb hM)
  · intro j o ho
    cases hp : posF K j with
    | some i =>
      rw [hput i j (posF_some hp)] at ho
      simp only [Option.map_eq_some_iff] at ho
      obtain ⟨o1, ho1, rfl⟩ := ho
      have hmem : o1 ∈ O' := List.mem_of_getElem? ho1
      rcases hbare with heq | ⟨_, hb2⟩
      · exact (hm'.ob i o1 ho1).map (hG3 heq) hleaf (by simp only [ρ', hp])
      · exact (hm'.ob i o1 ho1).map_bare hleaf (hb2 o1 hmem) (by simp only [ρ', hp])
    | none =>
      have hj : j ∉ obs.map (·.1) := by rw [hk1]; exact posF_none hp
      rw [putAll_not hj] at ho
      refine (h.ob j o ho).tr hG2 hle (by simp only [ρ', hp]) fun x b hx hb => ?_
      exact hblk b (h.lt hx hb) (hnotown b j x hx hb hp)
  · intro j ho
    cases hp : posF K j with
    | some i =>
      rw [hput i j (posF_some hp)] at ho
      have ho : O'[i]? = none := by simpa using ho
      simp only [ρ', hp]
      exact hm'.no i ho
    | none =>
      have hj : j ∉ obs.map (·.1) := by rw [hk1]; exact posF_none hp
      rw [putAll_not hj] at ho
      simp only [ρ', hp]
      exact h.no j ho
  · intro j j' x x' b hj hj' hb hb'
    rcases hcase j x hj with ⟨i, h1, h2⟩ | ⟨h1, h2⟩ <;> rcases hcase j' x' hj' with ⟨i', h1', h2'⟩ | ⟨h1', h2'⟩
    · have := hm'.dis i i' x x' b h2 h2' hb hb'
      subst this
      have e1 := posF_some h1
      rw [posF_some h1'] at e1
      exact (Option.some.inj e1).symm
    · rcases hm'.own i x b h2 hb with h3 | h3
      · exact absurd (h.lt h2' hb') (Nat.not_lt.2 h3)
      · exact absurd h3 (hnotown b j' x' h2' hb' h1')
    · rcases hm'.own i' x' b h2' hb' with h3 | h3
      · exact absurd (h.lt h2 hb) (Nat.not_lt.2 h3)
      · exact absurd h3 (hnotown b j x h2 hb h1)
    · exact h.dis j j' x x' b h2 h2' hb hb'
  · intro j x b hj hb
    rcases hcase j x hj with ⟨i, h1, h2⟩ | ⟨h1, h2⟩
    · rcases hm'.own i x b h2 hb with h3 | h3
      · exact .inl (Nat.le_trans h.keep.size h3)
      · exact hE0 b h3
    · exact h.own j x b h2 hb
  · intro j hj x hx
    rcases h.le j hj x hx with h1 | ⟨s, v1, s', v', rfl, h2, h3⟩
    · exact hle j x h1
    · rcases hle j _ h2 with h4 | ⟨s1, u1, s2, u2, h4, h5, h6⟩
      · exact .inr ⟨s, v1, s', v', rfl, h4, h3⟩
      · injection h4 with h7 h8
        subst h7
        exact .inr ⟨s, v1, s2, u2, rfl, h5, Nat.lt_trans h3 h6⟩
theorem SatR.calledMB (h : SatR E st a w ρ) {st1 : ST} {ρ1 : Rho} (h1 : SatR E st1 a w ρ1) (hsub : ∀ k x, ρ1 k = some x → ρ k = some x) {f : Nat} {args' : List AV} {O O' : List Ob} {res : AV} (hP : DoesM E.P f args' O res O') {K : List Nat} {obs : List (Nat × Ob)} (hbare : ρ1 = ρ ∨ (res.bare = true ∧ ∀ o ∈ O', o.Bare)) (hd : nodupB K = true)
    (hv : ViewIs st1.ob (posF (K.take O.length)) (K.take O.length) O) (hnew : (K.drop O.length).all (fun k => (st.ob k).isNone) = true) (hob : backF (renG (fun i => K[i]?)) K O' = some obs)
    {vs : Array Value} (hsz : vs.size = args'.length) (hvs : ∀ (i : Nat) (y : AV), args'[i]? = some y → ∃ x, R w (E.good w ρ1) ρ1 x (vs.getD i undef) ∧ AvIs (x.map (renG (posF (K.take O.length)))) y)
    {next : Act → World → Prop} {Q' : Exit → Act → World → Prop} {Q : Ending → World → Prop} (hQ : ∀ v w' ρ', MemR E (putAll st.ob obs) w' ρ' → Le ρ ρ' → (∀ b, E.good w ρ b → E.good w' ρ' b ∧ w'.heap[b]? = w.heap[b]?) → R w' (E.good w' ρ') ρ' (res.map (renG (fun i => K[i]?))) v → Q (.returned v) w') : Calls E.P f vs w Q :=
  SatR.calledX (C := fun vs w R => Calls E.P f vs w R) (fun _ _ _ _ hc hr => hc.mono hr) h h1 hsub hP.2 hbare hd hv hnew hob hsz hvs (next := next) (Q' := Q') hQ
/-- The same, with nothing lent but what is written. -/
theorem SatR.calledM (h : SatR E st a w ρ) {f : Nat} {args' : List AV} {O O' : List Ob} {res : AV} (hP : DoesM E.P f args' O res O') {K : List Nat} {obs : List (Nat × Ob)} (hd : nodupB K = true)
    (hv : ViewIs st.ob (posF (K.take O.length)) (K.take O.length) O) (hnew : (K.drop O.length).all (fun k => (st.ob k).isNone) = true) (hob : backF (renG (fun i => K[i]?)) K O' = some obs)
    {vs : Array Value} (hsz : vs.size = args'.length) (hvs : ∀ (i : Nat) (y : AV), args'[i]? = some y → ∃ x, R w (E.good w ρ) ρ x (vs.getD i undef) ∧ AvIs (x.map (renG (posF (K.take O.length)))) y)
    {next : Act → World → Prop} {Q' : Exit → Act → World → Prop} {Q : Ending → World → Prop} (hQ : ∀ v w' ρ', MemR E (putAll st.ob obs) w' ρ' → Le ρ ρ' → (∀ b, E.good w ρ b → E.good w' ρ' b ∧ w'.heap[b]? = w.heap[b]?) → R w' (E.good w' ρ') ρ' (res.map (renG (fun i => K[i]?))) v → Q (.returned v) w') : Calls E.P f vs w Q :=
  h.calledMB h (fun _ _ h => h) hP (.inl rfl) hd hv hnew hob hsz hvs (next := next) (Q' := Q') hQ
end
end Go.Eng
end
section
/- The engine, part V: calls of functions that write what they are lent, in a region. -/
namespace Go.Eng
set_option linter.unusedVariables false
section
variable {E : Env} {st : ST} {a : Act} {w : World} {ρ : Rho} {T : TE} {Q : Exit → ST → Prop} {k : List It}
theorem mapL_at {g : AV → AV} : ∀ {l : List AV} {i : Nat} {x : AV}, l[i]? = some x → (AV.mapL g l)[i]? = some (x.map g)
  | [], i, x, h => by simp at h
  | a :: l, 0, x, h => by simp at h; subst h; simp [AV.mapL]
  | a :: l, i + 1, x, h => by simp at h; simpa [AV.mapL] using mapL_at h
theorem callM_wp (h : SatR E st a w ρ) {o : Oper} {f : Nat} {args args1 args' : List AV} {res res1 : AV} {O O' : List Ob} {K : List Nat} {obs : List (Nat × Ob)} (hc : callF st o.op = some (f, args)) {gc : Option Bool} (hgc : ∀ g, gc = some g → g = true) (ho : ∀ p ∈ o.op.operands.toList.flatMap (fun x => oblG gc (st.ev x)), p)
    (hdst : dstOk st o = true) (hP : DoesM E.P f args' O res O') (hfa : frcL (AV.mapL (renG (posF (K.take O.length))) args) = some args1) (ha : AvIsL args1 args') (hd : nodupB K = true)
    (hv : ViewIs st.ob (posF (K.take O.length)) (K.take O.length) O) (hnew : (K.drop O.length).all (fun k => (st.ob k).isNone) = true) (hob : backF (renG (fun i => K[i]?)) K O' = some obs) (hres : frc (res.map (renG (fun i => K[i]?))) = some res1)
    {Q : Exit → Act → World → Prop} : o.wpIn (FW E.rd) 0 E.P a w (fun a' w' => Sat E (st.appM o.dst ⟨res1, obs⟩) a' w') Q := by
  obtain ⟨vs, h1, h2, h3⟩ := call_run h hc hgc ho hP.1
  have hfa := frcL_eq hfa
  have hres := frc_eq hres
  subst hfa hres
  obtain ⟨hl, hat⟩ := ha.at
  rw [AV.mapL_length] at hl
  refine wpIn_run h1 (fun _ e => by cases e) ⟨(fun e => by cases e), Calls.fw ?_ _ _⟩
  refine h.calledM hP hd hv hnew hob (by omega) (fun i y hy => ?_) (next := fun _ _ => True) (Q' := fun _ _ _ => True) fun v w' ρ' hm hle hG hr => ?_
  · have hlt : i < args.length := by
      have := (List.getElem?_eq_some_iff.1 hy).1
      omega
    have hx := List.getElem?_eq_getElem hlt
    exact ⟨_, h3 i _ hx, hat i _ y (mapL_at hx) hy⟩
  · have h0 : SatR E { st with ob := putAll st.ob obs } a w' ρ' := ⟨hm.keep, h.tsz, h.dfr.tr hG, fun k => (h.fr k).tr hG _ hle, hm.ob, hm.no, hm.dis, hm.own, hm.le⟩
    refine ⟨ρ', ?_⟩
    have hdl := dstOk_lt hdst
    cases hod : o.dst with
    | none =>
      exact h0
    | some d => exact h0.put (hdl d hod) hr
theorem StepTo.callM {ops : Array Oper} {o : Oper} {f : Nat} {args args1 args' : List AV} {res res1 : AV} {O O' : List Ob} {K : List Nat} {obs : List (Nat × Ob)} (hc : callF st o.op = some (f, args)) (hg : o.guard = none) (hdst : dstOk st o = true) (ho : AllP (o.op.operands.toList.flatMap (fun x => oblG none (st.ev x))))
    (hP : DoesM E.P f args' O res O') (hfa : frcL (AV.mapL (renG (posF (K.take O.length))) args) = some args1) (ha : AvIsL args1 args') (hd : nodupB K = true)
    (hv : ViewIs st.ob (posF (K.take O.length)) (K.take O.length) O) (hnew : (K.drop O.length).all (fun k => (st.ob k).isNone) = true) (hob : backF (renG (fun i => K[i]?)) K O' = some obs) (hres : frc (res.map (renG (fun i => K[i]?))) = some res1) :
    StepTo E ops o st (st.appM o.dst ⟨res1, obs⟩) := by
  intro a w ⟨ρ, h⟩ Q
  rw [if_pos (by simp [Region.wanted, hg])]
  exact callM_wp h hc (fun g e => by cases e) (AllP.mem ho) hdst hP hfa ha hd hv hnew hob hres
theorem StepTo.callMG {ops : Array Oper} {o : Oper} {j f : Nat} {pol g : Bool} {args args1 args' : List AV} {res res1 : AV} {O O' : List Ob} {K : List Nat} {obs : List (Nat × Ob)} (hc : callF st o.op = some (f, args)) (hg : o.guard = some (j, pol)) (hgv : gval st ops.toList j pol = some g) (hgt : g = true) (hdst : dstOk st o = true) (hda : ops.toList.all (dstOk st) = true)
    (ho : AllP (o.op.operands.toList.flatMap (fun x => oblG (some g) (st.ev x))))
    (hP : DoesM E.P f args' O res O') (hfa : frcL (AV.mapL (renG (posF (K.take O.length))) args) = some args1) (ha : AvIsL args1 args') (hd : nodupB K = true)
    (hv : ViewIs st.ob (posF (K.take O.length)) (K.take O.length) O) (hnew : (K.drop O.length).all (fun k => (st.ob k).isNone) = true) (hob : backF (renG (fun i => K[i]?)) K O' = some obs) (hres : frc (res.map (renG (fun i => K[i]?))) = some res1) :
    StepTo E ops o st (st.appM o.dst ⟨res1, obs⟩) := by
  intro a w ⟨ρ, h⟩ Q
  have hwv : Region.wanted o (yielded ops a.tmps) = g := by
    have := gval_ok h hgv (fun o' d h1 h2 => dstOk_lt (List.all_eq_true.1 hda o' (Array.mem_toList_iff.2 (Array.mem_of_getElem? h1))) d h2)
    simp only [Region.wanted, hg, this]
  rw [if_pos (hwv.trans hgt)]
  exact callM_wp h hc (fun g' e => by injection e with e; exact e ▸ hgt) (AllP.mem ho) hdst hP hfa ha hd hv hnew hob hres
theorem StepTo.skip {ops : Array Oper} {o : Oper} {j : Nat} {pol g : Bool} (x : AV) (hg : o.guard = some (j, pol)) (hgv : gval st ops.toList j pol = some g) (hgt : g = false) (hdst : dstOk st o = true) (hda : ops.toList.all (dstOk st) = true) : StepTo E ops o st (st.appM o.dst ⟨.gd false x, []⟩) := by
  intro a w ⟨ρ, h⟩ Q
  have hwv : Region.wanted o (yielded ops a.tmps) = g := by
    have := gval_ok h hgv (fun o' d h1 h2 => dstOk_lt (List.all_eq_true.1 hda o' (Array.mem_toList_iff.2 (Array.mem_of_getElem? h1))) d h2)
    simp only [Region.wanted, hg, this]
  rw [if_neg (by rw [hwv, hgt]; simp)]
  exact ⟨ρ, SatR.put_app (eff := ⟨.gd false x, none⟩) (dst := o.dst) h (dstOk_lt hdst) (.gd (fun e => by cases e) fun _ => rfl)⟩
theorem callF_congr {s' : ST} {o : Oper} (hev : ∀ x ∈ o.op.operands, s'.ev x = st.ev x) : callF s' o.op = callF st o.op := by
  obtain ⟨dst, op, type, pos, after, guard⟩ := o
  simp only at hev ⊢
  unfold callF
  split
  · rename_i c
    obtain ⟨callee, cargs, tys⟩ := c
    simp only
    split
    · rename_i fo
      have hm : cargs.toList.map (fun x => strip (s'.ev x)) = cargs.toList.map (fun x => strip (st.ev x)) := List.map_congr_left fun x hx => by
        simp only [hev x (by simp [Op.operands, Call.operands]; exact .inr (by simpa using hx))]
      rw [hev fo (by simp [Op.operands, Call.operands]), hm]
    · rfl
  · rfl
theorem obl_congr {s' : ST} {o : Oper} {gc : Option Bool} (hev : ∀ x ∈ o.op.operands, s'.ev x = st.ev x) : o.op.operands.toList.flatMap (fun x => oblG gc (s'.ev x)) = o.op.operands.toList.flatMap (fun x => oblG gc (st.ev x)) := by
  simp only [List.flatMap]
  congr 1
  exact List.map_congr_left fun x hx => by simp only [hev x (by simpa using hx)]
theorem ViewIs.congr {ob ob' : Nat → Option Ob} {f : Nat → Option Nat} : ∀ {K : List Nat} {O : List Ob}, (∀ k ∈ K, ob' k = ob k) → ViewIs ob f K O → ViewIs ob' f K O
  | _, [], _, h => by cases ‹List Nat› <;> trivial
  | k :: K, [o1], hk, h => by
    show ObIs1 _ _
    rw [hk k (by simp)]
    exact h
  | k :: K, o1 :: o2 :: l, hk, h => by
    obtain ⟨h1, h2⟩ : ObIs1 ((ob k).map (Ob.map (renG f))) o1 ∧ ViewIs ob f K (o2 :: l) := h
    refine ⟨by rw [hk k (by simp)]; exact h1, ViewIs.congr (fun k hk' => hk k (by simp [hk'])) h2⟩
  | [], o1 :: l, _, h => by cases l <;> exact h.elim
/-- What a call that writes looks at: its operands' slots, and its objects. -/
def fpK (l : List Oper) (o : Oper) (K : List Nat) : List Nat × List Nat :=
  (o.op.operands.toList.flatMap slotOf ++ (match o.guard with
    | some (j, _) => (match l[j]? with
      | some o' => o'.dst.toList
      | none => [])
    | none => []), K)
theorem ev_agreeK {l : List Oper} {s' : ST} {o : Oper} {K : List Nat} (h : agree (fpK l o K) st s') : ∀ x ∈ o.op.operands, s'.ev x = st.ev x := by
  intro x hx
  cases x with
  | tmp t => exact h.2.2.2.1 t (List.mem_append_left _ (List.mem_flatMap.2 ⟨.tmp t, by simpa using hx, by simp [slotOf]⟩))
  | _ => rfl
theorem gval_agreeK {l : List Oper} {s' : ST} {o : Oper} {K : List Nat} {j : Nat} {pol : Bool} (hg : o.guard = some (j, pol)) (h : agree (fpK l o K) st s') : gval s' l j pol = gval st l j pol := by
  unfold gval
  cases hl : l[j]? with
  | none => rfl
  | some o' =>
    cases hdd : o'.dst with
    | none => simp only [hdd]
    | some d =>
      simp only [hdd]
      rw [h.2.2.2.1 d (List.mem_append_right _ (by simp [hg, hl, hdd]))]
theorem LocalM.callM {ops : Array Oper} {o : Oper} {f : Nat} {args args1 args' : List AV} {res res1 : AV} {O O' : List Ob} {K : List Nat} {obs : List (Nat × Ob)} (hc : callF st o.op = some (f, args)) (hg : o.guard = none) (hdst : dstOk st o = true) (ho : AllP (o.op.operands.toList.flatMap (fun x => oblG none (st.ev x))))
    (hP : DoesM E.P f args' O res O') (hfa : frcL (AV.mapL (renG (posF (K.take O.length))) args) = some args1) (ha : AvIsL args1 args') (hd : nodupB K = true)
    (hv : ViewIs st.ob (posF (K.take O.length)) (K.take O.length) O) (hnew : (K.drop O.length).all (fun k => (st.ob k).isNone) = true) (hob : backF (renG (fun i => K[i]?)) K O' = some obs) (hres : frc (res.map (renG (fun i => K[i]?))) = some res1) :
    LocalM E ops o st ⟨res1, obs⟩ (fpK ops.toList o K) := by
  intro s' hag
  have hev := ev_agreeK hag
  have hK : ∀ k ∈ K, s'.ob k = st.ob k := fun k hk => hag.2.2.2.2 k hk
  refine StepTo.callM ((callF_congr hev).trans hc) hg (by simpa [dstOk, hag.2.1] using hdst) (by rw [obl_congr hev]; exact ho) hP hfa ha hd (hv.congr fun k hk => hK k (List.mem_of_mem_take hk)) ?_ hob hres
  rw [← hnew]
  exact all_congr fun k hk => by rw [hK k (List.mem_of_mem_drop hk)]
theorem LocalM.callMG {ops : Array Oper} {o : Oper} {j f : Nat} {pol g : Bool} {args args1 args' : List AV} {res res1 : AV} {O O' : List Ob} {K : List Nat} {obs : List (Nat × Ob)} (hc : callF st o.op = some (f, args)) (hg : o.guard = some (j, pol)) (hgv : gval st ops.toList j pol = some g) (hgt : g = true) (hdst : dstOk st o = true) (hda : ops.toList.all (dstOk st) = true)
    (ho : AllP (o.op.operands.toList.flatMap (fun x => oblG (some g) (st.ev x))))
    (hP : DoesM E.P f args' O res O') (hfa : frcL (AV.mapL (renG (posF (K.take O.length))) args) = some args1) (ha : AvIsL args1 args') (hd : nodupB K = true)
    (hv : ViewIs st.ob (posF (K.take O.length)) (K.take O.length) O) (hnew : (K.drop O.length).all (fun k => (st.ob k).isNone) = true) (hob : backF (renG (fun i => K[i]?)) K O' = some obs) (hres : frc (res.map (renG (fun i => K[i]?))) = some res1) :
    LocalM E ops o st ⟨res1, obs⟩ (fpK ops.toList o K) := by
  intro s' hag
  have hev := ev_agreeK hag
  have hK : ∀ k ∈ K, s'.ob k = st.ob k := fun k hk => hag.2.2.2.2 k hk
  have hda' : ops.toList.all (dstOk s') = true := by
    rw [← hda]
    exact all_congr fun z _ => by simp [dstOk, hag.2.1]
  refine StepTo.callMG ((callF_congr hev).trans hc) hg ((gval_agreeK hg hag).trans hgv) hgt (by simpa [dstOk, hag.2.1] using hdst) hda' (by rw [obl_congr hev]; exact ho) hP hfa ha hd (hv.congr fun k hk => hK k (List.mem_of_mem_take hk)) ?_ hob hres
  rw [← hnew]
  exact all_congr fun k hk => by rw [hK k (List.mem_of_mem_drop hk)]
theorem LocalM.skip {ops : Array Oper} {o : Oper} {j : Nat} {pol g : Bool} (x : AV) (hg : o.guard = some (j, pol)) (hgv : gval st ops.toList j pol = some g) (hgt : g = false) (hdst : dstOk st o = true) (hda : ops.toList.all (dstOk st) = true) : LocalM E ops o st ⟨.gd false x, []⟩ (fpK ops.toList o []) := by
  intro s' hag
  have hda' : ops.toList.all (dstOk s') = true := by
    rw [← hda]
    exact all_congr fun z _ => by simp [dstOk, hag.2.1]
  exact StepTo.skip x hg ((gval_agreeK hg hag).trans hgv) hgt (by simpa [dstOk, hag.2.1] using hdst) hda'
end
section
variable {E : Env} {Q : Exit → ST → Prop} {ops : Array Oper} {o : Oper} {rest : List Oper} {f d : Nat} {args args1 args' : List AV} {res res1 : AV} {O O' : List Ob} {K : List Nat} {obs : List (Nat × Ob)} {fr : Nat → AV} {ob : Nat → Option Ob} {nx nt : Nat} {md : Nat → Bool} {P : Program} {k : List It} {tr0 : List (EffM × (List Nat × List Nat))}
theorem XL.callM (K : List Nat) (hE : E.P = P) (hc : callF ⟨fr, ob, nx, nt, md⟩ o.op = some (f, args)) (hg : o.guard = none) (hds : o.dst = some d) (hdl : Nat.blt d nt = true) (ho : AllP (o.op.operands.toList.flatMap (fun x => oblG none (ST.ev ⟨fr, ob, nx, nt, md⟩ x))))
    (hP : DoesM P f args' O res O') (hfa : frcL (AV.mapL (renG (posF (K.take O.length))) args) = some args1) (ha : AvIsL args1 args') (hd : nodupB K = true)
    (hv : ViewIs ob (posF (K.take O.length)) (K.take O.length) O) (hnew : (K.drop O.length).all (fun k => (ob k).isNone) = true) (hob : backF (renG (fun i => K[i]?)) K O' = some obs) (hres : frc (res.map (renG (fun i => K[i]?))) = some res1)
    (h : XL E ops Q rest ⟨upd fr d res1, putAll ob obs, nx, nt, md⟩) : XL E ops Q (o :: rest) ⟨fr, ob, nx, nt, md⟩ := by
  refine XL.step (StepTo.callM hc hg (by simp [dstOk, hds, hdl]) ho (hE ▸ hP) hfa ha hd hv hnew hob hres) ?_
  rw [hds]; exact h
theorem XD.callM (K : List Nat) (hE : E.P = P) (hc : callF ⟨fr, ob, nx, nt, md⟩ o.op = some (f, args)) (hg : o.guard = none) (hds : o.dst = some d) (hdl : Nat.blt d nt = true) (ho : AllP (o.op.operands.toList.flatMap (fun x => oblG none (ST.ev ⟨fr, ob, nx, nt, md⟩ x))))
    (hP : DoesM P f args' O res O') (hfa : frcL (AV.mapL (renG (posF (K.take O.length))) args) = some args1) (ha : AvIsL args1 args') (hd : nodupB K = true)
    (hv : ViewIs ob (posF (K.take O.length)) (K.take O.length) O) (hnew : (K.drop O.length).all (fun k => (ob k).isNone) = true) (hob : backF (renG (fun i => K[i]?)) K O' = some obs) (hres : frc (res.map (renG (fun i => K[i]?))) = some res1)
    (h : XD E ops Q k (tr0 ++ [(⟨res1, obs⟩, fpK ops.toList o K)]) rest ⟨upd fr d res1, putAll ob obs, nx, nt, md⟩) : XD E ops Q k tr0 (o :: rest) ⟨fr, ob, nx, nt, md⟩ := by
  refine XD.stepM (LocalM.callM hc hg (by simp [dstOk, hds, hdl]) ho (hE ▸ hP) hfa ha hd hv hnew hob hres) ?_
  rw [hds]; exact h
/-- A guarded call that writes: with the guard's answer taken apart. -/
theorem XL.callMG {j : Nat} {pol g : Bool} (K : List Nat) (x : AV) (hE : E.P = P) (hc : callF ⟨fr, ob, nx, nt, md⟩ o.op = some (f, args)) (hg : o.guard = some (j, pol)) (hgv : gval ⟨fr, ob, nx, nt, md⟩ ops.toList j pol = some g) (hds : o.dst = some d) (hdl : Nat.blt d nt = true) (hda : ops.toList.all (dstOk ⟨fun _ => .junk, fun _ => none, nx, nt, md⟩) = true)
    (hf : g = false → XL E ops Q rest ⟨upd fr d (.gd false x), ob, nx, nt, md⟩)
    {obl' : List Prop} (hfo : frcP (o.op.operands.toList.flatMap (fun x => oblG (some g) (ST.ev ⟨fr, ob, nx, nt, md⟩ x))) = some obl') (ho : g = true → AllP obl')
    (hP : g = true → DoesM P f args' O res O') (hfa : frcL (AV.mapL (renG (posF (K.take O.length))) args) = some args1) (ha : AvIsL args1 args') (hd : nodupB K = true)
    (hv : g = true → ViewIs ob (posF (K.take O.length)) (K.take O.length) O) (hnew : (K.drop O.length).all (fun k => (ob k).isNone) = true) (hob : backF (renG (fun i => K[i]?)) K O' = some obs) (hres : frc (res.map (renG (fun i => K[i]?))) = some res1)
    (h : g = true → XL E ops Q rest ⟨upd fr d res1, putAll ob obs, nx, nt, md⟩) : XL E ops Q (o :: rest) ⟨fr, ob, nx, nt, md⟩ := by
  cases hgb : g with
  | false =>
    refine XL.step (StepTo.skip x hg hgv hgb (by simp [dstOk, hds, hdl]) hda) ?_
    rw [hds]; exact hf hgb
  | true =>
    refine XL.step (StepTo.callMG hc hg hgv hgb (by simp [dstOk, hds, hdl]) hda (frcP_eq hfo ▸ ho hgb) (hE ▸ hP hgb) hfa ha hd (hv hgb) hnew hob hres) ?_
    rw [hds]; exact h hgb
theorem XD.callMG {j : Nat} {pol g : Bool} (K : List Nat) (x : AV) (hE : E.P = P) (hc : callF ⟨fr, ob, nx, nt, md⟩ o.op = some (f, args)) (hg : o.guard = some (j, pol)) (hgv : gval ⟨fr, ob, nx, nt, md⟩ ops.toList j pol = some g) (hds : o.dst = some d) (hdl : Nat.blt d nt = true) (hda : ops.toList.all (dstOk ⟨fun _ => .junk, fun _ => none, nx, nt, md⟩) = true)
    (hf : g = false → XD E ops Q k (tr0 ++ [(⟨.gd false x, []⟩, fpK ops.toList o [])]) rest ⟨upd fr d (.gd false x), ob, nx, nt, md⟩)
    {obl' : List Prop} (hfo : frcP (o.op.operands.toList.flatMap (fun x => oblG (some g) (ST.ev ⟨fr, ob, nx, nt, md⟩ x))) = some obl') (ho : g = true → AllP obl')
    (hP : g = true → DoesM P f args' O res O') (hfa : frcL (AV.mapL (renG (posF (K.take O.length))) args) = some args1) (ha : AvIsL args1 args') (hd : nodupB K = true)
    (hv : g = true → ViewIs ob (posF (K.take O.length)) (K.take O.length) O) (hnew : (K.drop O.length).all (fun k => (ob k).isNone) = true) (hob : backF (renG (fun i => K[i]?)) K O' = some obs) (hres : frc (res.map (renG (fun i => K[i]?))) = some res1)
    (h : g = true → XD E ops Q k (tr0 ++ [(⟨res1, obs⟩, fpK ops.toList o K)]) rest ⟨upd fr d res1, putAll ob obs, nx, nt, md⟩) : XD E ops Q k tr0 (o :: rest) ⟨fr, ob, nx, nt, md⟩ := by
  cases hgb : g with
  | false =>
    refine XD.stepM (LocalM.skip x hg hgv hgb (by simp [dstOk, hds, hdl]) hda) ?_
    rw [hds]; exact hf hgb
  | true =>
    refine XD.stepM (LocalM.callMG hc hg hgv hgb (by simp [dstOk, hds, hdl]) hda (frcP_eq hfo ▸ ho hgb) (hE ▸ hP hgb) hfa ha hd (hv hgb) hnew hob hres) ?_
    rw [hds]; exact h hgb
end
/-- The objects K of a state, their names turned, written out. -/
def obsF (ob : Nat → Option Ob) (g : AV → AV) : List Nat → Option (List Ob)
  | [] => some []
  | k :: K => match ob k with
    | some o => (match frcO (o.map g), obsF ob g K with
      | some o', some l => some (o' :: l)
      | _, _ => none)
    | none => none
theorem obsF_ok {ob : Nat → Option Ob} {g : AV → AV} : ∀ {K : List Nat} {l : List Ob}, obsF ob g K = some l → ∀ i : Nat, l[i]? = match K[i]? with
    | some k => (ob k).map (Ob.map g)
    | none => none
  | [], l, h, i => by simp [obsF] at h; subst h; simp
  | k :: K, l, h, i => by
    simp only [obsF] at h
    split at h
    · rename_i o ho
      split at h
      · rename_i o' l' h1 h2
        injection h with h
        subst h
        have := frcO_eq h1
        subst this
        match i with
        | 0 => simp [ho]
        | i + 1 => simpa using obsF_ok h2 i
      · cases h
    · cases h
/-- Objects that follow from others, place by place. -/
def ObAll : List Ob → List Ob → Prop
  | [], [] => True
  | [o], [o'] => ObIs1 (some o) o'
  | o :: l, o' :: l' => ObIs1 (some o) o' ∧ ObAll l l'
  | _, _ => False
theorem ObAll.at_ : ∀ {l l' : List Ob}, ObAll l l' → l.length = l'.length ∧ ∀ (i : Nat) (o o' : Ob), l[i]? = some o → l'[i]? = some o' → ObIs1 (some o) o'
  | [], [], _ => ⟨rfl, fun i o o' h => by simp at h⟩
  | [x], [y], h => ⟨rfl, fun i o o' h1 h2 => by
    match i with
    | 0 => simp at h1 h2; subst h1 h2; exact h
    | i + 1 => simp at h1⟩
  | x :: x2 :: l, y :: y2 :: l', h => by
    obtain ⟨h1, h2⟩ := ObAll.at_ (l := x2 :: l) (l' := y2 :: l') h.2
    refine ⟨by simpa using h1, fun i x' y' g1 g2 => ?_⟩
    match i with
    | 0 => simp at g1 g2; subst g1 g2; exact h.1
    | i + 1 => exact h2 i x' y' (by simpa using g1) (by simpa using g2)
  | [x], y :: y2 :: l', h => False.elim h.2
  | x :: x2 :: l, [y], h => by
    have := h.2
    cases l <;> simp [ObAll] at this
/-- The end, with the objects to hand back named in their order. -/
theorem RetM.of {E : Env} {e : Exit} {fr : Nat → AV} {ob : Nat → Option Ob} {nx nt n : Nat} {md : Nat → Bool} {T : TE} {rs : List ResultVar} {res x x' : AV} {O1 O' : List Ob} (hee : e = .normal ∨ e = .ret) (L : List Nat) (hN : E.N = n) (hd : nodupB L = true) (hn : (List.range n).all (fun i => match L[i]? with
    | some k => Nat.beq k i
    | none => false) = true) (hO : obsF ob (renG (posF L)) L = some O1) (hOO : ObAll O1 O') (h : retF T ⟨fun j => (fr j).map (renG (posF L)), obL O', nx, nt, md⟩ rs = some x) (hf : frc x = some x') (he : AvIs x' res) : RetM E T rs res O' e ⟨fr, ob, nx, nt, md⟩ := by
  have e1 := frc_eq hf
  subst e1
  refine ⟨hee, ⟨fun j => (fr j).map (renG (posF L)), obL O', nx, nt, md⟩, _, Weak.trans (Weak.ren L hN hd hn) ?_, h, he, rfl⟩
  have hob : (ST.ren ⟨fr, ob, nx, nt, md⟩ L).ob = obL O1 := funext fun i => (obsF_ok hO i).symm
  obtain ⟨hl, hat⟩ := hOO.at_
  intro a w ⟨ρ, h⟩
  refine ⟨ρ, h.keep, h.tsz, h.dfr, h.fr, fun k o ho => ?_, fun k ho => ?_, h.dis, h.own, h.le⟩
  · have hlt : k < O1.length := by
      have := (List.getElem?_eq_some_iff.1 ho).1
      omega
    have h1 : O1[k]? = some O1[k] := List.getElem?_eq_getElem hlt
    exact ObIs1.ok (hat k _ o h1 ho) (h.ob k _ (by rw [hob]; exact h1))
  · refine h.no k ?_
    rw [hob]
    have ho : O'[k]? = none := ho
    show O1[k]? = none
    simp at ho ⊢
    omega
theorem XK.outR {E : Env} {fr : Nat → AV} {ob : Nat → Option Ob} {nx nt n : Nat} {md : Nat → Bool} {k : List It} {T : TE} {rs : List ResultVar} {res x x' : AV} {O1 O' : List Ob} (L : List Nat) (hN : E.N = n) (hd : nodupB L = true) (hn : (List.range n).all (fun i => match L[i]? with
    | some k => Nat.beq k i
    | none => false) = true) (hO : obsF ob (renG (posF L)) L = some O1) (hOO : ObAll O1 O') (h : retF T ⟨fun j => (fr j).map (renG (posF L)), obL O', nx, nt, md⟩ rs = some x) (hf : frc x = some x') (he : AvIs x' res) : XK E (.code .ret :: k) (RetM E T rs res O') ⟨fr, ob, nx, nt, md⟩ :=
  XK.ret (RetM.of (.inr rfl) L hN hd hn hO hOO h hf he)
theorem XK.outRN {E : Env} {fr : Nat → AV} {ob : Nat → Option Ob} {nx nt n : Nat} {md : Nat → Bool} {T : TE} {rs : List ResultVar} {res x x' : AV} {O1 O' : List Ob} (L : List Nat) (hN : E.N = n) (hd : nodupB L = true) (hn : (List.range n).all (fun i => match L[i]? with
    | some k => Nat.beq k i
    | none => false) = true) (hO : obsF ob (renG (posF L)) L = some O1) (hOO : ObAll O1 O') (h : retF T ⟨fun j => (fr j).map (renG (posF L)), obL O', nx, nt, md⟩ rs = some x) (hf : frc x = some x') (he : AvIs x' res) : XK E [] (RetM E T rs res O') ⟨fr, ob, nx, nt, md⟩ :=
  XK.nil (RetM.of (.inl rfl) L hN hd hn hO hOO h hf he)
/-- Object k, a block of cells, is frozen. -/
def frozenCG (k : Nat) (cs : List AV) : AV → AV
  | .ptr j off => bif Nat.beq j k then .rptr (cs.drop off) else .ptr j off
  | .mp j => bif Nat.beq j k then .junk else .mp j
  | x => x
def ST.frozenC (st : ST) (k : Nat) (cs : List AV) : ST := { st with fr := fun j => (st.fr j).map (frozenCG k cs), ob := upd (fun j => (st.ob j).map (Ob.map (frozenCG k cs))) k none }
theorem Sub.frozenC {E : Env} {st : ST} {k t m : Nat} {cs : List AV} (hN : E.N = m) (hk : st.ob k = some (.cells t cs)) (hks : AV.ksL (fun _ => false) cs = true) (hs : Nat.ble m k = true) : Sub E st (st.frozenC k cs) := by
  intro a w ρ h
  obtain ⟨g, arr, hg, hh, hsz, hr⟩ := h.ob k _ hk
  have hsub : ∀ j x b, upd ρ k none j = some x → x.block = some b → j ≠ k ∧ ρ j = some x := by
    intro j x b hj hb
    by_cases hjk : j = k
    · subst hjk; rw [upd_same] at hj; cases hj
    · rw [upd_other _ _ hjk] at hj; exact ⟨hjk, hj⟩
  have hG : ∀ b, E.good w ρ b → E.good w (upd ρ k none) b := fun b ⟨h0, hlt, hno⟩ => ⟨h0, hlt, fun j y hj hy => hno j y (hsub j y b hj hy).2 hy⟩
  have hne : ∀ {j : Nat} {s : Nat} {hv : Value}, ρ j = some (.hdr s hv) → j ≠ k := fun {j s hv} hj e => by
    subst e
    rw [hg] at hj; injection hj with hj; cases hj
  have leaf : ∀ x v, x.isName = true → R w (E.good w ρ) ρ x v → R w (E.good w (upd ρ k none)) (upd ρ k none) (frozenCG k cs x) v := by
    intro x v hx hxv
    cases hxv with
    | @ptr _ j off g' hj =>
      simp only [frozenCG]
      cases hb : Nat.beq j k with
      | false => exact .ptr ((upd_other _ _ fun e => by subst e; simp at hb).trans hj)
      | true =>
        have := Nat.eq_of_beq_eq_true hb
        subst this
        rw [hg] at hj
        injection hj with hj
        injection hj with hj
        subst hj
        rw [cond_true]
        have hc := (h.objCells hk hg).drop off
        rw [Addr.add_lit, Nat.zero_add] at hc
        refine R.rptr_mk ⟨.inr (h.own j _ g hg rfl), h.lt hg rfl, fun j' y hj' hy => ?_⟩ fun i y hy => ?_
        · obtain ⟨hn, hj2⟩ := hsub j' y g hj' hy
          exact hn (h.dis j' j y _ g hj2 hg hy rfl)
        · obtain ⟨u, h1, h2⟩ := hc i y hy
          refine ⟨u, h1, ?_⟩
          have hkk : y.ks (fun _ => false) = true := AV.ksL_at hks (by
            rw [List.getElem?_drop] at hy
            exact hy)
          exact (h2.free (ρ' := Rho.none) hkk).tr (fun b hb => ⟨hG b hb, rfl⟩) _ (Le.refl _)
    | vptr hj hi => exact .vptr ((upd_other _ _ (hne hj)).trans hj) hi
    | @mp _ j g' hj =>
      simp only [frozenCG]
      cases hb : Nat.beq j k with
      | false => exact .mp ((upd_other _ _ fun e => by subst e; simp at hb).trans hj)
      | true => exact .junk
    | vptrOld hj hlt => exact .vptrOld ((upd_other _ _ (hne hj)).trans hj) hlt
    | vec hj => exact .vec ((upd_other _ _ (hne hj)).trans hj)
    | vecOld hj hlt => exact .vecOld ((upd_other _ _ (hne hj)).trans hj) hlt
    | junk => cases hx
    | c => cases hx
    | agg => cases hx
    | tup => cases hx
    | rptr => cases hx
    | rs => cases hx
    | fn => cases hx
    | gd => cases hx
  refine ⟨upd ρ k none, h.conv rfl (fun _ => rfl) leaf (fun j o hj => ?_) (fun j hj => ?_) (fun j x b hj hb => ⟨x, (hsub j x b hj hb).2, hb⟩) (fun j hj x hx => ?_), fun j x hj => ?_⟩
  · by_cases hjk : j = k
    · subst hjk; simp only [ST.frozenC, upd_same] at hj; cases hj
    · simp only [ST.frozenC, upd_other _ _ hjk, Option.map_eq_some_iff] at hj
      obtain ⟨o', ho', rfl⟩ := hj
      exact (h.ob j o' ho').map hG leaf (upd_other _ _ hjk)
  · by_cases hjk : j = k
    · subst hjk; rw [upd_same]
    · simp only [ST.frozenC, upd_other _ _ hjk, Option.map_eq_none_iff] at hj
      rw [upd_other _ _ hjk]; exact h.no j hj
  · have : j ≠ k := fun e => by
      subst e
      have := Nat.le_of_ble_eq_true hs
      omega
    rw [upd_other _ _ this]; exact h.le j hj x hx
  · by_cases hjk : j = k
    · subst hjk; rw [upd_same] at hj; cases hj
    · rw [upd_other _ _ hjk] at hj; exact hj
theorem Weak.frozenC {E : Env} {st : ST} {k t m : Nat} {cs : List AV} (hN : E.N = m) (hk : st.ob k = some (.cells t cs)) (hks : AV.ksL (fun _ => false) cs = true) (hs : Nat.ble m k = true) : Weak E st (st.frozenC k cs) := (Sub.frozenC hN hk hks hs).weak
/-- A call that may hand back new objects, and only looks at others of the call's own: these are seen as in st1. -/
theorem XL.callMB {E : Env} {Q : Exit → ST → Prop} {ops : Array Oper} {o : Oper} {rest : List Oper} {f d : Nat} {args args1 args' : List AV} {res res1 : AV} {O O' : List Ob} {obs : List (Nat × Ob)} {fr : Nat → AV} {ob : Nat → Option Ob} {nx nt : Nat} {md : Nat → Bool} {P : Program}
    (K : List Nat) (st1 : ST) (hsub : Sub E ⟨fr, ob, nx, nt, md⟩ st1) (hE : E.P = P) (hc : callF st1 o.op = some (f, args)) (hg : o.guard = none) (hds : o.dst = some d) (hdl : Nat.blt d nt = true) (ho : AllP (o.op.operands.toList.flatMap (fun x => oblG none (st1.ev x))))
    (hP : DoesM P f args' O res O') (hbare : res.bare = true) (hbareO : ∀ o ∈ O', o.Bare) (hfa : frcL (AV.mapL (renG (posF (K.take O.length))) args) = some args1) (ha : AvIsL args1 args') (hd : nodupB K = true)
    (hv : ViewIs st1.ob (posF (K.take O.length)) (K.take O.length) O) (hnew : (K.drop O.length).all (fun k => (ob k).isNone) = true) (hob : backF (renG (fun i => K[i]?)) K O' = some obs) (hres : frc (res.map (renG (fun i => K[i]?))) = some res1)
    (h : XL E ops Q rest ⟨upd fr d res1, putAll ob obs, nx, nt, md⟩) : XL E ops Q (o :: rest) ⟨fr, ob, nx, nt, md⟩ := by
  subst hE
  have hfa := frcL_eq hfa
  have hres := frc_eq hres
  subst hfa hres
  obtain ⟨hl, hat⟩ := ha.at
  rw [AV.mapL_length] at hl
  refine XL.step (st' := ⟨upd fr d (res.map (renG (fun i => K[i]?))), putAll ob obs, nx, nt, md⟩) ?_ h
  intro a w ⟨ρ, h⟩ Q
  obtain ⟨ρ1, h1, hs1⟩ := hsub a w ρ h
  rw [if_pos (by simp [Region.wanted, hg])]
  obtain ⟨vs, g1, g2, g3⟩ := call_run h1 hc (fun g e => by cases e) (AllP.mem ho) hP.1
  refine wpIn_run g1 (fun _ e => by cases e) ⟨(fun e => by cases e), Calls.fw ?_ _ _⟩
  refine h.calledMB h1 hs1 hP (.inr ⟨hbare, hbareO⟩) hd hv hnew hob (by omega) (fun i y hy => ?_) (next := fun _ _ => True) (Q' := fun _ _ _ => True) fun v w' ρ' hm hle hG hr => ?_
  · have hlt : i < args.length := by
      have := (List.getElem?_eq_some_iff.1 hy).1
      omega
    have hx := List.getElem?_eq_getElem hlt
    exact ⟨_, g3 i _ hx, hat i _ y (mapL_at hx) hy⟩
  · have h0 : SatR E ⟨fr, putAll ob obs, nx, nt, md⟩ a w' ρ' := ⟨hm.keep, h.tsz, h.dfr.tr hG, fun k => (h.fr k).tr hG _ hle, hm.ob, hm.no, hm.dis, hm.own, hm.le⟩
    refine ⟨ρ', ?_⟩
    rw [hds]
    exact h0.put (Nat.lt_of_succ_le (Nat.le_of_ble_eq_true hdl)) hr
/-- A contract of a function that only looks, as one that writes nothing. -/
theorem Does.toM {P : Program} {f : FuncId} {args : List AV} {res : AV} (h : Does P f args res) (hk : AV.ksL (fun _ => false) args = true) : DoesM P f args [] res [] := by
  refine ⟨h.1, Nat.le_refl _, fun w G r vs hs hG hm hr => ?_⟩
  have hr0 : ∀ i, r i = none := fun i => hm.no i (by simp [obL])
  have hG' : ∀ b, G b → b < w.heap.size := fun b hb => (hG b hb).2.1
  refine (h.2 w ((Env.at_ P w G 0 r).good w r) vs hs (fun b hb => hb.2.1) (fun i x hx => (hr i x hx).free (AV.ksL_at hk hx))).mono ?_
  rintro e w' ⟨v, rfl, hkeep, hv⟩
  refine ⟨v, r, rfl, ⟨⟨hkeep.os, hkeep.tape, hkeep.output, hkeep.size, fun b h1 _ => hkeep.block b h1 id, hkeep.drawn⟩, (fun k o ho => by simp [obL] at ho), fun k _ => hr0 k, (fun k k' x x' b h1 => by rw [hr0 k] at h1; cases h1), (fun k x b h1 => by rw [hr0 k] at h1; cases h1), fun k hk => absurd hk (Nat.not_lt_zero k)⟩, ?_⟩
  refine hv.tr (fun b hb => ⟨?_, rfl⟩) _ (Le.none _)
  rcases hb with ⟨h1, h2, h3⟩ | ⟨h1, h2⟩
  · exact ⟨h1, Nat.lt_of_lt_of_le h2 hkeep.size, h3⟩
  · exact ⟨.inr (.inl h1), h2, (fun k x h1 => by rw [hr0 k] at h1; cases h1)⟩
end Go.Eng
end
section
/- The engine, part W: comparing with nil; steps with an equation at hand; families of rows that a map holds. -/
namespace Go.Eng
set_option linter.unusedVariables false
section
variable {E : Env} {Q : Exit → ST → Prop} {k : List It} {ops : Array Oper} {o : Oper} {rest : List Oper} {fr : Nat → AV} {ob : Nat → Option Ob} {nx nt : Nat} {md : Nat → Bool} {T : TE} {tr0 : List (EffM × (List Nat × List Nat))}
/-- A frozen slice held against nil. -/
theorem XL.nilEq (hT : TOk E.P T) {d t ty sz n : Nat} {x : Operand} {f : Nat → List AV} (hop : o.op = .binOp .eql t x (.const (.slice none 0 0)) ty) (ht : (match T.find t with | some ti => (match ti.kind with | .slice _ => true | _ => false) | none => false) = true)
    (hx : ST.ev ⟨fr, ob, nx, nt, md⟩ x = .rs sz n f) (hg : o.guard = none) (hds : o.dst = some d) (hdl : Nat.blt d nt = true)
    (h : ∀ b : Bool, (b = true → n = 0) → XL E ops Q rest ⟨upd fr d (.c (.bool b)), ob, nx, nt, md⟩) : XL E ops Q (o :: rest) ⟨fr, ob, nx, nt, md⟩ := by
  intro a w ⟨ρ, hs⟩
  have hxr := hs.ev x
  rw [hx] at hxr
  obtain ⟨A, cap, hv, -, -, -, hA⟩ := hxr.rs_inv
  obtain ⟨e, he⟩ : ∃ e, E.P.underlying t = some (.slice e) := by
    split at ht
    · rename_i ti hti
      have hk := (hT t ti hti).kind
      split at ht
      · rename_i e hke; rw [hke] at hk; exact ⟨e, hk⟩
      · cases ht
    · cases ht
  have hb : (A.isNone = true → n = 0) := fun hA' => by
    rcases Nat.eq_zero_or_pos n with h0 | h0
    · exact h0
    · obtain ⟨a', rfl, _⟩ := hA h0; cases hA'
  have hrun : (execOp a.eval o).run E.P w = .ok (.value (.bool A.isNone)) w := by
    have : (Op.equal t (.slice A n cap) (.slice none 0 0)).run E.P w = .ok A.isNone w := by
      unfold Op.equal Op.maxDepth Op.equalIn
      cases A <;> simp [run_underlying he]
    simp only [execOp, hop, hv]
    simp [eqGuard, binOp, this, Act.eval]
  have hd : d < nt := Nat.lt_of_succ_le (Nat.le_of_ble_eq_true hdl)
  refine wpListIn_step fun K hK => ?_
  rw [if_pos (by simp [Region.wanted, hg])]
  refine wpIn_run hrun (fun _ e => by cases e) ?_
  refine hK _ _ (h A.isNone hb _ _ ⟨ρ, ?_⟩)
  rw [hds]
  exact hs.put hd .c
/-- A step whose value is known by an equation. -/
theorem XL.opE (hT : TOk E.P T) {d : Nat} {x y : AV} {obl obl' : List Prop} (hda : ops.toList.all (dstOk ⟨fun _ => .junk, fun _ => none, nx, nt, md⟩) = true) (hm : o ∈ ops.toList) (hs : stepF T ops.toList ⟨fr, ob, nx, nt, md⟩ o = some (obl, ⟨x, none⟩)) (hf : frcR obl [] = some obl') (ho : AllP obl') (hds : o.dst = some d) (hx : x = y)
    (h : XL E ops Q rest ⟨upd fr d y, ob, nx, nt, md⟩) : XL E ops Q (o :: rest) ⟨fr, ob, nx, nt, md⟩ := by
  subst hx
  have dk : ∀ o' ∈ ops.toList, dstOk ⟨fr, ob, nx, nt, md⟩ o' = true := fun o' ho' => List.all_eq_true.1 hda o' ho'
  refine XL.step (stepF_ok hT hs (AllP.memR hf ho) (dk o hm) (fun j pol o' d _ hj hdst => dstOk_lt (dk o' (Array.mem_toList_iff.2 (Array.mem_of_getElem? hj))) d hdst)) ?_
  simp only [ST.app, hds]
  exact h
theorem XD.opE (hT : TOk E.P T) {d : Nat} {x y : AV} {obl obl' : List Prop} (hda : ops.toList.all (dstOk ⟨fun _ => .junk, fun _ => none, nx, nt, md⟩) = true) (hm : ops.toList.drop (ops.toList.length - (o :: rest).length) = o :: rest) (hs : stepF T ops.toList ⟨fr, ob, nx, nt, md⟩ o = some (obl, ⟨x, none⟩)) (hf : frcR obl [] = some obl') (ho : AllP obl') (hds : o.dst = some d) (hx : x = y)
    (h : XD E ops Q k (tr0 ++ [(⟨y, []⟩, fpF ops.toList ⟨fr, ob, nx, nt, md⟩ o)]) rest ⟨upd fr d y, ob, nx, nt, md⟩) : XD E ops Q k tr0 (o :: rest) ⟨fr, ob, nx, nt, md⟩ := by
  subst hx
  have hmem : o ∈ ops.toList := by
    have : o ∈ ops.toList.drop (ops.toList.length - (o :: rest).length) := by rw [hm]; simp
    exact List.mem_of_mem_drop this
  refine XD.step (eff := ⟨x, none⟩) (Local.step hT hs (AllP.memR hf ho) hda hmem) ?_
  simp only [ST.app, hds]
  exact h
end
section
variable {E : Env} {T : TE} {Q : Exit → ST → Prop} {k : List It} {ops : Array Oper} {tr0 : List (EffM × (List Nat × List Nat))}
theorem XD.runN (hT : TOk E.P T) {l2 : List Oper} {nx nt : Nat} {md : Nat → Bool} (hd : ops.toList.all (dstOk ⟨fun _ => .junk, fun _ => none, nx, nt, md⟩) = true) : ∀ {l : List Oper} {acc : List Prop} {tr0 tr' : List (EffM × (List Nat × List Nat))} {fr fr' : Nat → AV} {ob ob' : Nat → Option Ob} {obl : List Prop} {rest : List Oper}, (∀ o ∈ l, o ∈ ops.toList) → runD T ops.toList nx nt md acc tr0 fr ob l = ⟨obl, tr', fr', ob', rest⟩ → (∀ p ∈ obl, p) →
    XD E ops Q k tr' (rest ++ l2) ⟨fr', ob', nx, nt, md⟩ → XD E ops Q k tr0 (l ++ l2) ⟨fr, ob, nx, nt, md⟩ ∧ ∀ p ∈ acc, p
  | [], acc, tr0, tr', fr, fr', ob, ob', obl, rest, _, hr, ho, h => by
    simp only [runD, RunD.mk.injEq] at hr
    obtain ⟨rfl, rfl, rfl, rfl, rfl⟩ := hr
    exact ⟨h, ho⟩
  | o :: l, acc, tr0, tr', fr, fr', ob, ob', obl, rest, hmem, hr, ho, h => by
    have stop : (⟨acc, tr0, fr, ob, o :: l⟩ : RunD) = ⟨obl, tr', fr', ob', rest⟩ → XD E ops Q k tr0 (o :: l ++ l2) ⟨fr, ob, nx, nt, md⟩ ∧ ∀ p ∈ acc, p := by
      intro hr
      simp only [RunD.mk.injEq] at hr
      obtain ⟨rfl, rfl, rfl, rfl, rfl⟩ := hr
      exact ⟨h, ho⟩
    have go : ∀ {ob1 : List Prop} {eff : Eff} {fr1 : Nat → AV} {obj1 : Nat → Option Ob}, stepF T ops.toList ⟨fr, ob, nx, nt, md⟩ o = some (ob1, eff) → (ST.app ⟨fr, ob, nx, nt, md⟩ o.dst eff) = ⟨fr1, obj1, nx, nt, md⟩ →
        (match ob1 with
          | [] => runD T ops.toList nx nt md acc (tr0 ++ [(eff.toM, fpF ops.toList ⟨fr, ob, nx, nt, md⟩ o)]) fr1 obj1 l
          | p :: ps => runD T ops.toList nx nt md (pushR (p :: ps) acc) (tr0 ++ [(eff.toM, fpF ops.toList ⟨fr, ob, nx, nt, md⟩ o)]) fr1 obj1 l) = ⟨obl, tr', fr', ob', rest⟩ → XD E ops Q k tr0 (o :: l ++ l2) ⟨fr, ob, nx, nt, md⟩ ∧ ∀ p ∈ acc, p := by
      intro ob1 eff fr1 obj1 hs he hr
      have fin : XD E ops Q k (tr0 ++ [(eff.toM, fpF ops.toList ⟨fr, ob, nx, nt, md⟩ o)]) (l ++ l2) ⟨fr1, obj1, nx, nt, md⟩ → (∀ p ∈ ob1, p) → XD E ops Q k tr0 (o :: l ++ l2) ⟨fr, ob, nx, nt, md⟩ := fun hx hp =>
        XD.step (Local.step hT hs hp hd (hmem o (by simp))) (he ▸ hx)
      cases ob1 with
      | nil =>
        obtain ⟨h1, h2⟩ := XD.runN hT hd (fun o' ho' => hmem o' (by simp [ho'])) hr ho h
        exact ⟨fin h1 (fun p hp => by cases hp), h2⟩
      | cons q qs =>
        obtain ⟨h1, h2⟩ := XD.runN hT hd (fun o' ho' => hmem o' (by simp [ho'])) hr ho h
        exact ⟨fin h1 (fun p hp => h2 p (mem_pushR.2 (.inl hp))), fun p hp => h2 p (mem_pushR.2 (.inr hp))⟩
    simp only [runD, stepN_eq] at hr
    split at hr
    · rename_i ob1 av eo hs
      split at hr
      · rename_i x d hx hd1
        have := frc_eq hx
        subst this
        exact go hs (by rw [hd1]; rfl) hr
      · rename_i x k o' d hx hd1
        have := frc_eq hx
        subst this
        split at hr
        · rename_i k2 o2 ho2
          obtain ⟨h1, h2⟩ := frcKO_eq ho2
          subst h1 h2
          exact go hs (by rw [hd1]; rfl) hr
        · exact stop hr
      · rename_i x k o' hx hd1
        have := frc_eq hx
        subst this
        split at hr
        · rename_i k2 o2 ho2
          obtain ⟨h1, h2⟩ := frcKO_eq ho2
          subst h1 h2
          exact go hs (by rw [hd1]; rfl) hr
        · exact stop hr
      · exact stop hr
    · exact stop hr
/-- The first n operations of what is left of a region that draws. -/
theorem XD.goN (n : Nat) (hT : TOk E.P T) {l l1 l2 : List Oper} {fr fr' : Nat → AV} {ob ob' : Nat → Option Ob} {nx nt : Nat} {md : Nat → Bool} {obl obl' : List Prop} (hd : ops.toList.all (dstOk ⟨fun _ => .junk, fun _ => none, nx, nt, md⟩) = true)
    (hm : ops.toList.drop (ops.toList.length - l.length) = l) (h1 : l.take n = l1) (h2 : l.drop n = l2) (hr : runF T ops.toList nx nt md [] fr ob l1 = ⟨obl, fr', ob', []⟩) (hf : frcR obl [] = some obl') (ho : AllP obl') (h : XD E ops Q k (runD T ops.toList nx nt md [] tr0 fr ob l1).tr l2 ⟨fr', ob', nx, nt, md⟩) : XD E ops Q k tr0 l ⟨fr, ob, nx, nt, md⟩ := by
  have hl : l = l1 ++ l2 := by rw [← h1, ← h2, List.take_append_drop]
  subst hl
  exact (XD.runN hT hd (fun _ h => List.mem_of_mem_drop (hm ▸ List.mem_append_left _ h)) ((runD_runF _ _ _ _ _).trans (by rw [hr])) (AllP.memR hf ho) h).1
end
/-- Both ways of an 'if' come to one state. -/
theorem XK.join {E : Env} {Q : Exit → ST → Prop} {st : ST} {k : List It} {c : Operand} {x y c' : Code} {b : Bool} (st' : ST) (hc : st.ev c = .c (.bool b)) (ht : b = true → XK E (.code x :: .inv (fun s => Weak E s st') :: .code c' :: k) Q st)
    (hf : b = false → XK E (.code y :: .inv (fun s => Weak E s st') :: .code c' :: k) Q st) (h : XK E (.code c' :: k) Q st') : XK E (.code (.cond c x y) :: .code c' :: k) Q st := by
  have go : ∀ {z : Code}, XK E (.code z :: .inv (fun s => Weak E s st') :: .code c' :: k) Q st → XK E (.code z :: .code c' :: k) Q st := by
    intro z hz
    refine XC.mono (E := E) hz fun e s hs => ?_
    cases e with
    | normal => exact XQ.weak (show Weak E s st' from hs) h
    | _ => exact hs
  exact XK.cond hc (fun hb => go (ht hb)) (fun hb => go (hf hb))
/-- Code that comes to one state. -/
theorem XK.meet {E : Env} {Q : Exit → ST → Prop} {st : ST} {k : List It} {x c' : Code} (st' : ST) (hx : XK E (.code x :: .inv (fun s => Weak E s st') :: .code c' :: k) Q st) (h : XK E (.code c' :: k) Q st') : XK E (.code x :: .code c' :: k) Q st := by
  refine XC.mono (E := E) hx fun e s hs => ?_
  cases e with
  | normal => exact XQ.weak (show Weak E s st' from hs) h
  | _ => exact hs
theorem SatR.convT {E : Env} {st : ST} {a : Act} {w : World} {ρ : Rho} (h : SatR E st a w ρ) {st' : ST} {ρ' : Rho} {g : AV → AV} (τ : Nat → Nat) (hnt : st'.nt = st.nt) (hfr : ∀ k, st'.fr k = (st.fr k).map g)
    (leaf : ∀ x v, x.isName = true → R w (E.good w ρ) ρ x v → R w (E.good w ρ') ρ' (g x) v) (hob : ∀ k o, st'.ob k = some o → ObOk w (E.good w ρ') ρ' k o) (hno : ∀ k, st'.ob k = none → ρ' k = none)
    (hsub : ∀ k x b, ρ' k = some x → x.block = some b → ∃ y, ρ (τ k) = some y ∧ y.block = some b) (hτ : ∀ j j' x x' b, ρ' j = some x → ρ' j' = some x' → x.block = some b → x'.block = some b → τ j = τ j' → j = j')
    (hle : ∀ k, k < E.N → ∀ x, E.r0 k = some x → ρ' k = some x ∨ ∃ s v s' v', x = .hdr s v ∧ ρ' k = some (.hdr s' v') ∧ s < s') : SatR E st' a w ρ' := by
  have hG : ∀ b, E.good w ρ b → E.good w ρ' b ∧ w.heap[b]? = w.heap[b]? := fun b ⟨h0, hlt, hno⟩ => ⟨⟨h0, hlt, fun j y hj hy => by
    obtain ⟨z, hz, hzb⟩ := hsub j y b hj hy
    exact hno _ z hz hzb⟩, rfl⟩
  refine ⟨h.keep, hnt ▸ h.tsz, h.dfr.tr hG, fun k => ?_, hob, hno, fun j j' y y' b hj hj' hy hy' => ?_, fun j y b hj hy => ?_, hle⟩
  · rw [hfr k]; exact (h.fr k).map hG leaf
  · obtain ⟨z, hz, hzb⟩ := hsub j y b hj hy
    obtain ⟨z', hz', hzb'⟩ := hsub j' y' b hj' hy'
    exact hτ j j' y y' b hj hj' hy hy' (h.dis _ _ z z' b hz hz' hzb hzb')
  · obtain ⟨z, hz, hzb⟩ := hsub j y b hj hy
    exact h.own _ z b hz hzb
/-- A row that was lent goes over into an own one, q; under its old name there is left a row without elements. -/
def stealG (k s q : Nat) : AV → AV
  | .vec j s' => bif Nat.beq j k then (bif Nat.beq s' s then .vec q 0 else .junk) else .vec j s'
  | .vptr j s' sz i off => bif Nat.beq j k then (bif Nat.beq s' s then .vptr q 0 sz i off else .junk) else .vptr j s' sz i off
  | x => x
def ST.steal (st : ST) (k s q : Nat) (o o' : Ob) : ST := { st with fr := fun j => (st.fr j).map (stealG k s q), ob := upd (upd (fun j => (st.ob j).map (Ob.map (stealG k s q))) k (some o')) q (some o) }
theorem Weak.steal {E : Env} {st : ST} (q : Nat) {k e sz s n m : Nat} {f f' : Nat → List AV} (hN : E.N = m) (hk : st.ob k = some (.vec e sz s n f)) (hq : st.ob q = none) (hqm : Nat.ble m q = true) :
    Weak E st (st.steal k s q (.vec e sz 0 n f) (.vec e sz (s + 1) 0 f')) := by
  rintro a w ⟨ρ, h⟩
  obtain ⟨hv, xs, hg, hown, hf, hr⟩ := h.ob k _ hk
  have hρq := h.no q hq
  have hkq : k ≠ q := fun e => by subst e; rw [hk] at hq; cases hq
  let ρ' : Rho := upd (upd ρ k (some (.hdr (s + 1) (.slice none 0 0)))) q (some (.hdr 0 hv))
  have e1 : ρ' q = some (.hdr 0 hv) := upd_same _ _ _
  have e2 : ρ' k = some (.hdr (s + 1) (.slice none 0 0)) := by simp only [ρ']; rw [upd_other _ _ hkq, upd_same]
  have e3 : ∀ j, j ≠ k → j ≠ q → ρ' j = ρ j := fun j h1 h2 => by simp only [ρ']; rw [upd_other _ _ h2, upd_other _ _ h1]
  have hcase : ∀ j x b, ρ' j = some x → x.block = some b → (j = q ∧ ρ k = some (.hdr s hv) ∧ (RV.hdr s hv).block = some b) ∨ (j ≠ k ∧ j ≠ q ∧ ρ j = some x) := by
    intro j x b hj hb
    by_cases h1 : j = q
    · subst h1; rw [e1] at hj; injection hj with hj; subst hj; exact .inl ⟨rfl, hg, hb⟩
    · by_cases h2 : j = k
      · subst h2; rw [e2] at hj; injection hj with hj; subst hj; cases hb
      · rw [e3 j h2 h1] at hj; exact .inr ⟨h2, h1, hj⟩
  have hG : ∀ b, E.good w ρ b → E.good w ρ' b := fun b ⟨h0, hlt, hno⟩ => ⟨h0, hlt, fun j y hj hy => by
    rcases hcase j y b hj hy with ⟨_, h1, h2⟩ | ⟨_, _, h1⟩
    · exact hno k _ h1 h2
    · exact hno j y h1 hy⟩
  have leaf : ∀ x v, x.isName = true → R w (E.good w ρ) ρ x v → R w (E.good w ρ') ρ' (stealG k s q x) v := by
    intro x v hx hxv
    have ne : ∀ {j : Nat} {y : RV}, ρ j = some y → j ≠ q := fun hj e => by subst e; rw [hρq] at hj; cases hj
    cases hxv with
    | @ptr _ j off g hj =>
      refine .ptr ((e3 j (fun e => ?_) (ne hj)).trans hj)
      subst e
      rw [hg] at hj; injection hj with hj; cases hj
    | @mp _ j g hj =>
      refine .mp ((e3 j (fun e => ?_) (ne hj)).trans hj)
      subst e
      rw [hg] at hj; injection hj with hj; cases hj
    | @vptr _ j s' sz' i off g n' cap hj hi =>
      simp only [stealG]
      cases hb : Nat.beq j k with
      | false => exact .vptr ((e3 j (fun e => by subst e; simp at hb) (ne hj)).trans hj) hi
      | true =>
        have := Nat.eq_of_beq_eq_true hb
        subst this
        simp only [cond_true]
        cases hb2 : Nat.beq s' s with
        | false => exact .junk
        | true =>
          rw [hg] at hj
          injection hj with hj
          injection hj with h1 h2
          subst h2
          exact .vptr e1 hi
    | @vptrOld _ j s1 s2 sz' i off hv' v' hj hlt =>
      simp only [stealG]
      cases hb : Nat.beq j k with
      | false => exact .vptrOld ((e3 j (fun e => by subst e; simp at hb) (ne hj)).trans hj) hlt
      | true =>
        have := Nat.eq_of_beq_eq_true hb
        subst this
        rw [hg] at hj
        injection hj with hj
        injection hj with h1 h2
        subst h1
        simp only [cond_true]
        cases hb2 : Nat.beq s1 s with
        | true => have := Nat.eq_of_beq_eq_true hb2; omega
        | false => exact .junk
    | @vec _ j s' hv' hj =>
      simp only [stealG]
      cases hb : Nat.beq j k with
      | false => exact .vec ((e3 j (fun e => by subst e; simp at hb) (ne hj)).trans hj)
      | true =>
        have := Nat.eq_of_beq_eq_true hb
        subst this
        rw [hg] at hj
        injection hj with hj
        injection hj with h1 h2
        subst h1 h2
        simp only [cond_true]
        cases hb2 : Nat.beq s s with
        | false => exact .junk
        | true => exact .vec e1
    | @vecOld _ j s1 s2 hv' v' hj hlt =>
      simp only [stealG]
      cases hb : Nat.beq j k with
      | false => exact .vecOld ((e3 j (fun e => by subst e; simp at hb) (ne hj)).trans hj) hlt
      | true =>
        have := Nat.eq_of_beq_eq_true hb
        subst this
        rw [hg] at hj
        injection hj with hj
        injection hj with h1 h2
        subst h1
        simp only [cond_true]
        cases hb2 : Nat.beq s1 s with
        | true => have := Nat.eq_of_beq_eq_true hb2; omega
        | false => exact .junk
    | _ => simp [AV.isName] at hx
  refine ⟨ρ', h.convT (g := stealG k s q) (fun j => if j = q then k else j) rfl (fun _ => rfl) leaf (fun j o ho => ?_) (fun j ho => ?_) (fun j x b hj hb => ?_) (fun j j' x x' b hj hj' hb hb' ht => ?_) fun j hj x hx => ?_⟩
  · simp only [ST.steal] at ho
    by_cases h1 : j = q
    · subst h1
      rw [upd_same] at ho
      injection ho with ho
      subst ho
      exact ⟨hv, xs, e1, hown, hf, fun i jj x hi hx => (hr i jj x hi hx).tr (fun b hb => ⟨hG b hb, rfl⟩) _ (Le.refl _)⟩
    · rw [upd_other _ _ h1] at ho
      by_cases h2 : j = k
      · subst h2
        rw [upd_same] at ho
        injection ho with ho
        subst ho
        exact ⟨.slice none 0 0, [], e2, ⟨by simp, .inl ⟨rfl, rfl⟩⟩, (fun i hi => absurd hi (by omega)), fun i j x hi => absurd hi (by omega)⟩
      · rw [upd_other _ _ h2] at ho
        simp only [Option.map_eq_some_iff] at ho
        obtain ⟨o1, ho1, rfl⟩ := ho
        exact (h.ob j o1 ho1).map hG leaf (e3 j h2 h1)
  · simp only [ST.steal] at ho
    by_cases h1 : j = q
    · subst h1; rw [upd_same] at ho; cases ho
    · rw [upd_other _ _ h1] at ho
      by_cases h2 : j = k
      · subst h2; rw [upd_same] at ho; cases ho
      · rw [upd_other _ _ h2] at ho
        rw [e3 j h2 h1]
        exact h.no j (by simpa using ho)
  · rcases hcase j x b hj hb with ⟨rfl, h1, h2⟩ | ⟨h1, h2, h3⟩
    · exact ⟨_, by rw [if_pos rfl]; exact h1, h2⟩
    · exact ⟨x, by rw [if_neg h2]; exact h3, hb⟩
  · rcases hcase j x b hj hb with ⟨rfl, _, _⟩ | ⟨h1, h2, _⟩ <;> rcases hcase j' x' b hj' hb' with ⟨rfl, _, _⟩ | ⟨h1', h2', _⟩
    · rfl
    · rw [if_pos rfl, if_neg h2'] at ht; exact absurd ht.symm h1'
    · rw [if_pos rfl, if_neg h2] at ht; exact absurd ht h1
    · rwa [if_neg h2, if_neg h2'] at ht
  · have hjq : j ≠ q := fun e => by have := Nat.le_of_ble_eq_true hqm; omega
    by_cases h2 : j = k
    · subst h2
      rcases h.le j hj x hx with h1 | ⟨s0, v0, s1, v1, h1, h3, h4⟩
      · rw [hg] at h1; injection h1 with h1; exact .inr ⟨s, hv, s + 1, _, h1.symm, e2, Nat.lt_succ_self s⟩
      · rw [hg] at h3; injection h3 with h3; injection h3 with h3 _; exact .inr ⟨s0, v0, s + 1, _, h1, e2, by omega⟩
    · rw [e3 j h2 hjq]; exact h.le j hj x hx
/- What says less, down to the elements of slices. -/
def AvS (x y : AV) : Prop := ∀ w G ρ v, R w G ρ x v → R w G ρ y v
def AvSL : List AV → List AV → Prop
  | [], [] => True
  | x :: l, y :: l' => AvS x y ∧ AvSL l l'
  | _, _ => False
theorem AvS.refl (x : AV) : AvS x x := fun _ _ _ _ h => h
theorem AvS.eq {x y : AV} (h : x = y) : AvS x y := h ▸ AvS.refl x
theorem AvSL.refl : ∀ l, AvSL l l
  | [] => trivial
  | x :: l => ⟨AvS.refl x, AvSL.refl l⟩
theorem AvSL.at_ : ∀ {l l' : List AV}, AvSL l l' → l.length = l'.length ∧ ∀ (i : Nat) (y : AV), l'[i]? = some y → ∃ x, l[i]? = some x ∧ AvS x y
  | [], [], _ => ⟨rfl, fun i y h => by simp at h⟩
  | x :: l, y :: l', h => by
    obtain ⟨h1, h2⟩ := AvSL.at_ h.2
    refine ⟨by simp [h1], fun i z hz => ?_⟩
    cases i with
    | zero => simp at hz; subst hz; exact ⟨x, rfl, h.1⟩
    | succ i => exact h2 i z (by simpa using hz)
  | [], _ :: _, h => h.elim
  | _ :: _, [], h => h.elim
theorem AvS.nil {sz : Nat} {f : Nat → List AV} : AvS (.c (.slice none 0 0)) (.rs sz 0 f) := by
  intro w G ρ v h
  rw [h.c_inv]
  exact .rs (fun _ _ => undef) (Nat.le_refl _) (Nat.zero_le _) (fun h => absurd h (by simp)) (fun i hi => absurd hi (by simp)) (fun i j x hi => absurd hi (by simp))
theorem AvS.agg {l l' : List AV} (h : AvSL l l') : AvS (.agg l) (.agg l') := by
  intro w G ρ v hv
  obtain ⟨h1, h2⟩ := h.at_
  obtain ⟨cs, rfl, hs, hc⟩ := hv.agg_inv
  refine .agg (by omega) fun i y hy => ?_
  obtain ⟨x, hx, hxy⟩ := h2 i y hy
  exact hxy _ _ _ _ (hc i x hx)
theorem AvS.rs {sz n : Nat} {f f' : Nat → List AV} (h : ∀ i, i < n → AvSL (f i) (f' i)) : AvS (.rs sz n f) (.rs sz n f') := by
  intro w G ρ v hv
  cases hv with
  | rs val hn hm hc hl hr =>
    refine .rs val hn hm hc (fun i hi => by rw [← ((h i hi).at_).1]; exact hl i hi) fun i j y hi hy => ?_
    obtain ⟨x, hx, hxy⟩ := (h i hi).at_.2 j y hy
    exact hxy _ _ _ _ (hr i j x hi hx)
theorem Does.weaken {P : Program} {f : FuncId} {args : List AV} {res res' : AV} (h : Does P f args res) (hr : AvS res res') : Does P f args res' :=
  ⟨h.1, fun w G vs hs hG ha => (h.2 w G vs hs hG ha).mono fun e w' ⟨v, h1, h2, h3⟩ => ⟨v, h1, h2, hr _ _ _ _ h3⟩⟩
theorem Does.argS {P : Program} {f : FuncId} {args args' : List AV} {res : AV} (h : Does P f args res) (ha : AvSL args' args) : Does P f args' res :=
  ⟨h.1, fun w G vs hs hG hx => h.2 w G vs (by rw [← ha.at_.1]; exact hs) hG fun i y hy => by
    obtain ⟨x, hx', hxy⟩ := ha.at_.2 i y hy
    exact hxy _ _ _ _ (hx i x hx')⟩
/- Families of rows. -/
def obF (B e sz : Nat) (F : Nat → Nat × (Nat → List AV)) (O : List (Nat × Ob)) : Nat → Option Ob := fun j => bif Nat.ble B j then some (.vec e sz 0 (F (j - B)).1 (F (j - B)).2) else mkOb O j
/-- The map, its entries named as rows of the family. -/
def mapF (B : Nat) (kk : KK) (d : Value → Bool) (enc : Value → Nat) : Ob := .mapo kk (.slice none 0 0) d (fun v => .vec (B + enc v) 0)
/-- The family with the row of one key under the name q. -/
def obQ (B e sz : Nat) (F : Nat → Nat × (Nat → List AV)) (q k : Nat) (m : Nat) (M R : Ob) (O : List (Nat × Ob)) : Nat → Option Ob := fun j =>
  bif Nat.ble B j then (bif Nat.beq j (B + m) then none else some (.vec e sz 0 (F (j - B)).1 (F (j - B)).2)) else bif Nat.beq j q then some R else bif Nat.beq j k then some M else mkOb O j
section
variable {E : Env} {st st' : ST} {a : Act} {w : World} {ρ ρ' : Rho}
theorem ObOk.keepP {G G' : Nat → Prop} (hG : ∀ b, G b → G' b) {p : Nat → Bool} (hp : ∀ j, p j = true → ρ' j = ρ j) {j : Nat} {o : Ob} (h : ObOk w G ρ j o) (hj : p j = true) (hk : o.ks p = true) : ObOk w G' ρ' j o := by
  have mv : ∀ {x v}, R w G ρ x v → x.ks p = true → R w G' ρ' x v := fun hx hks => (hx.tr (fun b hb => ⟨hG b hb, rfl⟩) _ (Le.refl _)).cut p _ hp hks
  cases o with
  | cells t cs =>
    obtain ⟨g, arr, hk', hh, hs, hr⟩ := h
    exact ⟨g, arr, (hp j hj).trans hk', hh, hs, fun i x hx => mv (hr i x hx) (AV.ksL_at hk hx)⟩
  | vec e sz s n f =>
    obtain ⟨hv, xs, hk', hown, hf, hr⟩ := h
    exact ⟨hv, xs, (hp j hj).trans hk', hown, hf, fun i j x hi hx => ((hr i j x hi hx).tr (fun b hb => ⟨hG b hb, rfl⟩) _ (Le.refl _))⟩
  | mapo => simp [Ob.ks] at hk
  | mapb kk zv d f =>
    obtain ⟨g, es, clock, hk', hh, hs, hr⟩ := h
    exact ⟨g, es, clock, (hp j hj).trans hk', hh, hs, fun z hz => by
      obtain ⟨r, h1, h2, h3⟩ := hr z hz
      exact ⟨r, h1, h2, h3.tr (fun b hb => ⟨hG b hb, rfl⟩) _ (Le.refl _)⟩⟩
  | lrec mk b cs =>
    obtain ⟨arr, hk', hh, hs, hr⟩ := h
    exact ⟨arr, (hp j hj).trans hk', hh, hs, fun i x hx => mv (hr i x hx) (AV.ksL_at hk hx)⟩
/-- The same world, its objects named anew. -/
theorem SatR.reob (h : SatR E st a w ρ) (p : Nat → Bool) (τ : Nat → Nat) (hnt : st'.nt = st.nt) (hp : ∀ j, p j = true → ρ' j = ρ j)
    (hfr : ∀ j, st'.fr j = .junk ∨ (AvIs (st.fr j) (st'.fr j) ∧ (st'.fr j).ks p = true))
    (hsub : ∀ j x, ρ' j = some x → ∀ b, x.block = some b → ∃ y, ρ (τ j) = some y ∧ y.block = some b)
    (hτ : ∀ j j' x x' b b', ρ' j = some x → ρ' j' = some x' → x.block = some b → x'.block = some b' → τ j = τ j' → j = j')
    (hob : (∀ b, E.good w ρ b → E.good w ρ' b) → ∀ j o, st'.ob j = some o → ObOk w (E.good w ρ') ρ' j o)
    (hno : ∀ j, st'.ob j = none → ρ' j = none) (hN : ∀ j, j < E.N → p j = true) : SatR E st' a w ρ' := by
  have hG : ∀ b, E.good w ρ b → E.good w ρ' b := fun b ⟨h0, hlt, hno⟩ => ⟨h0, hlt, fun j y hj hy => by
    obtain ⟨z, hz, hzb⟩ := hsub j y hj b hy
    exact hno _ z hz hzb⟩
  refine ⟨h.keep, hnt ▸ h.tsz, h.dfr.tr (fun b hb => ⟨hG b hb, rfl⟩), fun j => ?_, hob hG, hno, fun j j' y y' b hj hj' hy hy' => ?_, fun j y b hj hy => ?_, fun j hj x hx => by rw [hp j (hN j hj)]; exact h.le j hj x hx⟩
  · rcases hfr j with h1 | ⟨h1, h2⟩
    · rw [h1]; exact .junk
    · exact ((h1.ok (h.fr j)).tr (fun b hb => ⟨hG b hb, rfl⟩) _ (Le.refl _)).cut p _ hp h2
  · obtain ⟨z, hz, hzb⟩ := hsub j y hj b hy
    obtain ⟨z', hz', hzb'⟩ := hsub j' y' hj' b hy'
    exact hτ j j' y y' b b hj hj' hy hy' (h.dis _ _ z z' b hz hz' hzb hzb')
  · obtain ⟨z, hz, hzb⟩ := hsub j y hj b hy
    exact h.own _ z b hz hzb
theorem mkFr_cases {L : List (Nat × AV)} : ∀ j, mkFr L j = .junk ∨ ∃ x ∈ L, x.2 = mkFr L j := by
  intro j
  induction L with
  | nil => exact .inl rfl
  | cons y L ih =>
    obtain ⟨i, x⟩ := y
    simp only [mkFr]
    cases hb : Nat.beq i j with
    | true => exact .inr ⟨(i, x), by simp, by rw [cond_true]⟩
    | false =>
      rw [cond_false]
      rcases ih with h | ⟨z, hz, he⟩
      · exact .inl h
      · exact .inr ⟨z, by simp [hz], he⟩
theorem mkOb_cases {O : List (Nat × Ob)} {j : Nat} {o : Ob} (h : mkOb O j = some o) : (j, o) ∈ O := by
  induction O with
  | nil => cases h
  | cons y O ih =>
    obtain ⟨i, x⟩ := y
    simp only [mkOb] at h
    cases hb : Nat.beq i j with
    | true =>
      rw [hb, cond_true] at h
      injection h with h
      subst h
      rw [← Nat.eq_of_beq_eq_true hb]
      simp
    | false =>
      rw [hb, cond_false] at h
      simp [ih h]
theorem ble_false {m n : Nat} (h : n < m) : Nat.ble m n = false := by
  cases hb : Nat.ble m n with
  | false => rfl
  | true => have := Nat.le_of_ble_eq_true hb; omega
theorem beq_false {m n : Nat} (h : m ≠ n) : Nat.beq m n = false := by
  cases hb : Nat.beq m n with
  | false => rfl
  | true => exact absurd (Nat.eq_of_beq_eq_true hb) h
/-- An own row read only from here on. -/
theorem row_frozen (h : SatR E st a w ρ) {j e sz s n : Nat} {f : Nat → List AV} (ho : st.ob j = some (.vec e sz s n f)) {ρ' : Rho} {v : Value} (hv : R w (E.good w ρ) ρ (.vec j s) v)
    (hG : ∀ b, E.good w ρ b → E.good w ρ' b) (hno : ∀ b hv, ρ j = some (.hdr s hv) → hv.ownBlock = some b → ∀ i x, ρ' i = some x → x.block ≠ some b) {ρ1 : Rho} : R w (E.good w ρ') ρ1 (.rs sz n f) v := by
  obtain ⟨hv', xs, hg, hown, hf, hr⟩ := h.ob j _ ho
  have := hv.vec_inv hg
  subst this
  obtain ⟨hxl, hcase⟩ := hown
  rcases hcase with ⟨rfl, rfl⟩ | ⟨g, cap, cur, rfl, _, hh, hnc, hm, hsz, htake⟩
  · exact .rs (fun _ _ => undef) (Nat.le_refl _) (Nat.zero_le _) (fun h0 => absurd h0 (by omega)) hf (fun i j x hi => absurd hi (by omega))
  · have hidx : ∀ i q, i < n → q < sz → i * sz + q < n * sz := by
      intro i q hi hq
      have : (i + 1) * sz ≤ n * sz := Nat.mul_le_mul_right sz hi
      rw [Nat.add_mul] at this; omega
    have hblk : (RV.hdr s (Value.slice (some ⟨g, 0, none⟩) n cap)).block = some g := rfl
    refine .rs (fun i q => xs.getD (i * sz + q) undef) hnc hm (fun _ => ⟨_, rfl, ⟨?_, ?_, ?_⟩, fun i q hi hq => ?_⟩) hf (fun i q x hi hx => (hr i q x hi hx).tr (fun b hb => ⟨hG b hb, rfl⟩) _ (Le.refl _))
    · exact .inr (h.own j _ g hg rfl)
    · exact h.lt hg rfl
    · intro i y hi hy
      exact hno g _ hg rfl i y hi hy
    · have hlt := hidx i q hi hq
      have hlc : i * sz + q < cur.size := by
        have := Nat.mul_le_mul_right sz hnc
        rw [hsz]; omega
      have : cur[i * sz + q]? = xs[i * sz + q]? := by
        rw [← htake, List.getElem?_take, if_pos hlt]; simp
      rw [Addr.add_lit, Nat.zero_add]
      simp only [World.cell?, hh]
      simp [List.getD, ← this, hlc]
def smallN (B j : Nat) : Bool := Nat.blt j B
def keptF (B : Nat) (L : List (Nat × AV)) (k : Nat) (O : List (Nat × Ob)) : Bool :=
  L.all (fun x => x.2.ks (smallN B)) && O.all (fun o => o.2.ks (smallN B)) && O.all (fun o => smallN B o.1) && smallN B k
theorem smallN_lt {B j : Nat} (h : smallN B j = true) : j < B := Nat.lt_of_succ_le (Nat.le_of_ble_eq_true h)
theorem smallN_of {B j : Nat} (h : j < B) : smallN B j = true := Nat.ble_eq_true_of_le h
theorem keptF_ok {B : Nat} {L : List (Nat × AV)} {k : Nat} {O : List (Nat × Ob)} (h : keptF B L k O = true) : (∀ x ∈ L, x.2.ks (smallN B) = true) ∧ (∀ o ∈ O, o.2.ks (smallN B) = true) ∧ (∀ o ∈ O, o.1 < B) ∧ k < B := by
  simp only [keptF, Bool.and_eq_true, List.all_eq_true] at h
  exact ⟨h.1.1.1, h.1.1.2, fun o ho => smallN_lt (h.1.2 o ho), smallN_lt h.2⟩
theorem obF_lt {B e sz : Nat} {F : Nat → Nat × (Nat → List AV)} {O : List (Nat × Ob)} {j : Nat} (h : j < B) : obF B e sz F O j = mkOb O j := by
  unfold obF; rw [ble_false h, cond_false]
theorem obF_ge {B e sz : Nat} {F : Nat → Nat × (Nat → List AV)} {O : List (Nat × Ob)} {j : Nat} (h : B ≤ j) : obF B e sz F O j = some (.vec e sz 0 (F (j - B)).1 (F (j - B)).2) := by
  unfold obF; rw [Nat.ble_eq_true_of_le h, cond_true]
theorem mkOb_cons {k j : Nat} {o : Ob} {O : List (Nat × Ob)} : mkOb ((k, o) :: O) j = if j = k then some o else mkOb O j := by
  simp only [mkOb]
  by_cases h : j = k
  · subst h; simp
  · rw [beq_false (Ne.symm h), cond_false, if_neg h]
/-- A new map, its entries taken as rows of a family. -/
theorem Weak.famIn {L : List (Nat × AV)} {O : List (Nat × Ob)} {B nx nt n k e sz : Nat} {md : Nat → Bool} {kk : KK} {d : Value → Bool} {f : Value → AV} (enc : Value → Nat) (F : Nat → Nat × (Nat → List AV)) (hF : ∀ m, (F m).1 = 0) (hN : E.N = n) (hn : Nat.ble n B = true) (hk : keptF B L k O = true) (hd : ∀ v, d v = false) :
    Weak E (ST.of L ((k, .mapb kk (.slice none 0 0) d f) :: O) nx nt md) ⟨mkFr L, obF B e sz F ((k, mapF B kk d enc) :: O), nx, nt, md⟩ := by
  rintro a w ⟨ρ, h⟩
  obtain ⟨k1, k2, k3, k4⟩ := keptF_ok hk
  have hob : (ST.of L ((k, .mapb kk (.slice none 0 0) d f) :: O) nx nt md).ob = mkOb ((k, .mapb kk (.slice none 0 0) d f) :: O) := rfl
  have hbig : ∀ j, B ≤ j → ρ j = none := fun j hj => h.no j (by
    rw [hob, mkOb_cons, if_neg (by omega)]
    cases hm : mkOb O j with
    | none => rfl
    | some o => have := k3 _ (mkOb_cases hm); simp only at this; omega)
  let ρ' : Rho := fun j => if B ≤ j then some (.hdr 0 (.slice none 0 0)) else ρ j
  have e1 : ∀ j, j < B → ρ' j = ρ j := fun j hj => by simp only [ρ']; rw [if_neg (by omega)]
  have e2 : ∀ j, B ≤ j → ρ' j = some (.hdr 0 (.slice none 0 0)) := fun j hj => by simp only [ρ']; rw [if_pos hj]
  refine ⟨ρ', h.reob (smallN B) id rfl (fun j hj => e1 j (smallN_lt hj)) (fun j => ?_) (fun j x hj b hb => ?_) (fun j j' x x' b b' _ _ _ _ h => h) (fun hG j o ho => ?_) (fun j ho => ?_) fun j hj => smallN_of (by have := Nat.le_of_ble_eq_true hn; omega)⟩
  · rcases mkFr_cases (L := L) j with h1 | ⟨x, hx, h1⟩
    · exact .inl h1
    · exact .inr ⟨AvIs.refl _, by show AV.ks (smallN B) (mkFr L j) = true; rw [← h1]; exact k1 x hx⟩
  · rcases Nat.lt_or_ge j B with hlt | hge
    · exact ⟨x, (e1 j hlt) ▸ hj, hb⟩
    · rw [e2 j hge] at hj; injection hj with hj; subst hj; cases hb
  · rcases Nat.lt_or_ge j B with hlt | hge
    · replace ho : obF B e sz F ((k, mapF B kk d enc) :: O) j = _ := ho
      rw [obF_lt hlt, mkOb_cons] at ho
      by_cases hjk : j = k
      · subst hjk
        rw [if_pos rfl] at ho
        injection ho with ho
        subst ho
        obtain ⟨g, es, clock, hg, hh, hs, hr⟩ := h.ob j _ (by rw [hob, mkOb_cons, if_pos rfl])
        refine ⟨g, es, clock, (e1 j hlt).trans hg, hh, hs, fun v hv => ?_⟩
        obtain ⟨r, r1, r2, _⟩ := hr v hv
        rw [hd v] at r2
        have : r = none := by cases r <;> simp_all
        subst this
        exact ⟨none, r1, by rw [hd v]; rfl, .vec (e2 _ (Nat.le_add_right _ _))⟩
      · rw [if_neg hjk] at ho
        have hmem := mkOb_cases ho
        exact ObOk.keepP hG (fun j hj => e1 j (smallN_lt hj)) (h.ob j o (by rw [hob, mkOb_cons, if_neg hjk]; exact ho)) (smallN_of hlt) (k2 _ hmem)
    · replace ho : obF B e sz F ((k, mapF B kk d enc) :: O) j = _ := ho
      rw [obF_ge hge] at ho
      injection ho with ho
      subst ho
      exact ⟨.slice none 0 0, [], e2 j hge, ⟨by simp [hF], .inl ⟨rfl, hF _⟩⟩, (fun i hi => absurd hi (by rw [hF]; omega)), fun i j x hi => absurd hi (by rw [hF]; omega)⟩
  · rcases Nat.lt_or_ge j B with hlt | hge
    · replace ho : obF B e sz F ((k, mapF B kk d enc) :: O) j = _ := ho
      rw [obF_lt hlt, mkOb_cons] at ho
      rw [e1 j hlt]
      refine h.no j ?_
      rw [hob, mkOb_cons]
      by_cases hjk : j = k
      · rw [if_pos hjk] at ho; cases ho
      · rwa [if_neg hjk] at ho ⊢
    · replace ho : obF B e sz F ((k, mapF B kk d enc) :: O) j = _ := ho
      rw [obF_ge hge] at ho
      cases ho
theorem ks_two {p p' : Nat → Bool} {x : AV} : x.ks p = true → x.ks p' = true → x.ks (fun j => p j && p' j) = true := by
  refine AV.rec (motive_1 := fun x => x.ks p = true → x.ks p' = true → x.ks (fun j => p j && p' j) = true)
    (motive_2 := fun l => AV.ksL p l = true → AV.ksL p' l = true → AV.ksL (fun j => p j && p' j) l = true) ?_ ?_ ?_ ?_ ?_ ?_ ?_ ?_ ?_ ?_ ?_ ?_ ?_ ?_ x
  all_goals intros; simp_all [AV.ks, AV.ksL]
theorem ksL_two {p p' : Nat → Bool} : ∀ {l : List AV}, AV.ksL p l = true → AV.ksL p' l = true → AV.ksL (fun j => p j && p' j) l = true
  | [], _, _ => rfl
  | a :: l, h, h' => by
    simp only [AV.ksL, Bool.and_eq_true] at h h' ⊢
    exact ⟨ks_two h.1 h'.1, ksL_two h.2 h'.2⟩
theorem obks_two {p p' : Nat → Bool} {o : Ob} (h : o.ks p = true) (h' : o.ks p' = true) : o.ks (fun j => p j && p' j) = true := by
  cases o with
  | cells t cs => exact ksL_two h h'
  | vec => rfl
  | mapo => simp [Ob.ks] at h
  | mapb => rfl
  | lrec mk b cs => exact ksL_two h h'
/-- The row of one key gets a name of its own, q. -/
theorem Weak.famOpen {L : List (Nat × AV)} {O : List (Nat × Ob)} {B nx nt n k e sz : Nat} {md : Nat → Bool} {kk : KK} {d : Value → Bool} {enc : Value → Nat} {F : Nat → Nat × (Nat → List AV)} (q : Nat) (v0 : Value) (hN : E.N = n) (hn : Nat.ble n B = true) (hk : keptF B L k O = true)
    (hq : smallN B q = true) (hqk : Nat.beq q k = false) (hqn : Nat.ble n q = true) (hqo : (mkOb O q).isNone = true) (hL : (L.all (fun x => x.2.ks (fun j => !Nat.beq j q)) && O.all (fun x => x.2.ks (fun j => !Nat.beq j q))) = true) (hv0 : kk.has v0 = true) (henc : ∀ u v, kk.has u = true → kk.has v = true → enc u = enc v → u = v) :
    Weak E ⟨mkFr L, obF B e sz F ((k, mapF B kk d enc) :: O), nx, nt, md⟩ ⟨mkFr L, obQ B e sz F q k (enc v0) (.mapo kk (.slice none 0 0) d (fun v => bif keyEq v v0 then .vec q 0 else .vec (B + enc v) 0)) (.vec e sz 0 (F (enc v0)).1 (F (enc v0)).2) O, nx, nt, md⟩ := by
  rintro a w ⟨ρ, h⟩
  obtain ⟨k1, k2, k3, k4⟩ := keptF_ok hk
  have hq' := smallN_lt hq
  have hqk' : q ≠ k := fun e => by subst e; simp at hqk
  have hqo' : mkOb O q = none := by simpa using hqo
  have hlt : ∀ j, j < B → (ST.mk (mkFr L) (obF B e sz F ((k, mapF B kk d enc) :: O)) nx nt md).ob j = mkOb ((k, mapF B kk d enc) :: O) j := fun j hj => obF_lt hj
  have hρq : ρ q = none := h.no q (by rw [hlt q hq', mkOb_cons, if_neg hqk']; exact hqo')
  obtain ⟨hv, xs, hg0, hrow⟩ := h.ob (B + enc v0) _ (obF_ge (Nat.le_add_right _ _))
  have hrow' := hrow
  rw [Nat.add_sub_cancel_left] at hrow'
  let ρ' : Rho := fun j => if j = q then ρ (B + enc v0) else if j = B + enc v0 then none else ρ j
  have e0 : ρ' q = ρ (B + enc v0) := by simp [ρ']
  have e1 : ∀ j, j ≠ q → j ≠ B + enc v0 → ρ' j = ρ j := fun j h1 h2 => by simp only [ρ']; rw [if_neg h1, if_neg h2]
  have e2 : ρ' (B + enc v0) = none := by simp only [ρ']; rw [if_neg (by omega)]; simp
  let τ : Nat → Nat := fun j => if j = q then B + enc v0 else j
  have pk : ∀ j, (smallN B j && !Nat.beq j q) = true → j < B ∧ j ≠ q := fun j hj => by
    simp only [Bool.and_eq_true, Bool.not_eq_true'] at hj
    exact ⟨smallN_lt hj.1, fun e => by subst e; simp at hj⟩
  simp only [Bool.and_eq_true, List.all_eq_true] at hL
  refine ⟨ρ', h.reob (fun j => smallN B j && !Nat.beq j q) τ rfl (fun j hj => e1 j (pk j hj).2 (by have := (pk j hj).1; omega)) (fun j => ?_) (fun j x hj b hb => ?_) (fun j j' x x' b b' hj hj' _ _ ht => ?_) (fun hG j o ho => ?_) (fun j ho => ?_) fun j hj => ?_⟩
  · rcases mkFr_cases (L := L) j with h1 | ⟨x, hx, h1⟩
    · exact .inl h1
    · exact .inr ⟨AvIs.refl _, by show AV.ks _ (mkFr L j) = true; rw [← h1]; exact ks_two (k1 x hx) (hL.1 x hx)⟩
  · by_cases h1 : j = q
    · subst h1; exact ⟨x, by simp only [τ, if_true]; rw [← e0]; exact hj, hb⟩
    · by_cases h2 : j = B + enc v0
      · subst h2; rw [e2] at hj; cases hj
      · exact ⟨x, by simp only [τ]; rw [if_neg h1, ← e1 j h1 h2]; exact hj, hb⟩
  · simp only [τ] at ht
    by_cases h1 : j = q <;> by_cases h2 : j' = q
    · rw [h1, h2]
    · rw [if_pos h1, if_neg h2] at ht; rw [← ht, e2] at hj'; cases hj'
    · rw [if_neg h1, if_pos h2] at ht; rw [ht, e2] at hj; cases hj
    · rw [if_neg h1, if_neg h2] at ht; exact ht
  · simp only [obQ] at ho
    rcases Nat.lt_or_ge j B with hj | hj
    · rw [ble_false hj, cond_false] at ho
      by_cases h1 : j = q
      · subst h1
        rw [show Nat.beq j j = true by simp, cond_true] at ho
        injection ho with ho
        subst ho
        refine ⟨hv, xs, e0.trans hg0, hrow'.1, hrow'.2.1, fun i jj x hi hx => (hrow'.2.2 i jj x hi hx).tr (fun b hb => ⟨hG b hb, rfl⟩) _ (Le.refl _)⟩
      · rw [beq_false h1, cond_false] at ho
        by_cases h2 : j = k
        · subst h2
          rw [show Nat.beq j j = true by simp, cond_true] at ho
          injection ho with ho
          subst ho
          obtain ⟨g, es, clock, hg, hh, hs, hr⟩ := h.ob j _ (by rw [hlt j hj, mkOb_cons, if_pos rfl])
          refine ⟨g, es, clock, (e1 j h1 (by omega)).trans hg, hh, hs, fun v hv => ?_⟩
          obtain ⟨r, r1, r2, r3⟩ := hr v hv
          refine ⟨r, r1, r2, ?_⟩
          cases hkq : keyEq v v0 with
          | true =>
            have := (keyEq_iff hv (KK.has_ok hv0)).1 hkq
            subst this
            simp only [hkq, cond_true]
            rw [r3.vec_inv hg0]
            exact .vec (e0.trans hg0)
          | false =>
            simp only [hkq, cond_false]
            have hne : enc v ≠ enc v0 := fun e => by
              have := henc v v0 (KK.has_of hv) hv0 e
              rw [(keyEq_iff hv (KK.has_ok hv0)).2 this] at hkq; cases hkq
            obtain ⟨hv1, xs1, hg1, _⟩ := h.ob (B + enc v) _ (obF_ge (Nat.le_add_right _ _))
            rw [r3.vec_inv hg1]
            exact .vec ((e1 _ (by omega) (by omega)).trans hg1)
        · rw [beq_false h2, cond_false] at ho
          have hmem := mkOb_cases ho
          have hold := h.ob j o (by rw [hlt j hj, mkOb_cons, if_neg h2]; exact ho)
          exact ObOk.keepP hG (fun i hi => e1 i (pk i hi).2 (by have := (pk i hi).1; omega)) hold (by simp only [Bool.and_eq_true, Bool.not_eq_true']; exact ⟨smallN_of hj, beq_false h1⟩) (obks_two (k2 _ hmem) (hL.2 _ hmem))
    · rw [Nat.ble_eq_true_of_le hj, cond_true] at ho
      by_cases h1 : j = B + enc v0
      · subst h1; simp at ho
      · rw [beq_false h1, cond_false] at ho
        injection ho with ho
        subst ho
        obtain ⟨hv1, xs1, hg1, q1, q2, q3⟩ := h.ob j _ (obF_ge hj)
        exact ⟨hv1, xs1, (e1 j (by omega) h1).trans hg1, q1, q2, fun i jj x hi hx => (q3 i jj x hi hx).tr (fun b hb => ⟨hG b hb, rfl⟩) _ (Le.refl _)⟩
  · simp only [obQ] at ho
    rcases Nat.lt_or_ge j B with hj | hj
    · rw [ble_false hj, cond_false] at ho
      by_cases h1 : j = q
      · subst h1; simp at ho
      · rw [beq_false h1, cond_false] at ho
        by_cases h2 : j = k
        · subst h2; simp at ho
        · rw [beq_false h2, cond_false] at ho
          rw [e1 j h1 (by omega)]
          exact h.no j (by rw [hlt j hj, mkOb_cons, if_neg h2]; exact ho)
    · rw [Nat.ble_eq_true_of_le hj, cond_true] at ho
      by_cases h1 : j = B + enc v0
      · subst h1; exact e2
      · rw [beq_false h1, cond_false] at ho; cases ho
  · have h1 := Nat.le_of_ble_eq_true hqn
    have h2 := Nat.le_of_ble_eq_true hn
    simp only [Bool.and_eq_true, Bool.not_eq_true']
    exact ⟨smallN_of (by omega), beq_false (by omega)⟩
/-- All rows of the family read only from here on. -/
theorem Weak.famOut {L : List (Nat × AV)} {O : List (Nat × Ob)} {B nx nt n k e sz : Nat} {md : Nat → Bool} {kk : KK} {d : Value → Bool} {enc : Value → Nat} {F : Nat → Nat × (Nat → List AV)} (hN : E.N = n) (hn : Nat.ble n B = true) (hk : keptF B L k O = true) :
    Weak E ⟨mkFr L, obF B e sz F ((k, mapF B kk d enc) :: O), nx, nt, md⟩ (ST.of L ((k, .mapb kk (.slice none 0 0) d (fun v => .rs sz (F (enc v)).1 (F (enc v)).2)) :: O) nx nt md) := by
  rintro a w ⟨ρ, h⟩
  obtain ⟨k1, k2, k3, k4⟩ := keptF_ok hk
  have hob : (ST.of L ((k, .mapb kk (.slice none 0 0) d (fun v => .rs sz (F (enc v)).1 (F (enc v)).2)) :: O) nx nt md).ob = mkOb ((k, .mapb kk (.slice none 0 0) d (fun v => .rs sz (F (enc v)).1 (F (enc v)).2)) :: O) := rfl
  have hlt : ∀ j, j < B → (ST.mk (mkFr L) (obF B e sz F ((k, mapF B kk d enc) :: O)) nx nt md).ob j = mkOb ((k, mapF B kk d enc) :: O) j := fun j hj => obF_lt hj
  have hbig : ∀ j, B ≤ j → mkOb O j = none := fun j hj => by
    cases hm : mkOb O j with
    | none => rfl
    | some o => have := k3 _ (mkOb_cases hm); simp only at this; omega
  let ρ' : Rho := fun j => if j < B then ρ j else none
  have e1 : ∀ j, j < B → ρ' j = ρ j := fun j hj => by simp [ρ', hj]
  have e2 : ∀ j x, ρ' j = some x → j < B ∧ ρ j = some x := fun j x hx => by
    by_cases hj : j < B
    · exact ⟨hj, (e1 j hj) ▸ hx⟩
    · simp [ρ', hj] at hx
  have hsub : ∀ b, E.good w ρ b → E.good w ρ' b := fun b ⟨h0, hlt, hno⟩ => ⟨h0, hlt, fun j y hj hy => hno j y (e2 j y hj).2 hy⟩
  refine ⟨ρ', h.reob (smallN B) id rfl (fun j hj => e1 j (smallN_lt hj)) (fun j => ?_) (fun j x hj b hb => ⟨x, (e2 j x hj).2, hb⟩) (fun j j' x x' b b' _ _ _ _ h => h) (fun hG j o ho => ?_) (fun j ho => ?_) fun j hj => smallN_of (by have := Nat.le_of_ble_eq_true hn; omega)⟩
  · rcases mkFr_cases (L := L) j with h1 | ⟨x, hx, h1⟩
    · exact .inl h1
    · exact .inr ⟨AvIs.refl _, by show AV.ks (smallN B) (mkFr L j) = true; rw [← h1]; exact k1 x hx⟩
  · rw [hob, mkOb_cons] at ho
    by_cases hjk : j = k
    · subst hjk
      rw [if_pos rfl] at ho
      injection ho with ho
      subst ho
      obtain ⟨g, es, clock, hg, hh, hs, hr⟩ := h.ob j _ (by rw [hlt j k4, mkOb_cons, if_pos rfl])
      refine ⟨g, es, clock, (e1 j k4).trans hg, hh, hs, fun v hv => ?_⟩
      obtain ⟨r, r1, r2, r3⟩ := hr v hv
      refine ⟨r, r1, r2, ?_⟩
      have := row_frozen h (j := B + enc v) (s := 0) (obF_ge (Nat.le_add_right _ _)) r3 hsub (fun b hv1 hρ hb i x hi hx => by
        obtain ⟨hi1, hi2⟩ := e2 i x hi
        have := h.dis i (B + enc v) x _ b hi2 hρ hx (by rw [RV.block]; exact hb)
        omega) (ρ1 := Rho.none)
      rwa [Nat.add_sub_cancel_left] at this
    · rw [if_neg hjk] at ho
      have hmem := mkOb_cases ho
      have hj := k3 _ hmem
      exact ObOk.keepP hG (fun j hj => e1 j (smallN_lt hj)) (h.ob j o (by rw [hlt j hj, mkOb_cons, if_neg hjk]; exact ho)) (smallN_of hj) (k2 _ hmem)
  · rw [hob, mkOb_cons] at ho
    by_cases hjk : j = k
    · rw [if_pos hjk] at ho; cases ho
    · rw [if_neg hjk] at ho
      by_cases hj : j < B
      · rw [e1 j hj]
        exact h.no j (by rw [hlt j hj, mkOb_cons, if_neg hjk]; exact ho)
      · simp [ρ', hj]
def keptC (B : Nat) (L : List (Nat × AV)) (k q n : Nat) (O : List (Nat × Ob)) : Bool :=
  (L.all (fun x => x.2.ks (fun j => smallN B j && (Nat.beq j k || (mkOb O j).isSome))) && O.all (fun o => o.2.ks (fun j => smallN B j && (Nat.beq j k || (mkOb O j).isSome)))) &&
  (O.all (fun o => smallN B o.1) && smallN B k) && ((mkOb O q).isNone && !Nat.beq q k && smallN B q) && ((List.range n).all (fun j => Nat.beq j k || (mkOb O j).isSome) && Nat.ble n B)
/-- The row named q goes back into the family. -/
theorem Weak.famClose {st : ST} {L : List (Nat × AV)} {O : List (Nat × Ob)} {B nx nt n k e sz : Nat} {md : Nat → Bool} {kk : KK} {d d' : Value → Bool} {enc : Value → Nat} {F : Nat → Nat × (Nat → List AV)} {s m : Nat} {f : Nat → List AV} {f2 : Value → AV} (q : Nat) (v0 : Value) (F' : Nat → Nat × (Nat → List AV))
    (hN : E.N = n) (hnt : nt = st.nt) (hk : keptC B L k q n O = true) (hL : FrIs st L) (hO : ObIs st O) (hq : st.ob q = some (.vec e sz s m f)) (hm : st.ob k = some (.mapo kk (.slice none 0 0) d' f2))
    (hbig : ∀ j, B ≤ j → st.ob j = (bif Nat.beq j (B + enc v0) then none else some (.vec e sz 0 (F (j - B)).1 (F (j - B)).2)))
    (hf2 : ∀ v, kk.has v = true → f2 v = bif keyEq v v0 then .vec q s else .vec (B + enc v) 0) (hd : ∀ v, kk.has v = true → d v = d' v) (hF1 : (F' (enc v0)).1 = m) (hF2 : ∀ i, i < m → (F' (enc v0)).2 i = f i) (hF : ∀ j, j ≠ enc v0 → F' j = F j)
    (hv0 : kk.has v0 = true) (henc : ∀ u v, kk.has u = true → kk.has v = true → enc u = enc v → u = v) :
    Weak E st ⟨mkFr L, obF B e sz F' ((k, mapF B kk d enc) :: O), nx, nt, md⟩ := by
  rintro a w ⟨ρ, h⟩
  simp only [keptC, Bool.and_eq_true, List.all_eq_true, Bool.not_eq_true'] at hk
  obtain ⟨⟨⟨⟨k1, k2⟩, k3, k4⟩, ⟨k5, k6⟩, k7⟩, k8, k9⟩ := hk
  have k4 := smallN_lt k4
  have k7 := smallN_lt k7
  have k5 : mkOb O q = none := by simpa using k5
  have k6 : q ≠ k := fun e => by subst e; simp at k6
  have k9 := Nat.le_of_ble_eq_true k9
  obtain ⟨hv, xs, hg0, hrow⟩ := h.ob q _ hq
  let P : Nat → Bool := fun j => smallN B j && (Nat.beq j k || (mkOb O j).isSome)
  have hPo : ∀ j, j < B → P j = false → mkOb O j = none ∧ j ≠ k := fun j hj hp => by
    have hs := smallN_of hj
    simp only [P, hs, Bool.true_and, Bool.or_eq_false_iff] at hp
    exact ⟨by simpa using hp.2, fun e => by subst e; simp at hp⟩
  have hP : ∀ j, P j = true → j < B ∧ (j = k ∨ (mkOb O j).isSome = true) := fun j hp => by
    simp only [P, Bool.and_eq_true, Bool.or_eq_true] at hp
    exact ⟨smallN_lt hp.1, hp.2.imp Nat.eq_of_beq_eq_true id⟩
  have hPq : P q = false := by
    cases hp : P q with
    | false => rfl
    | true => rcases (hP q hp).2 with h1 | h1
              · exact absurd h1 k6
              · rw [k5] at h1; cases h1
  let ρ' : Rho := fun j => if P j = true then ρ j else if j = B + enc v0 then some (.hdr 0 hv) else if j < B then none else ρ j
  have e1 : ∀ j, P j = true → ρ' j = ρ j := fun j hj => by simp [ρ', hj]
  have hPB : ∀ j, B ≤ j → P j = false := fun j hj => by
    cases hp : P j with
    | false => rfl
    | true => have := (hP j hp).1; omega
  have e2 : ρ' (B + enc v0) = some (.hdr 0 hv) := by simp [ρ', hPB (B + enc v0) (Nat.le_add_right _ _)]
  have e3 : ∀ j, B ≤ j → j ≠ B + enc v0 → ρ' j = ρ j := fun j h1 h2 => by
    simp only [ρ', hPB j h1, if_neg h2, Bool.false_eq_true, if_false]
    rw [if_neg (by omega)]
  have e4 : ∀ j, j < B → P j = false → ρ' j = none := fun j h1 h2 => by
    simp only [ρ', h2, Bool.false_eq_true, if_false]
    rw [if_neg (by omega), if_pos h1]
  let τ : Nat → Nat := fun j => if j = B + enc v0 then q else j
  have hold : ρ (B + enc v0) = none := h.no _ (by rw [hbig _ (Nat.le_add_right _ _)]; simp)
  have hcase : ∀ j x, ρ' j = some x → (j = B + enc v0 ∧ x = .hdr 0 hv) ∨ (j ≠ B + enc v0 ∧ j ≠ q ∧ ρ j = some x) := by
    intro j x hx
    by_cases h1 : j = B + enc v0
    · subst h1; rw [e2] at hx; injection hx with hx; exact .inl ⟨rfl, hx.symm⟩
    · refine .inr ⟨h1, fun e => ?_, ?_⟩
      · subst e; rw [e4 j k7 hPq] at hx; cases hx
      · cases hp : P j with
        | true => rw [e1 j hp] at hx; exact hx
        | false =>
          rcases Nat.lt_or_ge j B with hj | hj
          · rw [e4 j hj hp] at hx; cases hx
          · rw [e3 j hj h1] at hx; exact hx
  refine ⟨ρ', h.reob P τ hnt e1 (fun j => ?_) (fun j x hj b hb => ?_) (fun j j' x x' b b' hj hj' _ _ ht => ?_) (fun hG j o ho => ?_) (fun j ho => ?_) fun j hj => ?_⟩
  · rcases mkFr_or hL j with h1 | ⟨h1, x, hx, h2⟩
    · exact .inl h1
    · exact .inr ⟨h1, by show AV.ks P (mkFr L j) = true; rw [← h2]; exact k1 x hx⟩
  · rcases hcase j x hj with ⟨rfl, rfl⟩ | ⟨h1, h2, h3⟩
    · exact ⟨.hdr s hv, by simp only [τ, if_true]; exact hg0, hb⟩
    · exact ⟨x, by simp only [τ, if_neg h1]; exact h3, hb⟩
  · simp only [τ] at ht
    rcases hcase j x hj with ⟨h1, _⟩ | ⟨h1, h1', _⟩ <;> rcases hcase j' x' hj' with ⟨h2, _⟩ | ⟨h2, h2', _⟩
    · rw [h1, h2]
    · rw [if_pos h1, if_neg h2] at ht; exact absurd ht.symm h2'
    · rw [if_neg h1, if_pos h2] at ht; exact absurd ht h1'
    · rw [if_neg h1, if_neg h2] at ht; exact ht
  · replace ho : obF B e sz F' ((k, mapF B kk d enc) :: O) j = _ := ho
    rcases Nat.lt_or_ge j B with hj | hj
    · rw [obF_lt hj, mkOb_cons] at ho
      by_cases hjk : j = k
      · subst hjk
        rw [if_pos rfl] at ho
        injection ho with ho
        subst ho
        have hPk : P j = true := by simp [P, smallN_of hj]
        obtain ⟨g, es, clock, hg, hh, hs, hr⟩ := h.ob j _ hm
        refine ⟨g, es, clock, (e1 j hPk).trans hg, hh, hs, fun v hv' => ?_⟩
        obtain ⟨r, r1, r2, r3⟩ := hr v hv'
        refine ⟨r, r1, by rw [hd v (KK.has_of hv')]; exact r2, ?_⟩
        rw [hf2 v (KK.has_of hv')] at r3
        cases hkq : keyEq v v0 with
        | true =>
          have := (keyEq_iff hv' (KK.has_ok hv0)).1 hkq
          subst this
          simp only [hkq, cond_true] at r3
          rw [r3.vec_inv hg0]
          exact .vec e2
        | false =>
          have hne : enc v ≠ enc v0 := fun e => by
            have := henc v v0 (KK.has_of hv') hv0 e
            rw [(keyEq_iff hv' (KK.has_ok hv0)).2 this] at hkq; cases hkq
          simp only [hkq, cond_false] at r3
          obtain ⟨hv1, xs1, hg1, _⟩ := h.ob (B + enc v) _ (by rw [hbig _ (Nat.le_add_right _ _), beq_false (by omega), cond_false])
          rw [r3.vec_inv hg1]
          exact .vec ((e3 _ (Nat.le_add_right _ _) (by omega)).trans hg1)
      · rw [if_neg hjk] at ho
        have hmem := mkOb_cases ho
        have hPj : P j = true := by simp [P, smallN_of hj, ho]
        obtain ⟨h1, _⟩ := mkOb_some hO j o ho
        cases hst : st.ob j with
        | none => rw [hst] at h1; exact h1.elim
        | some o1 =>
          rw [hst] at h1
          exact ObOk.keepP hG e1 (h1.ok (h.ob j o1 hst)) hPj (k2 _ hmem)
    · rw [obF_ge hj] at ho
      injection ho with ho
      subst ho
      by_cases h1 : j = B + enc v0
      · subst h1
        rw [Nat.add_sub_cancel_left, hF1]
        refine ⟨hv, xs, e2, hrow.1, fun i hi => by rw [hF2 i hi]; exact hrow.2.1 i hi, fun i jj x hi hx => (hrow.2.2 i jj x hi (by rw [← hF2 i hi]; exact hx)).tr (fun b hb => ⟨hG b hb, rfl⟩) _ (Le.refl _)⟩
      · have h2 : j - B ≠ enc v0 := by omega
        rw [hF _ h2]
        obtain ⟨hv1, xs1, hg1, q1, q2, q3⟩ := h.ob j _ (by rw [hbig j hj, beq_false h1, cond_false])
        exact ⟨hv1, xs1, (e3 j hj h1).trans hg1, q1, q2, fun i jj x hi hx => (q3 i jj x hi hx).tr (fun b hb => ⟨hG b hb, rfl⟩) _ (Le.refl _)⟩
  · replace ho : obF B e sz F' ((k, mapF B kk d enc) :: O) j = _ := ho
    rcases Nat.lt_or_ge j B with hj | hj
    · rw [obF_lt hj, mkOb_cons] at ho
      by_cases hjk : j = k
      · rw [if_pos hjk] at ho; cases ho
      · rw [if_neg hjk] at ho
        refine e4 j hj ?_
        simp [P, ho, beq_false hjk]
    · rw [obF_ge hj] at ho; cases ho
  · have := k8 j (List.mem_range.2 (by omega))
    have h2 := smallN_of (B := B) (j := j) (by omega)
    simp only [P, h2, Bool.true_and]
    simpa using this
theorem upd_big {α : Type} {f : Nat → α} {B k j : Nat} {v : α} (hj : B ≤ j) (hk : Nat.blt k B = true) : upd f k v j = f j := upd_other _ _ (by have := Nat.lt_of_succ_le (Nat.le_of_ble_eq_true hk); omega)
theorem obQ_ge {B e sz : Nat} {F : Nat → Nat × (Nat → List AV)} {q k m j : Nat} {M R : Ob} {O : List (Nat × Ob)} (hj : B ≤ j) : obQ B e sz F q k m M R O j = (bif Nat.beq j (B + m) then none else some (.vec e sz 0 (F (j - B)).1 (F (j - B)).2)) := by
  unfold obQ; rw [Nat.ble_eq_true_of_le hj, cond_true]
def keptD (B : Nat) (L : List (Nat × AV)) (k n : Nat) (O : List (Nat × Ob)) : Bool :=
  (L.all (fun x => x.2.ks (fun j => smallN B j && (Nat.beq j k || (mkOb O j).isSome))) && O.all (fun o => o.2.ks (fun j => smallN B j && (Nat.beq j k || (mkOb O j).isSome)))) &&
  (O.all (fun o => smallN B o.1) && smallN B k) && ((List.range n).all (fun j => Nat.beq j k || (mkOb O j).isSome) && Nat.ble n B)
/-- The state written anew, the family left as it is. -/
theorem Weak.famOf {st : ST} {L : List (Nat × AV)} {O : List (Nat × Ob)} {B nx nt n k e sz : Nat} {md : Nat → Bool} {kk : KK} {d : Value → Bool} {enc : Value → Nat} {F : Nat → Nat × (Nat → List AV)}
    (hN : E.N = n) (hnt : nt = st.nt) (hk : keptD B L k n O = true) (hL : FrIs st L) (hO : ObIs st O) (hm : st.ob k = some (mapF B kk d enc)) (hbig : ∀ j, B ≤ j → st.ob j = some (.vec e sz 0 (F (j - B)).1 (F (j - B)).2)) :
    Weak E st ⟨mkFr L, obF B e sz F ((k, mapF B kk d enc) :: O), nx, nt, md⟩ := by
  rintro a w ⟨ρ, h⟩
  simp only [keptD, Bool.and_eq_true, List.all_eq_true, Bool.not_eq_true'] at hk
  obtain ⟨⟨⟨k1, k2⟩, k3, k4⟩, k8, k9⟩ := hk
  have k4 := smallN_lt k4
  have k9 := Nat.le_of_ble_eq_true k9
  let P : Nat → Bool := fun j => smallN B j && (Nat.beq j k || (mkOb O j).isSome)
  have hP : ∀ j, P j = true → j < B ∧ (j = k ∨ (mkOb O j).isSome = true) := fun j hp => by
    simp only [P, Bool.and_eq_true, Bool.or_eq_true] at hp
    exact ⟨smallN_lt hp.1, hp.2.imp Nat.eq_of_beq_eq_true id⟩
  have hPB : ∀ j, B ≤ j → P j = false := fun j hj => by
    cases hp : P j with
    | false => rfl
    | true => have := (hP j hp).1; omega
  let ρ' : Rho := fun j => if P j = true then ρ j else if j < B then none else ρ j
  have e1 : ∀ j, P j = true → ρ' j = ρ j := fun j hj => by simp [ρ', hj]
  have e3 : ∀ j, B ≤ j → ρ' j = ρ j := fun j h1 => by
    simp only [ρ', hPB j h1, Bool.false_eq_true, if_false]
    rw [if_neg (by omega)]
  have e4 : ∀ j, j < B → P j = false → ρ' j = none := fun j h1 h2 => by
    simp only [ρ', h2, Bool.false_eq_true, if_false]
    rw [if_pos h1]
  have hcase : ∀ j x, ρ' j = some x → ρ j = some x := by
    intro j x hx
    cases hp : P j with
    | true => rw [e1 j hp] at hx; exact hx
    | false =>
      rcases Nat.lt_or_ge j B with hj | hj
      · rw [e4 j hj hp] at hx; cases hx
      · rw [e3 j hj] at hx; exact hx
  refine ⟨ρ', h.reob P id hnt e1 (fun j => ?_) (fun j x hj b hb => ⟨x, hcase j x hj, hb⟩) (fun j j' x x' b b' _ _ _ _ ht => ht) (fun hG j o ho => ?_) (fun j ho => ?_) fun j hj => ?_⟩
  · rcases mkFr_or hL j with h1 | ⟨h1, x, hx, h2⟩
    · exact .inl h1
    · exact .inr ⟨h1, by show AV.ks P (mkFr L j) = true; rw [← h2]; exact k1 x hx⟩
  · replace ho : obF B e sz F ((k, mapF B kk d enc) :: O) j = _ := ho
    rcases Nat.lt_or_ge j B with hj | hj
    · rw [obF_lt hj, mkOb_cons] at ho
      by_cases hjk : j = k
      · subst hjk
        rw [if_pos rfl] at ho
        injection ho with ho
        subst ho
        have hPk : P j = true := by simp [P, smallN_of hj]
        obtain ⟨g, es, clock, hg, hh, hs, hr⟩ := h.ob j _ hm
        refine ⟨g, es, clock, (e1 j hPk).trans hg, hh, hs, fun v hv' => ?_⟩
        obtain ⟨r, r1, r2, r3⟩ := hr v hv'
        refine ⟨r, r1, r2, ?_⟩
        obtain ⟨hv1, xs1, hg1, _⟩ := h.ob (B + enc v) _ (hbig _ (Nat.le_add_right _ _))
        rw [r3.vec_inv hg1]
        exact .vec ((e3 _ (Nat.le_add_right _ _)).trans hg1)
      · rw [if_neg hjk] at ho
        have hmem := mkOb_cases ho
        have hPj : P j = true := by simp [P, smallN_of hj, ho]
        obtain ⟨h1, _⟩ := mkOb_some hO j o ho
        cases hst : st.ob j with
        | none => rw [hst] at h1; exact h1.elim
        | some o1 =>
          rw [hst] at h1
          exact ObOk.keepP hG e1 (h1.ok (h.ob j o1 hst)) hPj (k2 _ hmem)
    · rw [obF_ge hj] at ho
      injection ho with ho
      subst ho
      obtain ⟨hv1, xs1, hg1, q1, q2, q3⟩ := h.ob j _ (hbig j hj)
      exact ⟨hv1, xs1, (e3 j hj).trans hg1, q1, q2, fun i jj x hi hx => (q3 i jj x hi hx).tr (fun b hb => ⟨hG b hb, rfl⟩) _ (Le.refl _)⟩
  · replace ho : obF B e sz F ((k, mapF B kk d enc) :: O) j = _ := ho
    rcases Nat.lt_or_ge j B with hj | hj
    · rw [obF_lt hj, mkOb_cons] at ho
      by_cases hjk : j = k
      · rw [if_pos hjk] at ho; cases ho
      · rw [if_neg hjk] at ho
        refine e4 j hj ?_
        simp [P, ho, beq_false hjk]
    · rw [obF_ge hj] at ho; cases ho
  · have := k8 j (List.mem_range.2 (by omega))
    have h2 := smallN_of (B := B) (j := j) (by omega)
    simp only [P, h2, Bool.true_and]
    simpa using this
theorem mapF_stamp {B k s t : Nat} {kk : KK} {d : Value → Bool} {enc : Value → Nat} (h : Nat.blt k B = true) : Ob.map (stampG k s t) (mapF B kk d enc) = mapF B kk d enc := by
  have := Nat.lt_of_succ_le (Nat.le_of_ble_eq_true h)
  have hb : ∀ v, Nat.beq (B + enc v) k = false := fun v => beq_false (by omega)
  simp [mapF, Ob.map, AV.map, stampG, hb]
theorem ST.stamp_vec {st : ST} {B k s t j e sz s' n : Nat} {o : Ob} {f : Nat → List AV} (hj : B ≤ j) (hk : Nat.blt k B = true) (h : st.ob j = some (.vec e sz s' n f)) : (st.stamp k s t o).ob j = some (.vec e sz s' n f) := by
  unfold ST.stamp
  simp only
  rw [upd_big hj hk, h]
  rfl
end
end Go.Eng
end
section
/- The engine, part X: ranges over functions. -/
namespace Go.Eng
mutual
theorem frc_self : ∀ a : AV, frc a = some a
  | .junk => rfl
  | .c _ => rfl
  | .agg l => by simp [frc, frcL_self l]
  | .tup l => by simp [frc, frcL_self l]
  | .ptr k off => by cases k <;> rfl
  | .mp k => by cases k <;> rfl
  | .vptr k s sz i off => by cases k <;> rfl
  | .rptr _ => rfl
  | .rs _ _ _ => rfl
  | .vec k s => by cases k <;> rfl
  | .fn _ _ _ => rfl
  | .gd g a => by simp [frc, frc_self a]
theorem frcL_self : ∀ l : List AV, frcL l = some l
  | [] => rfl
  | a :: l => by simp [frcL, frc_self a, frcL_self l]
end
/-- The record of a range over a function. -/
def recOf (fn : FuncId) (ps : Array Tmp) (assign body : Code) (D : Nat) (s : LoopState) (pend : Option Code) : Array Value → Obj :=
  fun tmps => .loop { state := s, pending := pend, fn := fn, tmps := tmps, params := ps, assign := assign, body := body, defers := D }
/-- A call of yield. -/
def yieldF (st : ST) (op : Op) : Option (Nat × List AV) :=
  match op with
  | .call c => match c.callee with
    | .value f => match strip (st.ev f) with
      | .fn (.yield l) [] [] => some (l, c.args.toList.map (fun x => strip (st.ev x)))
      | _ => none
    | _ => none
  | _ => none
/-- What a call of yield does. -/
def CY (P : Program) (l : Nat) (vs : Array Value) (w : World) (Rr : Ending → World → Prop) : Prop :=
  ∃ fn tmps assign body, (Instr.yield l vs).run P w = .ok (.round l fn tmps assign body) w ∧ RoundIn (FW none) 0 P l fn tmps assign body w Rr
theorem CY.mono {P : Program} {l : Nat} (vs : Array Value) (w : World) (R R' : Ending → World → Prop) (h : CY P l vs w R) (hr : ∀ e w', R e w' → R' e w') : CY P l vs w R' := by
  obtain ⟨fn, tmps, assign, body, h1, h2⟩ := h
  exact ⟨fn, tmps, assign, body, h1, h2.mono hr⟩
/-- The rounds of a range over a function, as whoever calls yield sees them. -/
def DoesR (P : Program) (l : Nat) : List AV → List Ob → AV → List Ob → Prop := DoesX (CY P l) P
section
variable {E : Env} {st : ST} {a : Act} {w : World} {ρ : Rho} {T : TE}
theorem yield_run (h : SatR E st a w ρ) {o : Oper} {l : Nat} {args : List AV} (hc : yieldF st o.op = some (l, args)) {gc : Option Bool} (hgc : ∀ g, gc = some g → g = true) (ho : ∀ p ∈ o.op.operands.toList.flatMap (fun x => oblG gc (st.ev x)), p) :
    ∃ vs : Array Value, (∀ P w, (execOp a.eval o).run P w = (Instr.yield l vs).run P w) ∧ vs.size = args.length ∧ ∀ i x, args[i]? = some x → R w (E.good w ρ) ρ x (vs.getD i undef) := by
  obtain ⟨dst, op, type, pos, after, guard⟩ := o
  simp only at hc ho
  unfold yieldF at hc
  split at hc
  · rename_i c
    obtain ⟨callee, cargs, tys⟩ := c
    simp only at hc
    split at hc
    · rename_i fo
      split at hc
      · rename_i l' hfn
        simp only [Option.some.injEq, Prod.mk.injEq] at hc
        obtain ⟨rfl, rfl⟩ := hc
        have hst : ∀ x ∈ (Op.call { callee := .value fo, args := cargs, argTypes := tys }).operands, R w (E.good w ρ) ρ (strip (st.ev x)) (a.eval x) := fun x hx =>
          strip_ok hgc (fun p hp => ho p (List.mem_flatMap.2 ⟨x, by simpa using hx, hp⟩)) (h.ev x)
        have hfv := hst fo (by simp [Op.operands, Call.operands])
        rw [hfn] at hfv
        generalize hev : a.eval fo = fv at hfv
        cases hfv with
        | @fn _ _ _ _ fs cs h1 h2 h3 h4 =>
          obtain rfl : fs = #[] := Array.eq_empty_of_size_eq_zero (by simpa using h1)
          obtain rfl : cs = #[] := Array.eq_empty_of_size_eq_zero (by simpa using h3)
          refine ⟨cargs.map a.eval, fun P w => ?_, by simp, fun i x hx => ?_⟩
          · simp [execOp, resolve, hev, Deferred.ofValue, invoke]
          · simp only [List.getElem?_map, Option.map_eq_some_iff] at hx
            obtain ⟨u, hu, rfl⟩ := hx
            rw [getD_map cargs i u (by simpa using hu)]
            exact hst u (by simp [Op.operands, Call.operands]; exact .inr (by simpa using List.mem_of_getElem? hu))
      · cases hc
    · cases hc
  · cases hc
theorem yieldM_wp (h : SatR E st a w ρ) {o : Oper} {l : Nat} {args args1 args' : List AV} {res res1 : AV} {O O' : List Ob} {K : List Nat} {obs : List (Nat × Ob)} (hc : yieldF st o.op = some (l, args)) {gc : Option Bool} (hgc : ∀ g, gc = some g → g = true) (ho : ∀ p ∈ o.op.operands.toList.flatMap (fun x => oblG gc (st.ev x)), p)
    (hdst : dstOk st o = true) (hP : DoesR E.P l args' O res O') (hfa : frcL (AV.mapL (renG (posF (K.take O.length))) args) = some args1) (ha : AvIsL args1 args') (hd : nodupB K = true)
    (hv : ViewIs st.ob (posF (K.take O.length)) (K.take O.length) O) (hnew : (K.drop O.length).all (fun k => (st.ob k).isNone) = true) (hob : backF (renG (fun i => K[i]?)) K O' = some obs) (hres : frc (res.map (renG (fun i => K[i]?))) = some res1)
    {Q : Exit → Act → World → Prop} : o.wpIn (FW E.rd) 0 E.P a w (fun a' w' => Sat E (st.appM o.dst ⟨res1, obs⟩) a' w') Q := by
  obtain ⟨vs, h1, h2, h3⟩ := yield_run h hc hgc ho
  have hfa := frcL_eq hfa
  have hres := frc_eq hres
  subst hfa hres
  obtain ⟨hl, hat⟩ := ha.at
  rw [AV.mapL_length] at hl
  have key : CY E.P l vs w (fun e w' => ∃ v, e = .returned v ∧ Sat E (st.appM o.dst ⟨res.map (renG (fun i => K[i]?)), obs⟩) (a.put o.dst v) w') := by
    refine SatR.calledX (C := CY E.P l) CY.mono h h (fun _ _ h => h) hP (.inl rfl) hd hv hnew hob (by omega) (fun i y hy => ?_) (next := fun _ _ => True) (Q' := fun _ _ _ => True) fun v w' ρ' hm hle hG hr => ?_
    · have hlt : i < args.length := by
        have := (List.getElem?_eq_some_iff.1 hy).1
        omega
      have hx := List.getElem?_eq_getElem hlt
      exact ⟨_, h3 i _ hx, hat i _ y (mapL_at hx) hy⟩
    · have h0 : SatR E { st with ob := putAll st.ob obs } a w' ρ' := ⟨hm.keep, h.tsz, h.dfr.tr hG, fun k => (h.fr k).tr hG _ hle, hm.ob, hm.no, hm.dis, hm.own, hm.le⟩
      refine ⟨v, rfl, ρ', ?_⟩
      have hdl := dstOk_lt hdst
      cases hod : o.dst with
      | none => exact h0
      | some d => exact h0.put (hdl d hod) hr
  obtain ⟨fn, tmps, assign, body, hy, hround⟩ := key
  refine wpIn_run ((h1 _ _).trans hy) (fun _ e => by cases e) ⟨(fun e => by cases e), ?_⟩
  refine RoundIn.mono (show RoundIn (FW E.rd) 0 E.P l fn tmps assign body w _ from hround) ?_
  rintro e w' ⟨v, rfl, hs⟩
  exact hs
theorem StepTo.yieldM {ops : Array Oper} {o : Oper} {l : Nat} {args args1 args' : List AV} {res res1 : AV} {O O' : List Ob} {K : List Nat} {obs : List (Nat × Ob)} (hc : yieldF st o.op = some (l, args)) (hg : o.guard = none) (hdst : dstOk st o = true) (ho : AllP (o.op.operands.toList.flatMap (fun x => oblG none (st.ev x))))
    (hP : DoesR E.P l args' O res O') (hfa : frcL (AV.mapL (renG (posF (K.take O.length))) args) = some args1) (ha : AvIsL args1 args') (hd : nodupB K = true)
    (hv : ViewIs st.ob (posF (K.take O.length)) (K.take O.length) O) (hnew : (K.drop O.length).all (fun k => (st.ob k).isNone) = true) (hob : backF (renG (fun i => K[i]?)) K O' = some obs) (hres : frc (res.map (renG (fun i => K[i]?))) = some res1) :
    StepTo E ops o st (st.appM o.dst ⟨res1, obs⟩) := by
  intro a w ⟨ρ, h⟩ Q
  rw [if_pos (by simp [Region.wanted, hg])]
  exact yieldM_wp h hc (fun g e => by cases e) (AllP.mem ho) hdst hP hfa ha hd hv hnew hob hres
theorem StepTo.yieldMG {ops : Array Oper} {o : Oper} {j l : Nat} {pol g : Bool} {args args1 args' : List AV} {res res1 : AV} {O O' : List Ob} {K : List Nat} {obs : List (Nat × Ob)} (hc : yieldF st o.op = some (l, args)) (hg : o.guard = some (j, pol)) (hgv : gval st ops.toList j pol = some g) (hgt : g = true) (hdst : dstOk st o = true) (hda : ops.toList.all (dstOk st) = true)
    (ho : AllP (o.op.operands.toList.flatMap (fun x => oblG (some g) (st.ev x))))
    (hP : DoesR E.P l args' O res O') (hfa : frcL (AV.mapL (renG (posF (K.take O.length))) args) = some args1) (ha : AvIsL args1 args') (hd : nodupB K = true)
    (hv : ViewIs st.ob (posF (K.take O.length)) (K.take O.length) O) (hnew : (K.drop O.length).all (fun k => (st.ob k).isNone) = true) (hob : backF (renG (fun i => K[i]?)) K O' = some obs) (hres : frc (res.map (renG (fun i => K[i]?))) = some res1) :
    StepTo E ops o st (st.appM o.dst ⟨res1, obs⟩) := by
  intro a w ⟨ρ, h⟩ Q
  have hwv : Region.wanted o (yielded ops a.tmps) = g := by
    have := gval_ok h hgv (fun o' d h1 h2 => dstOk_lt (List.all_eq_true.1 hda o' (Array.mem_toList_iff.2 (Array.mem_of_getElem? h1))) d h2)
    simp only [Region.wanted, hg, this]
  rw [if_pos (hwv.trans hgt)]
  exact yieldM_wp h hc (fun g' e => by injection e with e; exact e ▸ hgt) (AllP.mem ho) hdst hP hfa ha hd hv hnew hob hres
end
section
variable {E : Env} {Q : Exit → ST → Prop} {ops : Array Oper} {o : Oper} {rest : List Oper} {l d : Nat} {args args1 args' : List AV} {res res1 : AV} {O O' : List Ob} {K : List Nat} {obs : List (Nat × Ob)} {fr : Nat → AV} {ob : Nat → Option Ob} {nx nt : Nat} {md : Nat → Bool} {P : Program} {k : List It}
theorem XL.yieldM (K : List Nat) (hE : E.P = P) (hc : yieldF ⟨fr, ob, nx, nt, md⟩ o.op = some (l, args)) (hg : o.guard = none) (hds : o.dst = some d) (hdl : Nat.blt d nt = true) (ho : AllP (o.op.operands.toList.flatMap (fun x => oblG none (ST.ev ⟨fr, ob, nx, nt, md⟩ x))))
    (hP : DoesR P l args' O res O') (hfa : frcL (AV.mapL (renG (posF (K.take O.length))) args) = some args1) (ha : AvIsL args1 args') (hd : nodupB K = true)
    (hv : ViewIs ob (posF (K.take O.length)) (K.take O.length) O) (hnew : (K.drop O.length).all (fun k => (ob k).isNone) = true) (hob : backF (renG (fun i => K[i]?)) K O' = some obs) (hres : frc (res.map (renG (fun i => K[i]?))) = some res1)
    (h : XL E ops Q rest ⟨upd fr d res1, putAll ob obs, nx, nt, md⟩) : XL E ops Q (o :: rest) ⟨fr, ob, nx, nt, md⟩ := by
  refine XL.step (StepTo.yieldM hc hg (by simp [dstOk, hds, hdl]) ho (hE ▸ hP) hfa ha hd hv hnew hob hres) ?_
  rw [hds]; exact h
theorem XL.yieldMG {j : Nat} {pol g : Bool} (K : List Nat) (x : AV) (hE : E.P = P) (hc : yieldF ⟨fr, ob, nx, nt, md⟩ o.op = some (l, args)) (hg : o.guard = some (j, pol)) (hgv : gval ⟨fr, ob, nx, nt, md⟩ ops.toList j pol = some g) (hds : o.dst = some d) (hdl : Nat.blt d nt = true) (hda : ops.toList.all (dstOk ⟨fun _ => .junk, fun _ => none, nx, nt, md⟩) = true)
    (hf : g = false → XL E ops Q rest ⟨upd fr d (.gd false x), ob, nx, nt, md⟩)
    {obl' : List Prop} (hfo : frcP (o.op.operands.toList.flatMap (fun x => oblG (some g) (ST.ev ⟨fr, ob, nx, nt, md⟩ x))) = some obl') (ho : g = true → AllP obl')
    (hP : g = true → DoesR P l args' O res O') (hfa : frcL (AV.mapL (renG (posF (K.take O.length))) args) = some args1) (ha : AvIsL args1 args') (hd : nodupB K = true)
    (hv : g = true → ViewIs ob (posF (K.take O.length)) (K.take O.length) O) (hnew : (K.drop O.length).all (fun k => (ob k).isNone) = true) (hob : backF (renG (fun i => K[i]?)) K O' = some obs) (hres : frc (res.map (renG (fun i => K[i]?))) = some res1)
    (h : g = true → XL E ops Q rest ⟨upd fr d res1, putAll ob obs, nx, nt, md⟩) : XL E ops Q (o :: rest) ⟨fr, ob, nx, nt, md⟩ := by
  cases hgb : g with
  | false =>
    refine XL.step (StepTo.skip x hg hgv hgb (by simp [dstOk, hds, hdl]) hda) ?_
    rw [hds]; exact hf hgb
  | true =>
    refine XL.step (StepTo.yieldMG hc hg hgv hgb (by simp [dstOk, hds, hdl]) hda (frcP_eq hfo ▸ ho hgb) (hE ▸ hP hgb) hfa ha hd (hv hgb) hnew hob hres) ?_
    rw [hds]; exact h hgb
end
/- Rounds. -/
section
variable {E : Env} {st : ST} {a : Act} {w : World} {ρ : Rho}
/-- A record turned. -/
theorem SatR.recSet (h : SatR E st a w ρ) {k b : Nat} {mk mk' : Array Value → Obj} {cs : List AV} (hk : st.ob k = some (.lrec mk b cs)) :
    ∃ arr, w.heap[b]? = some (mk arr) ∧ arr.size = cs.length ∧ (∀ i x, cs[i]? = some x → R w (E.good w ρ) ρ x (arr.getD i undef)) ∧ SatR E { st with ob := upd st.ob k (some (.lrec mk' b cs)) } a (w.putObj b (mk' arr)) ρ := by
  obtain ⟨arr, h1, h2, h3, h4⟩ := h.ob k _ hk
  refine ⟨arr, h2, h3, h4, ?_⟩
  have hu : upd ρ k (some (.blk b)) = ρ := by
    funext j
    by_cases hj : j = k
    · subst hj; rw [upd_same, h1]
    · rw [upd_other _ _ hj]
  have hlt : b < w.heap.size := (Array.getElem?_eq_some_iff.1 h2).1
  have := h.turn (k := k) (x := .blk b) (o := .lrec mk' b cs) (w' := w.putObj b (mk' arr)) (.inr (.inl h1))
    ⟨rfl, rfl, rfl, by simp, fun b' _ hb => World.putObj_heap_other fun e => hb (by rw [h1, e]; rfl)⟩ (Nat.le_refl _) (fun b' hb => .inl (by rw [h1]; exact hb)) fun hG hl => by
      rw [hu] at hG hl ⊢
      exact ⟨arr, h1, World.putObj_heap_same hlt, h3, fun i x hx => (h4 i x hx).tr hG _ hl⟩
  rwa [hu] at this
end
/-- A frame with yield's arguments in the parameters. -/
def frPut : List (Tmp × AV) → (Nat → AV) → Nat → AV
  | [], fr => fr
  | (t, x) :: l, fr => frPut l (upd fr t x)
theorem frPut_ok {w : World} {G : Nat → Prop} {ρ : Rho} : ∀ (l : List (Tmp × AV)) (vs : List Value) (fr : Nat → AV) (tmps : Array Value), l.length = vs.length → (∀ p ∈ l, p.1 < tmps.size) → (∀ k, R w G ρ (fr k) (tmps.getD k undef)) →
    (∀ i p, l[i]? = some p → R w G ρ p.2 (vs.getD i undef)) → (((l.map (·.1)).zip vs).foldl (fun t (p : Tmp × Value) => t.setIfInBounds p.1 p.2) tmps).size = tmps.size ∧
    ∀ k, R w G ρ (frPut l fr k) ((((l.map (·.1)).zip vs).foldl (fun t (p : Tmp × Value) => t.setIfInBounds p.1 p.2) tmps).getD k undef)
  | [], _, fr, tmps, _, _, hf, _ => ⟨rfl, hf⟩
  | (t, x) :: l, [], _, _, h, _, _, _ => by simp at h
  | (t, x) :: l, v :: vs, fr, tmps, h, hlt, hf, hv => by
    have ht : t < tmps.size := hlt (t, x) List.mem_cons_self
    have := frPut_ok l vs (upd fr t x) (tmps.setIfInBounds t v) (by simpa using h) (fun p hp => by simpa using hlt p (List.mem_cons_of_mem _ hp)) (fun k => by
      by_cases hk : k = t
      · subst hk
        rw [upd_same]
        have := hv 0 (k, x) rfl
        simpa [ht] using this
      · rw [upd_other _ _ hk]
        have := hf k
        simpa [Array.getElem?_setIfInBounds_ne (Ne.symm hk)] using this) (fun i p hp => by
        have := hv (i + 1) p (by simpa using hp)
        simpa using this)
    simp only [List.map_cons, List.zip_cons_cons, List.foldl_cons, frPut]
    exact ⟨by rw [this.1]; simp, this.2⟩
theorem obL_upd {x y : Ob} {O : List Ob} : upd (obL (x :: O)) 0 (some y) = obL (y :: O) := by
  funext k
  cases k with
  | zero => rfl
  | succ k => rfl
/-- How a round is left. -/
def RndQ (E : Env) (L : Nat) (fn : FuncId) (ps : Array Tmp) (assign body : Code) (D : Nat) (cs : List AV) (O' : List Ob) (out : Option Code) : Exit → ST → Prop := fun e s =>
  (e = .normal ∧ out = none ∨ e = .ret ∧ out = some .ret ∨ ∃ id, e = .exit id ∧ out = some (.exit id)) ∧ ∃ st', Weak E s st' ∧ st'.ob = obL (.lrec (recOf fn ps assign body D .busy none) L cs :: O')
theorem DoesR.mk {P : Program} {T : TE} (hT : TOk P T) {L : Nat} {fn : FuncId} {ps : Array Tmp} {assign body : Code} {D : Nat} {cs args : List AV} {O O' : List Ob} {out : Option Code} (md : Nat → Bool) (nx : Nat) (st1 : ST)
    (hps : ps.size = args.length) (hlt : ∀ t ∈ ps, t < cs.length) (hO : O.length ≤ O'.length)
    (h1 : ∀ E : Env, TOk E.P T → E.P = P → E.N = O.length + 1 → E.rd = some L → XK E [.code assign] (fun e s => e = .normal ∧ Weak E s st1) ⟨frPut (ps.toList.zip args) (argFr cs), obL (.lrec (recOf fn ps assign body D .ready none) L cs :: O), nx, cs.length, md⟩)
    (hst1 : st1.ob 0 = some (.lrec (recOf fn ps assign body D .ready none) L cs))
    (h2 : ∀ E : Env, TOk E.P T → E.P = P → E.N = O.length + 1 → E.rd = some L → XK E [.code body] (RndQ E L fn ps assign body D cs O' out) { st1 with ob := upd st1.ob 0 (some (.lrec (recOf fn ps assign body D .busy none) L cs)) }) :
    DoesR P L args (.lrec (recOf fn ps assign body D .ready none) L cs :: O) (.c (.bool out.isNone)) (.lrec (recOf fn ps assign body D (if out.isNone then .ready else .done) out) L cs :: O') := by
  refine ⟨by simpa using hO, fun w G r vs hs hG hm hr => ?_⟩
  obtain ⟨arr, hr0, hh, hsz, hcs⟩ := hm.ob 0 _ rfl
  have hy := run_yield (P := P) (args := vs) hh (by show vs.size = ps.size; omega)
  refine ⟨fn, _, assign, body, hy, ?_⟩
  let E : Env := { Env.at_ P w G (.lrec (recOf fn ps assign body D .ready none) L cs :: O).length r with rd := some L }
  have hzip : (ps.toList.zip args).map (·.1) = ps.toList := by
    rw [List.map_fst_zip]
    simp; omega
  have hfp := frPut_ok (w := w) (G := (Env.at_ P w G (.lrec (recOf fn ps assign body D .ready none) L cs :: O).length r).good w r) (ρ := r) (ps.toList.zip args) vs.toList (argFr cs) arr (by simp; omega)
    (fun p hp => by rw [hsz]; exact hlt p.1 (by have := (List.of_mem_zip hp).1; simpa using this)) (fun k => by
      by_cases hk : k < cs.length
      · have hx := List.getElem?_eq_getElem hk
        simp only [argFr_eq, hx, Option.getD_some]
        exact hcs k _ hx
      · simp only [argFr_eq, List.getElem?_eq_none (Nat.le_of_not_lt hk), Option.getD_none]
        exact .junk) (fun i p hp => by
      have hi := List.getElem?_zip_eq_some.1 hp
      have := hr i p.2 hi.2
      simpa using this)
  rw [hzip] at hfp
  have htm : (ps.zip vs).foldl (fun tmps (p : Tmp × Value) => tmps.setIfInBounds p.1 p.2) arr = (ps.toList.zip vs.toList).foldl (fun t (p : Tmp × Value) => t.setIfInBounds p.1 p.2) arr := by
    rw [← Array.foldl_toList, Array.toList_zip]
  have hN : E.N = O.length + 1 := by simp [E, Env.at_]
  have h0 : SatR E ⟨frPut (ps.toList.zip args) (argFr cs), obL (.lrec (recOf fn ps assign body D .ready none) L cs :: O), nx, cs.length, md⟩ { tmps := (ps.zip vs).foldl (fun tmps (p : Tmp × Value) => tmps.setIfInBounds p.1 p.2) arr, defers := [] } w r := by
    refine ⟨Keep.refl _ _, ?_, DfrOk.nil, fun k => ?_, hm.ob, hm.no, hm.dis, hm.own, hm.le⟩
    · show Array.size _ = cs.length
      rw [htm, hfp.1, hsz]
    · show R w _ r _ (Array.getD _ k undef)
      rw [htm]
      exact hfp.2 k
  refine roundIn_of_wpIn (F := FW none) trivial (wpIn_mono (h1 E hT rfl hN rfl _ w ⟨r, h0⟩) ?_)
  rintro e a1 w1 ⟨s1, hs1, he⟩
  obtain ⟨rfl, hwk⟩ := (show e = .normal ∧ Weak E s1 st1 from he)
  obtain ⟨ρ1, hρ1⟩ := hwk a1 w1 hs1
  obtain ⟨arr1, hh1, _, _, hset⟩ := hρ1.recSet (mk' := recOf fn ps assign body D .busy none) hst1
  refine ⟨_, run_beginRound hh1 rfl, wpIn_mono (h2 E hT rfl hN rfl _ _ ⟨ρ1, hset⟩) ?_⟩
  rintro e a2 w2 ⟨s2, hs2, he⟩
  obtain ⟨hee, st', hwk2, hob⟩ := (show RndQ E L fn ps assign body D cs O' out e s2 from he)
  obtain ⟨ρ2, hρ2⟩ := hwk2 a2 w2 hs2
  obtain ⟨arr2, hh2, _, _, hset2⟩ := hρ2.recSet (k := 0) (mk' := recOf fn ps assign body D (if out.isNone then .ready else .done) out) (by rw [hob]; rfl)
  have hmem := hset2.mem
  rw [show ({ st' with ob := upd st'.ob 0 (some (.lrec (recOf fn ps assign body D (if out.isNone then .ready else .done) out) L cs)) } : ST).ob = obL (.lrec (recOf fn ps assign body D (if out.isNone then .ready else .done) out) L cs :: O') by show upd st'.ob 0 _ = _; rw [hob, obL_upd]] at hmem
  have hend := run_endRound (P := P) out hh2
  have key : ∃ v w', (Instr.endRound L out).run P w2 = .ok v w' ∧ ∃ v' ρ, Ending.returned v = .returned v' ∧ MemR (Env.at_ P w G (.lrec (recOf fn ps assign body D .ready none) L cs :: O).length r) (obL (.lrec (recOf fn ps assign body D (if out.isNone then .ready else .done) out) L cs :: O')) w' ρ ∧
      R w' ((Env.at_ P w G (.lrec (recOf fn ps assign body D .ready none) L cs :: O).length r).good w' ρ) ρ (.c (.bool out.isNone)) v' :=
    ⟨_, _, hend, _, ρ2, rfl, ⟨hmem.keep, hmem.ob, hmem.no, hmem.dis, hmem.own, hmem.le⟩, .c⟩
  rcases hee with ⟨rfl, rfl⟩ | ⟨rfl, rfl⟩ | ⟨id, rfl, rfl⟩ <;> exact key
section
variable {E : Env} {Q : Exit → ST → Prop} {st : ST} {k : List It}
/-- A range over a function, outside any round. kL: the record's name; K: the names of the objects lent, then those of new ones. -/
theorem XK.rangeFunc {g : Operand} {ps : Array Tmp} {assign body : Code} (kL : Nat) (K : List Nat) (frs : List AV) (st' : ST) {gf : Nat} {caps caps1 args' frs' : List AV} {O O' : List Ob} {obs : List (Nat × Ob)} {res : AV} {s : LoopState} {pend : Option Code}
    (hrd : E.rd = none) (hg : strip (st.ev g) = .fn (.func gf) [] caps) (hog : AllP (oblG none (st.ev g))) (hkL : st.ob kL = none) (hlen : frs.length = st.nt) (hfrs : ∀ i x, frs[i]? = some x → x = .junk ∨ AvIs (st.fr i) x)
    (hP : ∀ (L D : Nat) (fn : FuncId), DoesM E.P gf (.fn (.yield L) [] [] :: args') (.lrec (recOf fn ps assign body D .ready none) L frs' :: O) res (.lrec (recOf fn ps assign body D s pend) L frs' :: O'))
    (hfa : frcL (AV.mapL (renG (posF ((kL :: K).take (O.length + 1)))) caps) = some caps1) (ha : AvIsL caps1 args') (hfr' : AV.mapL (renG (posF ((kL :: K).take (O.length + 1)))) frs = frs') (hd : nodupB (kL :: K) = true)
    (hv : ViewIs st.ob (posF ((kL :: K).take (O.length + 1))) (K.take O.length) O) (hnew : (K.drop O.length).all (fun k => (st.ob k).isNone) = true) (hob : backF (renG (fun i => (kL :: K)[i]?)) K O' = some obs) (hs : s ≠ .busy)
    (hw : ∀ (L D : Nat) (fn : FuncId) (cs : List AV), Weak E { st with ob := upd (putAll st.ob obs) kL (some (.lrec (recOf fn ps assign body D .exhausted pend) L cs)) } st')
    (h : XK E (match pend with
      | none => k
      | some c => .code c :: k) Q st') : XK E (.code (.rangeFunc g ps assign body) :: k) Q st := by
  intro a w ⟨ρ, hS⟩
  rw [hrd]
  have hfa := frcL_eq hfa
  subst hfa hfr'
  have hgv : R w (E.good w ρ) ρ (strip (st.ev g)) (a.eval g) := strip_ok (gc := none) (fun g e => by cases e) (AllP.mem hog) (hS.ev g)
  rw [hg] at hgv
  generalize hev : a.eval g = fv at hgv
  cases hgv with
  | @fn _ _ _ _ fs cs q1 q2 q3 q4 =>
  obtain rfl : fs = #[] := Array.eq_empty_of_size_eq_zero (by simpa using q1)
  refine wpIn_rangeFunc (F := FW none) fun fn _ => ?_
  obtain ⟨fd, g1, g2, g3⟩ := (hP 0 0 fn).1
  -- the two blocks
  let W0 := w.alloc (.deferred (some []))
  let W1 := W0.alloc (recOf fn ps assign body w.heap.size .ready none a.tmps)
  have hk0 : Keep (fun _ => False) w W0 := Keep.of_below ((Go.RowKit.Below.refl _ _).alloc (Nat.le_refl _) _) (Nat.le_refl _)
  have hS0 : SatR E st a W0 ρ := hS.called hk0
  have hW0s : W0.heap.size = w.heap.size + 1 := by simp [W0]
  have hD0 : W0.heap[w.heap.size]? = some (.deferred (some [])) := World.alloc_heap_new w _
  have hDg : E.good W0 ρ w.heap.size := ⟨.inr (.inl hS.keep.size), by omega, fun k x hx hb => absurd (hS.lt hx hb) (by omega)⟩
  have hS1 : SatR E st { a with defers := dMark w.heap.size :: a.defers } W0 ρ := by
    refine ⟨hS0.keep, hS0.tsz, ?_, hS0.fr, hS0.ob, hS0.no, hS0.dis, hS0.own, hS0.le⟩
    obtain ⟨df, d1, d2, d3⟩ := hS.dfr
    obtain ⟨df0, e1, e2, e3⟩ := hS0.dfr
    refine ⟨w.heap.size :: df, by simp [d1], List.nodup_cons.2 ⟨fun hm => ?_, d2⟩, fun D hD => ?_⟩
    · have := (d3 _ hm).2.1.2.1
      omega
    · rcases List.mem_cons.1 hD with rfl | hD
      · exact ⟨hS.keep.size, hDg, hD0⟩
      · have hd3 := d3 D hD
        refine ⟨hd3.1, ⟨hd3.2.1.1, by have := hd3.2.1.2.1; omega, hd3.2.1.2.2⟩, ?_⟩
        rw [hk0.block D hd3.2.1.2.1 id]
        exact hd3.2.2
  have hS2 : SatR E { st with ob := upd st.ob kL (some (.lrec (recOf fn ps assign body w.heap.size .ready none) (w.heap.size + 1) frs)) } { a with defers := dMark w.heap.size :: a.defers } W1 (upd ρ kL (some (.blk (w.heap.size + 1)))) := by
    have hn := hS1.no kL hkL
    refine hS1.turn (.inl hn) (by rw [hn]; exact World.grownBy_alloc W0 _ none) (Nat.le_refl _) (fun b hb => ?_) fun hG hl => ?_
    · injection hb with hb; subst hb; exact .inr (by omega)
    · refine ⟨a.tmps, upd_same _ _ _, ?_, ?_, fun i x hx => ?_⟩
      · have := World.alloc_heap_new W0 (recOf fn ps assign body w.heap.size .ready none a.tmps)
        rwa [hW0s] at this
      · rw [hS.tsz, hlen]
      · rcases hfrs i x hx with h0 | h0
        · rw [h0]; exact .junk
        · exact (h0.ok (hS0.fr i)).tr hG _ hl
  refine ⟨w.heap.size + 1, [dMark w.heap.size], W1, { target := .fn (.func gf) cs, args := #[.func (.yield (w.heap.size + 1)) #[] #[]] }, W1, gf, #[.func (.yield (w.heap.size + 1)) #[] #[]] ++ cs, W1, ?_, ?_, fun _ _ => trivial, ?_, (fun e => by cases e), ?_⟩
  · exact run_enterLoop_outer _ _ _ _ _
  · simp only [resolve, hev]
    simp [go_sem]
  · have hbn : fd.body ≠ none := fun e => by rw [e] at g2; cases g2
    have hnm : fd.name ≠ "runtime.NumGoroutine" := by simpa using g3
    simp [invoke, callFunc, g1, hnm, hbn]
  · refine Calls.fw ?_ _ _
    have hev2 : (({ a with defers := dMark w.heap.size :: a.defers } : Act).eval g) = .func (.func gf) #[] cs := by rw [← hev]; cases g <;> rfl
    have hgv2 : R W1 (E.good W1 (upd ρ kL (some (.blk (w.heap.size + 1))))) (upd ρ kL (some (.blk (w.heap.size + 1)))) (.fn (.func gf) [] caps) (.func (.func gf) #[] cs) := by
      have h0 := strip_ok (gc := none) (fun g e => by cases e) (AllP.mem hog) (hS2.ev g)
      rw [hev2] at h0
      rw [← hg]
      exact h0
    have hcs : cs.size = caps.length ∧ ∀ i x, caps[i]? = some x → R W1 (E.good W1 (upd ρ kL (some (.blk (w.heap.size + 1))))) (upd ρ kL (some (.blk (w.heap.size + 1)))) x (cs.getD i undef) := by
      cases hgv2 with
      | fn _ _ r3 r4 => exact ⟨r3, r4⟩
    have hal := ha.at
    rw [AV.mapL_length] at hal
    have hkK : ∀ k ∈ K, k ≠ kL := fun k hk e => by
      subst e
      simp only [nodupB, Bool.and_eq_true, Bool.not_eq_true', List.any_eq_false] at hd
      exact hd.1 k hk (by simp)
    have hvv : ∀ (K' : List Nat) (O1 : List Ob), (∀ k ∈ K', k ≠ kL) → ViewIs st.ob (posF ((kL :: K).take (O.length + 1))) K' O1 →
        ViewIs (upd st.ob kL (some (.lrec (recOf fn ps assign body w.heap.size .ready none) (w.heap.size + 1) frs))) (posF ((kL :: K).take (O.length + 1))) K' O1 := by
      intro K'
      induction K' with
      | nil =>
        intro O1 _ hvw
        cases O1 with
        | nil => exact trivial
        | cons o l => cases l <;> exact hvw.elim
      | cons k K' ih =>
        intro O1 hk hvw
        have e : upd st.ob kL (some (.lrec (recOf fn ps assign body w.heap.size .ready none) (w.heap.size + 1) frs)) k = st.ob k := upd_other _ _ (hk k List.mem_cons_self)
        match O1, hvw with
        | [], _ => exact trivial
        | [o], hvw => show ObIs1 (Option.map _ (upd st.ob kL _ k)) o; rw [e]; exact hvw
        | o :: o' :: l, hvw => exact ⟨by rw [e]; exact hvw.1, ih _ (fun j hj => hk j (List.mem_cons_of_mem _ hj)) hvw.2⟩
    have hv2 := hvv (K.take O.length) O (fun k hk => hkK k (List.mem_of_mem_take hk)) hv
    have hv3 : ViewIs (upd st.ob kL (some (.lrec (recOf fn ps assign body w.heap.size .ready none) (w.heap.size + 1) frs))) (posF ((kL :: K).take (O.length + 1))) (kL :: K.take O.length) (.lrec (recOf fn ps assign body w.heap.size .ready none) (w.heap.size + 1) (AV.mapL (renG (posF ((kL :: K).take (O.length + 1)))) frs) :: O) := by
      have h1 : ObIs1 ((upd st.ob kL (some (.lrec (recOf fn ps assign body w.heap.size .ready none) (w.heap.size + 1) frs)) kL).map (Ob.map (renG (posF ((kL :: K).take (O.length + 1)))))) (.lrec (recOf fn ps assign body w.heap.size .ready none) (w.heap.size + 1) (AV.mapL (renG (posF ((kL :: K).take (O.length + 1)))) frs)) := by
        rw [upd_same]; exact ⟨rfl, rfl, rfl⟩
      cases O with
      | nil => exact h1
      | cons o O => exact ⟨h1, hv2⟩
    have hnew2 : ((kL :: K).drop (O.length + 1)).all (fun k => (upd st.ob kL (some (.lrec (recOf fn ps assign body w.heap.size .ready none) (w.heap.size + 1) frs)) k).isNone) = true := by
      rw [List.all_eq_true] at hnew ⊢
      intro k hk
      have hk : k ∈ K.drop O.length := hk
      rw [upd_other _ _ (hkK k (List.mem_of_mem_drop hk))]
      exact hnew k hk
    have hob2 : ∀ cs0, backF (renG (fun i => (kL :: K)[i]?)) (kL :: K) (.lrec (recOf fn ps assign body w.heap.size s pend) (w.heap.size + 1) cs0 :: O') = some ((kL, .lrec (recOf fn ps assign body w.heap.size s pend) (w.heap.size + 1) (AV.mapL (renG (fun i => (kL :: K)[i]?)) cs0)) :: obs) := by
      intro cs0
      have : frcKO kL (Ob.map (renG (fun i => (kL :: K)[i]?)) (.lrec (recOf fn ps assign body w.heap.size s pend) (w.heap.size + 1) cs0)) = some (kL, .lrec (recOf fn ps assign body w.heap.size s pend) (w.heap.size + 1) (AV.mapL (renG (fun i => (kL :: K)[i]?)) cs0)) := by
        simp only [Ob.map, frcKO, frcO, frcL_self]
        cases kL <;> rfl
      simp only [backF, this, hob]
    refine SatR.calledX (C := fun vs w R => Calls E.P gf vs w R) (fun _ _ _ _ hc hr => hc.mono hr) hS2 hS2 (fun _ _ h => h) (hP (w.heap.size + 1) w.heap.size fn).2 (K := kL :: K) (.inl rfl) hd (by simpa using hv3) (by simpa using hnew2) (hob2 _) ?_ ?_ (next := fun _ _ => True) (Q' := fun _ _ _ => True) ?_
    · simp; omega
    · intro i y hy
      cases i with
      | zero =>
        simp only [List.getElem?_cons_zero, Option.some.injEq] at hy
        subst hy
        refine ⟨.fn (.yield (w.heap.size + 1)) [] [], ?_, AvIs.refl _⟩
        have : (#[Value.func (.yield (w.heap.size + 1)) #[] #[]] ++ cs).getD 0 undef = .func (.yield (w.heap.size + 1)) #[] #[] := by simp [Array.getElem?_append]
        rw [this]
        exact .fn rfl (fun i a h => by simp at h) rfl (fun i a h => by simp at h)
      | succ i =>
        simp only [List.getElem?_cons_succ] at hy
        have hlt : i < caps.length := by
          have := (List.getElem?_eq_some_iff.1 hy).1
          omega
        have hx := List.getElem?_eq_getElem hlt
        refine ⟨_, ?_, hal.2 i _ y (mapL_at hx) hy⟩
        have hlt2 : i < cs.size := by omega
        have := hcs.2 i _ hx
        simpa [Nat.add_comm 1 i, Array.getElem?_append, hlt2] using this
    · intro v w' ρ' hm hle hG hr
      have h3 : SatR E { st with ob := putAll (upd st.ob kL (some (.lrec (recOf fn ps assign body w.heap.size .ready none) (w.heap.size + 1) frs))) ((kL, .lrec (recOf fn ps assign body w.heap.size s pend) (w.heap.size + 1) (AV.mapL (renG (fun i => (kL :: K)[i]?)) (AV.mapL (renG (posF ((kL :: K).take (O.length + 1)))) frs))) :: obs) } { a with defers := dMark w.heap.size :: a.defers } w' ρ' :=
        ⟨hm.keep, hS2.tsz, hS2.dfr.tr hG, fun k => (hS2.fr k).tr hG _ hle, hm.ob, hm.no, hm.dis, hm.own, hm.le⟩
      obtain ⟨arr, a1, -, -, a4⟩ := h3.recSet (k := kL) (mk' := recOf fn ps assign body w.heap.size .exhausted pend) (upd_same _ _ _)
      have hend := run_endLoop (P := E.P) a1 hs
      refine ⟨pend, _, hend, ?_⟩
      have heq : ∀ o1 o2 : Option Ob, upd (upd (putAll (upd st.ob kL o1) obs) kL o2) kL (some (.lrec (recOf fn ps assign body w.heap.size .exhausted pend) (w.heap.size + 1) (AV.mapL (renG (fun i => (kL :: K)[i]?)) (AV.mapL (renG (posF ((kL :: K).take (O.length + 1)))) frs)))) =
          upd (putAll st.ob obs) kL (some (.lrec (recOf fn ps assign body w.heap.size .exhausted pend) (w.heap.size + 1) (AV.mapL (renG (fun i => (kL :: K)[i]?)) (AV.mapL (renG (posF ((kL :: K).take (O.length + 1)))) frs)))) := by
        intro o1 o2
        funext j
        by_cases hj : j = kL
        · subst hj; rw [upd_same, upd_same]
        · rw [upd_other _ _ hj, upd_other _ _ hj, upd_other _ _ hj]
          by_cases hm : j ∈ obs.map (·.1)
          · exact putAll_mem hm
          · rw [putAll_not hm, putAll_not hm, upd_other _ _ hj]
      have h4 := a4
      simp only [putAll] at h4
      rw [heq] at h4
      have h5 := hw _ _ _ _ _ _ ⟨ρ', h4⟩
      cases pend with
      | none => exact ⟨st', h5, h⟩
      | some c =>
        have h6 : c.wpIn (FW E.rd) 0 E.P (Post E (XQ E k Q)) _ _ := h _ _ h5
        rw [hrd] at h6
        exact h6
end
end Go.Eng
end
section
/- The engine, part Y: ranges over functions in regions that draw; short frames. -/
namespace Go.Eng
section
variable {E : Env} {st : ST}
theorem yieldF_congr {s' : ST} {o : Oper} (hev : ∀ x ∈ o.op.operands, s'.ev x = st.ev x) : yieldF s' o.op = yieldF st o.op := by
  obtain ⟨dst, op, type, pos, after, guard⟩ := o
  simp only at hev ⊢
  unfold yieldF
  split
  · rename_i c
    obtain ⟨callee, cargs, tys⟩ := c
    simp only
    split
    · rename_i fo
      have hm : cargs.toList.map (fun x => strip (s'.ev x)) = cargs.toList.map (fun x => strip (st.ev x)) := List.map_congr_left fun x hx => by
        simp only [hev x (by simp [Op.operands, Call.operands]; exact .inr (by simpa using hx))]
      rw [hev fo (by simp [Op.operands, Call.operands]), hm]
    · rfl
  · rfl
theorem LocalM.yieldM {ops : Array Oper} {o : Oper} {l : Nat} {args args1 args' : List AV} {res res1 : AV} {O O' : List Ob} {K : List Nat} {obs : List (Nat × Ob)} (hc : yieldF st o.op = some (l, args)) (hg : o.guard = none) (hdst : dstOk st o = true) (ho : AllP (o.op.operands.toList.flatMap (fun x => oblG none (st.ev x))))
    (hP : DoesR E.P l args' O res O') (hfa : frcL (AV.mapL (renG (posF (K.take O.length))) args) = some args1) (ha : AvIsL args1 args') (hd : nodupB K = true)
    (hv : ViewIs st.ob (posF (K.take O.length)) (K.take O.length) O) (hnew : (K.drop O.length).all (fun k => (st.ob k).isNone) = true) (hob : backF (renG (fun i => K[i]?)) K O' = some obs) (hres : frc (res.map (renG (fun i => K[i]?))) = some res1) :
    LocalM E ops o st ⟨res1, obs⟩ (fpK ops.toList o K) := by
  intro s' hag
  have hev := ev_agreeK hag
  have hK : ∀ k ∈ K, s'.ob k = st.ob k := fun k hk => hag.2.2.2.2 k hk
  refine StepTo.yieldM ((yieldF_congr hev).trans hc) hg (by simpa [dstOk, hag.2.1] using hdst) (by rw [obl_congr hev]; exact ho) hP hfa ha hd (hv.congr fun k hk => hK k (List.mem_of_mem_take hk)) ?_ hob hres
  rw [List.all_eq_true] at hnew ⊢
  intro k hk
  rw [hK k (List.mem_of_mem_drop hk)]
  exact hnew k hk
end
section
variable {E : Env} {Q : Exit → ST → Prop} {ops : Array Oper} {o : Oper} {rest : List Oper} {l d : Nat} {args args1 args' : List AV} {res res1 : AV} {O O' : List Ob} {K : List Nat} {obs : List (Nat × Ob)} {fr : Nat → AV} {ob : Nat → Option Ob} {nx nt : Nat} {md : Nat → Bool} {P : Program} {k : List It} {tr0 : List (EffM × (List Nat × List Nat))}
theorem XD.yieldM (K : List Nat) (hE : E.P = P) (hc : yieldF ⟨fr, ob, nx, nt, md⟩ o.op = some (l, args)) (hg : o.guard = none) (hds : o.dst = some d) (hdl : Nat.blt d nt = true) (ho : AllP (o.op.operands.toList.flatMap (fun x => oblG none (ST.ev ⟨fr, ob, nx, nt, md⟩ x))))
    (hP : DoesR P l args' O res O') (hfa : frcL (AV.mapL (renG (posF (K.take O.length))) args) = some args1) (ha : AvIsL args1 args') (hd : nodupB K = true)
    (hv : ViewIs ob (posF (K.take O.length)) (K.take O.length) O) (hnew : (K.drop O.length).all (fun k => (ob k).isNone) = true) (hob : backF (renG (fun i => K[i]?)) K O' = some obs) (hres : frc (res.map (renG (fun i => K[i]?))) = some res1)
    (h : XD E ops Q k (tr0 ++ [(⟨res1, obs⟩, fpK ops.toList o K)]) rest ⟨upd fr d res1, putAll ob obs, nx, nt, md⟩) : XD E ops Q k tr0 (o :: rest) ⟨fr, ob, nx, nt, md⟩ := by
  refine XD.stepM (LocalM.yieldM hc hg (by simp [dstOk, hds, hdl]) ho (hE ▸ hP) hfa ha hd hv hnew hob hres) ?_
  rw [hds]; exact h
end
/-- A frame of n slots, of which these are known. -/
def frL (n : Nat) (L : List (Nat × AV)) : List AV := (List.range n).map (mkFr L)
theorem frL_length (n : Nat) (L : List (Nat × AV)) : (frL n L).length = n := by simp [frL]
theorem frL_is {st : ST} {n : Nat} {L : List (Nat × AV)} (h : FrIs st L) : ∀ (i : Nat) (x : AV), (frL n L)[i]? = some x → x = .junk ∨ AvIs (st.fr i) x := by
  intro i x hx
  simp only [frL, List.getElem?_map, Option.map_eq_some_iff] at hx
  obtain ⟨j, hj, rfl⟩ := hx
  have : j = i := by
    have := List.getElem?_eq_some_iff.1 hj
    obtain ⟨h1, h2⟩ := this
    simpa using h2.symm
  subst this
  rcases mkFr_or h j with h0 | ⟨h1, _⟩
  · exact .inl h0
  · exact .inr h1
/-- A nil slice in a cell, taken as an own row without elements. -/
theorem Weak.ghostC {E : Env} {st : ST} {c k t e sz : Nat} {f : Nat → List AV} (hc : st.ob c = some (.cells t [.c (.slice none 0 0)])) (hk : st.ob k = none) (hck : Nat.beq c k = false) :
    Weak E st { st with ob := upd (upd st.ob k (some (.vec e sz 0 0 f))) c (some (.cells t [.vec k 0])) } := by
  have hck : c ≠ k := fun h => by subst h; simp at hck
  intro a w ⟨ρ, h⟩
  have hn := h.no k hk
  have hu : ∀ i x b, upd ρ k (some (.hdr 0 (.slice none 0 0))) i = some x → x.block = some b → ρ i = some x := by
    intro i x b hi hb
    by_cases hik : i = k
    · subst hik; rw [upd_same] at hi; injection hi with hi; subst hi; cases hb
    · rwa [upd_other _ _ hik] at hi
  have hl : Le ρ (upd ρ k (some (.hdr 0 (.slice none 0 0)))) := by
    intro i x hi
    by_cases hik : i = k
    · subst hik; rw [hn] at hi; cases hi
    · rw [upd_other _ _ hik]; exact .inl hi
  have hG : ∀ b, E.good w ρ b → E.good w (upd ρ k (some (.hdr 0 (.slice none 0 0)))) b ∧ w.heap[b]? = w.heap[b]? := fun b ⟨h0, hlt, hno⟩ => ⟨⟨h0, hlt, fun i y hi hy => hno i y (hu i y b hi hy) hy⟩, rfl⟩
  refine ⟨upd ρ k (some (.hdr 0 (.slice none 0 0))), h.keep, h.tsz, h.dfr.tr hG, fun i => (h.fr i).tr hG _ hl, fun i o hi => ?_, fun i hi => ?_, fun i i' y y' b hi hi' hy hy' => h.dis i i' y y' b (hu i y b hi hy) (hu i' y' b hi' hy') hy hy', fun i y b hi hy => h.own i y b (hu i y b hi hy) hy, fun i hi x hx => ?_⟩
  · by_cases hic : i = c
    · subst hic
      simp only [upd_same] at hi
      injection hi with hi
      subst hi
      obtain ⟨g, arr, h1, h2, h3, h4⟩ := h.ob i _ hc
      refine ⟨g, arr, (upd_other _ _ hck).trans h1, h2, h3, fun j x hj => ?_⟩
      have hj0 : j = 0 := by
        have := (List.getElem?_eq_some_iff.1 hj).1
        simp at this
        exact this
      subst hj0
      simp only [List.getElem?_cons_zero, Option.some.injEq] at hj
      subst hj
      have := (h4 0 _ rfl).c_inv
      rw [this]
      exact .vec (upd_same _ _ _)
    · simp only [upd_other _ _ hic] at hi
      by_cases hik : i = k
      · subst hik
        simp only [upd_same] at hi
        injection hi with hi
        subst hi
        exact ⟨.slice none 0 0, [], upd_same _ _ _, ⟨by simp, .inl ⟨rfl, rfl⟩⟩, (fun i hi => absurd hi (by omega)), fun i j x hi => absurd hi (by omega)⟩
      · simp only [upd_other _ _ hik] at hi
        exact (h.ob i o hi).tr hG hl (upd_other _ _ hik) fun _ _ _ _ => rfl
  · by_cases hic : i = c
    · subst hic; simp only [upd_same] at hi; cases hi
    · simp only [upd_other _ _ hic] at hi
      by_cases hik : i = k
      · subst hik; rw [upd_same] at hi; cases hi
      · rw [upd_other _ _ hik] at hi ⊢; exact h.no i hi
  · rcases h.le i hi x hx with h1 | ⟨s, v, s', v', h1, h2, h3⟩
    · exact hl i x h1
    · rcases hl i _ h2 with h4 | ⟨s1, v1, s2, v2, h4, h5, h6⟩
      · exact .inr ⟨s, v, s', v', h1, h4, h3⟩
      · injection h4 with h4 h7
        exact .inr ⟨s, v, s2, v2, h1, h5, by omega⟩
/-- How a round is left, whatever way: what yield returns, and the record behind it. -/
def RndT (E : Env) (L : Nat) (fn : FuncId) (ps : Array Tmp) (assign body : Code) (D : Nat) (cs : List AV) (O' : List Ob) (bb : Bool) (mk' : Array Value → Obj) : Exit → ST → Prop := fun e s =>
  ∃ out, RndQ E L fn ps assign body D cs O' out e s ∧ out.isNone = bb ∧ recOf fn ps assign body D (if out.isNone then .ready else .done) out = mk'
theorem DoesR.mkT {P : Program} {T : TE} (hT : TOk P T) {L : Nat} {fn : FuncId} {ps : Array Tmp} {assign body : Code} {D : Nat} {cs args : List AV} {O O' : List Ob} {bb : Bool} {mk' : Array Value → Obj} (md : Nat → Bool) (nx : Nat) (st1 : ST)
    (hps : ps.size = args.length) (hlt : ∀ t ∈ ps, t < cs.length) (hO : O.length ≤ O'.length)
    (h1 : ∀ E : Env, TOk E.P T → E.P = P → E.N = O.length + 1 → E.rd = some L → XK E [.code assign] (fun e s => e = .normal ∧ Weak E s st1) ⟨frPut (ps.toList.zip args) (argFr cs), obL (.lrec (recOf fn ps assign body D .ready none) L cs :: O), nx, cs.length, md⟩)
    (hst1 : st1.ob 0 = some (.lrec (recOf fn ps assign body D .ready none) L cs))
    (h2 : ∀ E : Env, TOk E.P T → E.P = P → E.N = O.length + 1 → E.rd = some L → XK E [.code body] (RndT E L fn ps assign body D cs O' bb mk') { st1 with ob := upd st1.ob 0 (some (.lrec (recOf fn ps assign body D .busy none) L cs)) }) :
    DoesR P L args (.lrec (recOf fn ps assign body D .ready none) L cs :: O) (.c (.bool bb)) (.lrec mk' L cs :: O') := by
  refine ⟨by simpa using hO, fun w G r vs hs hG hm hr => ?_⟩
  obtain ⟨arr, hr0, hh, hsz, hcs⟩ := hm.ob 0 _ rfl
  have hy := run_yield (P := P) (args := vs) hh (by show vs.size = ps.size; omega)
  refine ⟨fn, _, assign, body, hy, ?_⟩
  let E : Env := { Env.at_ P w G (.lrec (recOf fn ps assign body D .ready none) L cs :: O).length r with rd := some L }
  have hzip : (ps.toList.zip args).map (·.1) = ps.toList := by
    rw [List.map_fst_zip]
    simp; omega
  have hfp := frPut_ok (w := w) (G := (Env.at_ P w G (.lrec (recOf fn ps assign body D .ready none) L cs :: O).length r).good w r) (ρ := r) (ps.toList.zip args) vs.toList (argFr cs) arr (by simp; omega)
    (fun p hp => by rw [hsz]; exact hlt p.1 (by have := (List.of_mem_zip hp).1; simpa using this)) (fun k => by
      by_cases hk : k < cs.length
      · have hx := List.getElem?_eq_getElem hk
        simp only [argFr_eq, hx, Option.getD_some]
        exact hcs k _ hx
      · simp only [argFr_eq, List.getElem?_eq_none (Nat.le_of_not_lt hk), Option.getD_none]
        exact .junk) (fun i p hp => by
      have hi := List.getElem?_zip_eq_some.1 hp
      have := hr i p.2 hi.2
      simpa using this)
  rw [hzip] at hfp
  have htm : (ps.zip vs).foldl (fun tmps (p : Tmp × Value) => tmps.setIfInBounds p.1 p.2) arr = (ps.toList.zip vs.toList).foldl (fun t (p : Tmp × Value) => t.setIfInBounds p.1 p.2) arr := by
    rw [← Array.foldl_toList, Array.toList_zip]
  have hN : E.N = O.length + 1 := by simp [E, Env.at_]
  have h0 : SatR E ⟨frPut (ps.toList.zip args) (argFr cs), obL (.lrec (recOf fn ps assign body D .ready none) L cs :: O), nx, cs.length, md⟩ { tmps := (ps.zip vs).foldl (fun tmps (p : Tmp × Value) => tmps.setIfInBounds p.1 p.2) arr, defers := [] } w r := by
    refine ⟨Keep.refl _ _, ?_, DfrOk.nil, fun k => ?_, hm.ob, hm.no, hm.dis, hm.own, hm.le⟩
    · show Array.size _ = cs.length
      rw [htm, hfp.1, hsz]
    · show R w _ r _ (Array.getD _ k undef)
      rw [htm]
      exact hfp.2 k
  refine roundIn_of_wpIn (F := FW none) trivial (wpIn_mono (h1 E hT rfl hN rfl _ w ⟨r, h0⟩) ?_)
  rintro e a1 w1 ⟨s1, hs1, he⟩
  obtain ⟨rfl, hwk⟩ := (show e = .normal ∧ Weak E s1 st1 from he)
  obtain ⟨ρ1, hρ1⟩ := hwk a1 w1 hs1
  obtain ⟨arr1, hh1, _, _, hset⟩ := hρ1.recSet (mk' := recOf fn ps assign body D .busy none) hst1
  refine ⟨_, run_beginRound hh1 rfl, wpIn_mono (h2 E hT rfl hN rfl _ _ ⟨ρ1, hset⟩) ?_⟩
  rintro e a2 w2 ⟨s2, hs2, he⟩
  obtain ⟨out, ⟨hee, st', hwk2, hob⟩, rfl, rfl⟩ := (show RndT E L fn ps assign body D cs O' bb mk' e s2 from he)
  obtain ⟨ρ2, hρ2⟩ := hwk2 a2 w2 hs2
  obtain ⟨arr2, hh2, _, _, hset2⟩ := hρ2.recSet (k := 0) (mk' := recOf fn ps assign body D (if out.isNone then .ready else .done) out) (by rw [hob]; rfl)
  have hmem := hset2.mem
  rw [show ({ st' with ob := upd st'.ob 0 (some (.lrec (recOf fn ps assign body D (if out.isNone then .ready else .done) out) L cs)) } : ST).ob = obL (.lrec (recOf fn ps assign body D (if out.isNone then .ready else .done) out) L cs :: O') by show upd st'.ob 0 _ = _; rw [hob, obL_upd]] at hmem
  have hend := run_endRound (P := P) out hh2
  have key : ∃ v w', (Instr.endRound L out).run P w2 = .ok v w' ∧ ∃ v' ρ, Ending.returned v = .returned v' ∧ MemR (Env.at_ P w G (.lrec (recOf fn ps assign body D .ready none) L cs :: O).length r) (obL (.lrec (recOf fn ps assign body D (if out.isNone then .ready else .done) out) L cs :: O')) w' ρ ∧
      R w' ((Env.at_ P w G (.lrec (recOf fn ps assign body D .ready none) L cs :: O).length r).good w' ρ) ρ (.c (.bool out.isNone)) v' :=
    ⟨_, _, hend, _, ρ2, rfl, ⟨hmem.keep, hmem.ob, hmem.no, hmem.dis, hmem.own, hmem.le⟩, .c⟩
  rcases hee with ⟨rfl, rfl⟩ | ⟨rfl, rfl⟩ | ⟨id, rfl, rfl⟩ <;> exact key
/-- The objects in an order of names. -/
theorem Weak.names {E : Env} {fr : Nat → AV} {ob : Nat → Option Ob} {nx nt n : Nat} {md : Nat → Bool} {O1 O' : List Ob} (L : List Nat) (hN : E.N = n) (hd : nodupB L = true) (hn : (List.range n).all (fun i => match L[i]? with
    | some k => Nat.beq k i
    | none => false) = true) (hO : obsF ob (renG (posF L)) L = some O1) (hOO : ObAll O1 O') : Weak E ⟨fr, ob, nx, nt, md⟩ ⟨fun j => (fr j).map (renG (posF L)), obL O', nx, nt, md⟩ := by
  refine Weak.trans (Weak.ren L hN hd hn) ?_
  have hob : (ST.ren ⟨fr, ob, nx, nt, md⟩ L).ob = obL O1 := funext fun i => (obsF_ok hO i).symm
  obtain ⟨hl, hat⟩ := hOO.at_
  intro a w ⟨ρ, h⟩
  refine ⟨ρ, h.keep, h.tsz, h.dfr, h.fr, fun k o ho => ?_, fun k ho => ?_, h.dis, h.own, h.le⟩
  · have hlt : k < O1.length := by
      have := (List.getElem?_eq_some_iff.1 ho).1
      omega
    have h1 : O1[k]? = some O1[k] := List.getElem?_eq_getElem hlt
    exact ObIs1.ok (hat k _ o h1 ho) (h.ob k _ (by rw [hob]; exact h1))
  · refine h.no k ?_
    rw [hob]
    have ho : O'[k]? = none := ho
    show O1[k]? = none
    simp at ho ⊢
    omega
section
variable {E : Env} {L : Nat} {fn : FuncId} {ps : Array Tmp} {assign body : Code} {D : Nat} {cs : List AV} {O1 O' : List Ob} {bb : Bool} {mk' : Array Value → Obj} {fr : Nat → AV} {ob : Nat → Option Ob} {nx nt n : Nat} {md : Nat → Bool} {k : List It}
theorem XK.outY (K : List Nat) (hN : E.N = n) (hd : nodupB K = true) (hn : (List.range n).all (fun i => match K[i]? with
    | some k => Nat.beq k i
    | none => false) = true) (hO : obsF ob (renG (posF K)) K = some O1) (hOO : ObAll O1 (.lrec (recOf fn ps assign body D .busy none) L cs :: O')) (hb : false = bb) (hmk : recOf fn ps assign body D .done (some .ret) = mk') :
    XK E (.code .ret :: k) (RndT E L fn ps assign body D cs O' bb mk') ⟨fr, ob, nx, nt, md⟩ :=
  XK.ret ⟨some .ret, ⟨.inr (.inl ⟨rfl, rfl⟩), _, Weak.names K hN hd hn hO hOO, rfl⟩, hb, hmk⟩
theorem XK.outYN (K : List Nat) (hN : E.N = n) (hd : nodupB K = true) (hn : (List.range n).all (fun i => match K[i]? with
    | some k => Nat.beq k i
    | none => false) = true) (hO : obsF ob (renG (posF K)) K = some O1) (hOO : ObAll O1 (.lrec (recOf fn ps assign body D .busy none) L cs :: O')) (hb : true = bb) (hmk : recOf fn ps assign body D .ready none = mk') :
    XK E [] (RndT E L fn ps assign body D cs O' bb mk') ⟨fr, ob, nx, nt, md⟩ :=
  XK.nil ⟨none, ⟨.inl ⟨rfl, rfl⟩, _, Weak.names K hN hd hn hO hOO, rfl⟩, hb, hmk⟩
theorem XK.nilY {st st' : ST} (hw : Weak E st st') (h : XK E [] (RndT E L fn ps assign body D cs O' bb mk') st') : XK E [] (RndT E L fn ps assign body D cs O' bb mk') st := by
  obtain ⟨out, ⟨h1, st2, h2, h3⟩, h4, h5⟩ := (show RndT E L fn ps assign body D cs O' bb mk' .normal st' from h)
  exact ⟨out, ⟨h1, st2, Weak.trans hw h2, h3⟩, h4, h5⟩
end
/-- An own row, q, goes over into a lent one, k, under a later stamp. -/
def giveG (k q s T : Nat) : AV → AV
  | .vec j s' => bif Nat.beq j k then .junk else (bif Nat.beq j q then (bif Nat.beq s' s then .vec k T else .junk) else .vec j s')
  | .vptr j s' sz i off => bif Nat.beq j k then .junk else (bif Nat.beq j q then (bif Nat.beq s' s then .vptr k T sz i off else .junk) else .vptr j s' sz i off)
  | x => x
def ST.give (st : ST) (k q s T : Nat) (o : Ob) : ST := { st with fr := fun j => (st.fr j).map (giveG k q s T), ob := upd (upd (fun j => (st.ob j).map (Ob.map (giveG k q s T))) q none) k (some o) }
theorem Weak.give {E : Env} {st : ST} {k q e sz s n m e0 sz0 s0 n0 : Nat} {f f0 : Nat → List AV} (T : Nat) (hN : E.N = m) (hk : st.ob k = some (.vec e0 sz0 s0 n0 f0)) (hq : st.ob q = some (.vec e sz s n f)) (hqm : Nat.ble m q = true) (hkq : Nat.beq k q = false) (hT : s0 < T) :
    Weak E st (st.give k q s T (.vec e sz T n f)) := by
  rintro a w ⟨ρ, h⟩
  have hkq : k ≠ q := fun e => by subst e; simp at hkq
  obtain ⟨hv, xs, hg, hown, hf, hr⟩ := h.ob q _ hq
  obtain ⟨hv0, xs0, hg0, -, -, -⟩ := h.ob k _ hk
  let ρ' : Rho := upd (upd ρ q none) k (some (.hdr T hv))
  have e1 : ρ' k = some (.hdr T hv) := upd_same _ _ _
  have e2 : ρ' q = none := by simp only [ρ']; rw [upd_other _ _ (Ne.symm hkq), upd_same]
  have e3 : ∀ j, j ≠ k → j ≠ q → ρ' j = ρ j := fun j h1 h2 => by simp only [ρ']; rw [upd_other _ _ h1, upd_other _ _ h2]
  have hcase : ∀ j x b, ρ' j = some x → x.block = some b → (j = k ∧ ρ q = some (.hdr s hv) ∧ (RV.hdr s hv).block = some b) ∨ (j ≠ k ∧ j ≠ q ∧ ρ j = some x) := by
    intro j x b hj hb
    by_cases h1 : j = k
    · subst h1; rw [e1] at hj; injection hj with hj; subst hj; exact .inl ⟨rfl, hg, hb⟩
    · by_cases h2 : j = q
      · subst h2; rw [e2] at hj; cases hj
      · rw [e3 j h1 h2] at hj; exact .inr ⟨h1, h2, hj⟩
  have hG : ∀ b, E.good w ρ b → E.good w ρ' b := fun b ⟨h0, hlt, hno⟩ => ⟨h0, hlt, fun j y hj hy => by
    rcases hcase j y b hj hy with ⟨_, h1, h2⟩ | ⟨_, _, h1⟩
    · exact hno q _ h1 h2
    · exact hno j y h1 hy⟩
  have leaf : ∀ x v, x.isName = true → R w (E.good w ρ) ρ x v → R w (E.good w ρ') ρ' (giveG k q s T x) v := by
    intro x v hx hxv
    cases hxv with
    | @ptr _ j off g hj =>
      refine .ptr ((e3 j (fun e => ?_) (fun e => ?_)).trans hj)
      · subst e; rw [hg0] at hj; injection hj with hj; cases hj
      · subst e; rw [hg] at hj; injection hj with hj; cases hj
    | @mp _ j g hj =>
      refine .mp ((e3 j (fun e => ?_) (fun e => ?_)).trans hj)
      · subst e; rw [hg0] at hj; injection hj with hj; cases hj
      · subst e; rw [hg] at hj; injection hj with hj; cases hj
    | @vptr _ j s' sz' i off g n' cap hj hi =>
      simp only [giveG]
      cases hb0 : Nat.beq j k with
      | true => exact .junk
      | false =>
        simp only [cond_false]
        cases hb : Nat.beq j q with
        | false => exact .vptr ((e3 j (fun e => by subst e; simp at hb0) (fun e => by subst e; simp at hb)).trans hj) hi
        | true =>
          have := Nat.eq_of_beq_eq_true hb
          subst this
          rw [hg] at hj
          injection hj with hj
          injection hj with h1 h2
          subst h1 h2
          simp only [cond_true]
          cases hb2 : Nat.beq s s with
          | false => exact .junk
          | true => exact .vptr e1 hi
    | @vptrOld _ j s1 s2 sz' i off hv' v' hj hlt =>
      simp only [giveG]
      cases hb0 : Nat.beq j k with
      | true => exact .junk
      | false =>
        simp only [cond_false]
        cases hb : Nat.beq j q with
        | false => exact .vptrOld ((e3 j (fun e => by subst e; simp at hb0) (fun e => by subst e; simp at hb)).trans hj) hlt
        | true =>
          have := Nat.eq_of_beq_eq_true hb
          subst this
          rw [hg] at hj
          injection hj with hj
          injection hj with h1 h2
          subst h1
          simp only [cond_true]
          cases hb2 : Nat.beq s1 s with
          | true => have := Nat.eq_of_beq_eq_true hb2; omega
          | false => exact .junk
    | @vec _ j s' hv' hj =>
      simp only [giveG]
      cases hb0 : Nat.beq j k with
      | true => exact .junk
      | false =>
        simp only [cond_false]
        cases hb : Nat.beq j q with
        | false => exact .vec ((e3 j (fun e => by subst e; simp at hb0) (fun e => by subst e; simp at hb)).trans hj)
        | true =>
          have := Nat.eq_of_beq_eq_true hb
          subst this
          rw [hg] at hj
          injection hj with hj
          injection hj with h1 h2
          subst h1 h2
          simp only [cond_true]
          cases hb2 : Nat.beq s s with
          | false => exact .junk
          | true => exact .vec e1
    | @vecOld _ j s1 s2 hv' v' hj hlt =>
      simp only [giveG]
      cases hb0 : Nat.beq j k with
      | true => exact .junk
      | false =>
        simp only [cond_false]
        cases hb : Nat.beq j q with
        | false => exact .vecOld ((e3 j (fun e => by subst e; simp at hb0) (fun e => by subst e; simp at hb)).trans hj) hlt
        | true =>
          have := Nat.eq_of_beq_eq_true hb
          subst this
          rw [hg] at hj
          injection hj with hj
          injection hj with h1 h2
          subst h1
          simp only [cond_true]
          cases hb2 : Nat.beq s1 s with
          | true => have := Nat.eq_of_beq_eq_true hb2; omega
          | false => exact .junk
    | _ => simp [AV.isName] at hx
  refine ⟨ρ', h.convT (g := giveG k q s T) (fun j => if j = k then q else j) rfl (fun _ => rfl) leaf (fun j o ho => ?_) (fun j ho => ?_) (fun j x b hj hb => ?_) (fun j j' x x' b hj hj' hb hb' ht => ?_) fun j hj x hx => ?_⟩
  · simp only [ST.give] at ho
    by_cases h1 : j = k
    · subst h1
      rw [upd_same] at ho
      injection ho with ho
      subst ho
      exact ⟨hv, xs, e1, hown, hf, fun i jj x hi hx => (hr i jj x hi hx).tr (fun b hb => ⟨hG b hb, rfl⟩) _ (Le.refl _)⟩
    · rw [upd_other _ _ h1] at ho
      by_cases h2 : j = q
      · subst h2; rw [upd_same] at ho; cases ho
      · rw [upd_other _ _ h2] at ho
        simp only [Option.map_eq_some_iff] at ho
        obtain ⟨o1, ho1, rfl⟩ := ho
        exact (h.ob j o1 ho1).map hG leaf (e3 j h1 h2)
  · simp only [ST.give] at ho
    by_cases h1 : j = k
    · subst h1; rw [upd_same] at ho; cases ho
    · rw [upd_other _ _ h1] at ho
      by_cases h2 : j = q
      · subst h2; exact e2
      · rw [upd_other _ _ h2] at ho
        rw [e3 j h1 h2]
        exact h.no j (by simpa using ho)
  · rcases hcase j x b hj hb with ⟨rfl, h1, h2⟩ | ⟨h1, h2, h3⟩
    · exact ⟨_, by rw [if_pos rfl]; exact h1, h2⟩
    · exact ⟨x, by rw [if_neg h1]; exact h3, hb⟩
  · rcases hcase j x b hj hb with ⟨rfl, h1, h2⟩ | ⟨h1, h2, h3⟩ <;> rcases hcase j' x' b hj' hb' with ⟨rfl, g1, g2⟩ | ⟨g1, g2, g3⟩
    · rfl
    · rw [if_pos rfl, if_neg g1] at ht; exact absurd ht.symm g2
    · rw [if_pos rfl, if_neg h1] at ht; exact absurd ht h2
    · rw [if_neg h1, if_neg g1] at ht; exact ht
  · have hq2 : j ≠ q := fun e => by
      subst e
      have := Nat.le_of_ble_eq_true hqm
      omega
    by_cases h1 : j = k
    · subst h1
      rcases h.le j hj x hx with h2 | ⟨s1, v1, s2, v2, h2, h3, h4⟩
      · rw [hg0] at h2
        injection h2 with h2
        exact .inr ⟨s0, hv0, T, hv, h2.symm, e1, hT⟩
      · rw [hg0] at h3
        injection h3 with h3
        injection h3 with h5 h6
        exact .inr ⟨s1, v1, T, hv, h2, e1, by omega⟩
    · rw [e3 j h1 hq2]
      exact h.le j hj x hx
theorem stealG_self (k s q : Nat) : stealG k s q (.vec k s) = .vec q 0 := by simp [stealG, Nat.beq_refl]
theorem stampG_self (k s t : Nat) : stampG k s t (.vec k s) = .vec k t := by simp [stampG, Nat.beq_refl]
end Go.Eng
end
section
/- The engine, part Z: the rules with their small goals closed by themselves. -/
namespace Go.Eng
theorem tdivE (a b : Nat) : Int.tdiv (a : Int) (b : Int) = ((a / b : Nat) : Int) := rfl
theorem tmodE (a b : Nat) : Int.tmod (a : Int) (b : Int) = ((a % b : Nat) : Int) := rfl
section
variable {E : Env} {Q : Exit → ST → Prop} {ops : Array Oper} {o : Oper} {rest : List Oper} {f d : Nat} {args args1 args' : List AV} {res res1 : AV} {O O' : List Ob} {K : List Nat} {obs : List (Nat × Ob)} {fr : Nat → AV} {ob : Nat → Option Ob} {nx nt : Nat} {md : Nat → Bool} {P : Program} {k : List It} {tr0 : List (EffM × (List Nat × List Nat))} {T : TE}
theorem XK.rgnA (hT : TOk E.P T) {id : Nat} {ops : Array Oper} {fr fr' : Nat → AV} {ob ob' : Nat → Option Ob} {nx nt : Nat} {md : Nat → Bool} {obl obl' : List Prop} (hd : ops.toList.all (dstOk ⟨fun _ => .junk, fun _ => none, nx, nt, md⟩) = true)
    (hr : runF T ops.toList nx nt md [] fr ob ops.toList = ⟨obl, fr', ob', []⟩) (hf : frcR obl [] = some obl') (h : XK E k Q ⟨fr', ob', nx + nt, nt, md⟩)
    (ho : AllP obl' := by (first | exact trivial | (simp [AllP, impG]; done) | (simp only [AllP, List.append, List.nil_append, List.cons_append, inK, Go.Eng.tdivE, Go.Eng.tmodE, Int.toNat_natCast]; omega) | (simp [AllP, impG, inK, Go.Eng.tdivE, Go.Eng.tmodE]; omega) | ((repeat (first | (focus (first | omega | (intro i hi; first | rfl | (cases Nat.lt_one_iff.1 hi; rfl) | (rcases i with _ | _ | _ | _ | i <;> first | rfl | (exfalso; omega))) | (simp <;> omega))) | refine ⟨?_, ?_⟩)); done) | (simp only [AllP, impG, inK]; grind))) :
    XK E (.code (.region id ops false) :: k) Q ⟨fr, ob, nx, nt, md⟩ :=
  XK.rgn (hT := hT) (hd := hd) (hr := hr) (hf := hf) (ho := ho) (h := h)
theorem XK.rgnB (hT : TOk E.P T) (hm : E.P.follows .mixedOrders = true) {id : Nat} {fr fr' : Nat → AV} {ob ob' : Nat → Option Ob} {nx nt : Nat} {md : Nat → Bool} {obl obl' : List Prop} (hd : ops.toList.all (dstOk ⟨fun _ => .junk, fun _ => none, nx, nt, md⟩) = true)
    (hr : runF T ops.toList nx nt md [] fr ob ops.toList = ⟨obl, fr', ob', []⟩) (hf : frcR obl [] = some obl') (h : XK E k Q ⟨fr', ob', nx + nt, nt, md⟩)
    (hc : checkD [] [] ops.toList (runD T ops.toList nx nt md [] [] fr ob ops.toList).tr = true := by kernel_rfl)
    (ho : AllP obl' := by (first | exact trivial | (simp [AllP, impG]; done) | (simp only [AllP, List.append, List.nil_append, List.cons_append, inK, Go.Eng.tdivE, Go.Eng.tmodE, Int.toNat_natCast]; omega) | (simp [AllP, impG, inK, Go.Eng.tdivE, Go.Eng.tmodE]; omega) | ((repeat (first | (focus (first | omega | (intro i hi; first | rfl | (cases Nat.lt_one_iff.1 hi; rfl) | (rcases i with _ | _ | _ | _ | i <;> first | rfl | (exfalso; omega))) | (simp <;> omega))) | refine ⟨?_, ?_⟩)); done) | (simp only [AllP, impG, inK]; grind))) :
    XK E (.code (.region id ops true) :: k) Q ⟨fr, ob, nx, nt, md⟩ :=
  XK.rgnD (hT := hT) (hm := hm) (hd := hd) (hr := hr) (hf := hf) (hc := hc) (ho := ho) (h := h)
theorem XL.goA (hT : TOk E.P T) {ops : Array Oper} {l rest : List Oper} {fr fr' : Nat → AV} {ob ob' : Nat → Option Ob} {nx nt : Nat} {md : Nat → Bool} {obl obl' : List Prop} (hd : ops.toList.all (dstOk ⟨fun _ => .junk, fun _ => none, nx, nt, md⟩) = true)
    (hm : ops.toList.drop (ops.toList.length - l.length) = l) (hr : runF T ops.toList nx nt md [] fr ob l = ⟨obl, fr', ob', rest⟩) (hf : frcR obl [] = some obl') (h : XL E ops Q rest ⟨fr', ob', nx, nt, md⟩)
    (ho : AllP obl' := by (first | exact trivial | (simp [AllP, impG]; done) | (simp only [AllP, List.append, List.nil_append, List.cons_append, inK, Go.Eng.tdivE, Go.Eng.tmodE, Int.toNat_natCast]; omega) | (simp [AllP, impG, inK, Go.Eng.tdivE, Go.Eng.tmodE]; omega) | ((repeat (first | (focus (first | omega | (intro i hi; first | rfl | (cases Nat.lt_one_iff.1 hi; rfl) | (rcases i with _ | _ | _ | _ | i <;> first | rfl | (exfalso; omega))) | (simp <;> omega))) | refine ⟨?_, ?_⟩)); done) | (simp only [AllP, impG, inK]; grind))) : XL E ops Q l ⟨fr, ob, nx, nt, md⟩ :=
  XL.go (hT := hT) (hd := hd) (hm := hm) (hr := hr) (hf := hf) (ho := ho) (h := h)
theorem XD.goA (hT : TOk E.P T) {l rest : List Oper} {fr fr' : Nat → AV} {ob ob' : Nat → Option Ob} {nx nt : Nat} {md : Nat → Bool} {obl obl' : List Prop} (hd : ops.toList.all (dstOk ⟨fun _ => .junk, fun _ => none, nx, nt, md⟩) = true)
    (hm : ops.toList.drop (ops.toList.length - l.length) = l) (hr : runF T ops.toList nx nt md [] fr ob l = ⟨obl, fr', ob', rest⟩) (hf : frcR obl [] = some obl') (h : XD E ops Q k (runD T ops.toList nx nt md [] tr0 fr ob l).tr rest ⟨fr', ob', nx, nt, md⟩)
    (ho : AllP obl' := by (first | exact trivial | (simp [AllP, impG]; done) | (simp only [AllP, List.append, List.nil_append, List.cons_append, inK, Go.Eng.tdivE, Go.Eng.tmodE, Int.toNat_natCast]; omega) | (simp [AllP, impG, inK, Go.Eng.tdivE, Go.Eng.tmodE]; omega) | ((repeat (first | (focus (first | omega | (intro i hi; first | rfl | (cases Nat.lt_one_iff.1 hi; rfl) | (rcases i with _ | _ | _ | _ | i <;> first | rfl | (exfalso; omega))) | (simp <;> omega))) | refine ⟨?_, ?_⟩)); done) | (simp only [AllP, impG, inK]; grind))) : XD E ops Q k tr0 l ⟨fr, ob, nx, nt, md⟩ :=
  XD.go (hT := hT) (hd := hd) (hm := hm) (hr := hr) (hf := hf) (ho := ho) (h := h)
theorem XL.callLA (hE : E.P = P) (hc : callF ⟨fr, ob, nx, nt, md⟩ o.op = some (f, args)) (hg : o.guard = none) (hds : o.dst = some d) (hd : Nat.blt d nt = true) (ho : AllP (o.op.operands.toList.flatMap (fun x => oblG none (ST.ev ⟨fr, ob, nx, nt, md⟩ x))))
    (hfa : frcL (AV.lendL ob args) = some args1) (hP : Does P f args' res) (hfl : res.flat = true) (h : XL E ops Q rest ⟨upd fr d res, ob, nx, nt, md⟩)
    (ha : AvIsL args1 args' := by ((repeat' (first | exact rfl | exact AvIs.refl _ | exact trivial | (intro i hi; rfl) | exact fun _ _ => ⟨rfl, AvIs.refl _⟩ | (intro i hi; rcases i with _ | _ | _ | _ | _ | _ | _ | i <;> first | rfl | (exfalso; omega)) | refine ⟨?_, ?_⟩)); done)) : XL E ops Q (o :: rest) ⟨fr, ob, nx, nt, md⟩ :=
  XL.callL (hE := hE) (hc := hc) (hg := hg) (hds := hds) (hd := hd) (ho := ho) (hfa := hfa) (hP := hP) (ha := ha) (hfl := hfl) (h := h)
theorem XL.callKA (hE : E.P = P) (hc : callF ⟨fr, ob, nx, nt, md⟩ o.op = some (f, args)) (hg : o.guard = none) (hds : o.dst = some d) (hd : Nat.blt d nt = true) (ho : AllP (o.op.operands.toList.flatMap (fun x => oblG none (ST.ev ⟨fr, ob, nx, nt, md⟩ x))))
    (hfa : frcL args = some args1) (hks : AV.ksL (fun _ => false) args1 = true) (hP : Does P f args' res) (h : XL E ops Q rest ⟨upd fr d res, ob, nx, nt, md⟩)
    (ha : AvIsL args1 args' := by ((repeat' (first | exact rfl | exact AvIs.refl _ | exact trivial | (intro i hi; rfl) | exact fun _ _ => ⟨rfl, AvIs.refl _⟩ | (intro i hi; rcases i with _ | _ | _ | _ | _ | _ | _ | i <;> first | rfl | (exfalso; omega)) | refine ⟨?_, ?_⟩)); done)) : XL E ops Q (o :: rest) ⟨fr, ob, nx, nt, md⟩ :=
  XL.callK (hE := hE) (hc := hc) (hg := hg) (hds := hds) (hd := hd) (ho := ho) (hfa := hfa) (hks := hks) (hP := hP) (ha := ha) (h := h)
theorem XL.callMA (K : List Nat) (hE : E.P = P) (hc : callF ⟨fr, ob, nx, nt, md⟩ o.op = some (f, args)) (hg : o.guard = none) (hds : o.dst = some d) (hdl : Nat.blt d nt = true) (ho : AllP (o.op.operands.toList.flatMap (fun x => oblG none (ST.ev ⟨fr, ob, nx, nt, md⟩ x))))
    (hP : DoesM P f args' O res O') (hfa : frcL (AV.mapL (renG (posF (K.take O.length))) args) = some args1) (hd : nodupB K = true) (hnew : (K.drop O.length).all (fun k => (ob k).isNone) = true) (hob : backF (renG (fun i => K[i]?)) K O' = some obs) (hres : frc (res.map (renG (fun i => K[i]?))) = some res1)
    (h : XL E ops Q rest ⟨upd fr d res1, putAll ob obs, nx, nt, md⟩)
    (ha : AvIsL args1 args' := by ((repeat' (first | exact rfl | exact AvIs.refl _ | exact trivial | (intro i hi; rfl) | exact fun _ _ => ⟨rfl, AvIs.refl _⟩ | (intro i hi; rcases i with _ | _ | _ | _ | _ | _ | _ | i <;> first | rfl | (exfalso; omega)) | refine ⟨?_, ?_⟩)); done))
    (hv : ViewIs ob (posF (K.take O.length)) (K.take O.length) O := by ((repeat' (first | exact rfl | exact AvIs.refl _ | exact trivial | (intro i hi; rfl) | exact fun _ _ => ⟨rfl, AvIs.refl _⟩ | (intro i hi; rcases i with _ | _ | _ | _ | _ | _ | _ | i <;> first | rfl | (exfalso; omega)) | refine ⟨?_, ?_⟩)); done)) : XL E ops Q (o :: rest) ⟨fr, ob, nx, nt, md⟩ :=
  XL.callM (K := K) (hE := hE) (hc := hc) (hg := hg) (hds := hds) (hdl := hdl) (ho := ho) (hP := hP) (hfa := hfa) (ha := ha) (hd := hd) (hv := hv) (hnew := hnew) (hob := hob) (hres := hres) (h := h)
theorem XD.callLA (hE : E.P = P) (hc : callF ⟨fr, ob, nx, nt, md⟩ o.op = some (f, args)) (hg : o.guard = none) (hds : o.dst = some d) (hd : Nat.blt d nt = true) (ho : AllP (o.op.operands.toList.flatMap (fun x => oblG none (ST.ev ⟨fr, ob, nx, nt, md⟩ x))))
    (hfa : frcL (AV.lendL ob args) = some args1) (hP : Does P f args' res) (hfl : res.flat = true) (h : XD E ops Q k (tr0 ++ [(⟨res, []⟩, fpF ops.toList ⟨fr, ob, nx, nt, md⟩ o)]) rest ⟨upd fr d res, ob, nx, nt, md⟩)
    (ha : AvIsL args1 args' := by ((repeat' (first | exact rfl | exact AvIs.refl _ | exact trivial | (intro i hi; rfl) | exact fun _ _ => ⟨rfl, AvIs.refl _⟩ | (intro i hi; rcases i with _ | _ | _ | _ | _ | _ | _ | i <;> first | rfl | (exfalso; omega)) | refine ⟨?_, ?_⟩)); done)) : XD E ops Q k tr0 (o :: rest) ⟨fr, ob, nx, nt, md⟩ :=
  XD.callL (hE := hE) (hc := hc) (hg := hg) (hds := hds) (hd := hd) (ho := ho) (hfa := hfa) (hP := hP) (ha := ha) (hfl := hfl) (h := h)
theorem XD.callKA (hE : E.P = P) (hc : callF ⟨fr, ob, nx, nt, md⟩ o.op = some (f, args)) (hg : o.guard = none) (hds : o.dst = some d) (hd : Nat.blt d nt = true) (ho : AllP (o.op.operands.toList.flatMap (fun x => oblG none (ST.ev ⟨fr, ob, nx, nt, md⟩ x))))
    (hfa : frcL args = some args1) (hks : AV.ksL (fun _ => false) args1 = true) (hP : Does P f args' res) (h : XD E ops Q k (tr0 ++ [(⟨res, []⟩, fpF ops.toList ⟨fr, ob, nx, nt, md⟩ o)]) rest ⟨upd fr d res, ob, nx, nt, md⟩)
    (ha : AvIsL args1 args' := by ((repeat' (first | exact rfl | exact AvIs.refl _ | exact trivial | (intro i hi; rfl) | exact fun _ _ => ⟨rfl, AvIs.refl _⟩ | (intro i hi; rcases i with _ | _ | _ | _ | _ | _ | _ | i <;> first | rfl | (exfalso; omega)) | refine ⟨?_, ?_⟩)); done)) : XD E ops Q k tr0 (o :: rest) ⟨fr, ob, nx, nt, md⟩ :=
  XD.callK (hE := hE) (hc := hc) (hg := hg) (hds := hds) (hd := hd) (ho := ho) (hfa := hfa) (hks := hks) (hP := hP) (ha := ha) (h := h)
theorem XD.callMA (K : List Nat) (hE : E.P = P) (hc : callF ⟨fr, ob, nx, nt, md⟩ o.op = some (f, args)) (hg : o.guard = none) (hds : o.dst = some d) (hdl : Nat.blt d nt = true) (ho : AllP (o.op.operands.toList.flatMap (fun x => oblG none (ST.ev ⟨fr, ob, nx, nt, md⟩ x))))
    (hP : DoesM P f args' O res O') (hfa : frcL (AV.mapL (renG (posF (K.take O.length))) args) = some args1) (hd : nodupB K = true) (hnew : (K.drop O.length).all (fun k => (ob k).isNone) = true) (hob : backF (renG (fun i => K[i]?)) K O' = some obs) (hres : frc (res.map (renG (fun i => K[i]?))) = some res1)
    (h : XD E ops Q k (tr0 ++ [(⟨res1, obs⟩, fpK ops.toList o K)]) rest ⟨upd fr d res1, putAll ob obs, nx, nt, md⟩)
    (ha : AvIsL args1 args' := by ((repeat' (first | exact rfl | exact AvIs.refl _ | exact trivial | (intro i hi; rfl) | exact fun _ _ => ⟨rfl, AvIs.refl _⟩ | (intro i hi; rcases i with _ | _ | _ | _ | _ | _ | _ | i <;> first | rfl | (exfalso; omega)) | refine ⟨?_, ?_⟩)); done))
    (hv : ViewIs ob (posF (K.take O.length)) (K.take O.length) O := by ((repeat' (first | exact rfl | exact AvIs.refl _ | exact trivial | (intro i hi; rfl) | exact fun _ _ => ⟨rfl, AvIs.refl _⟩ | (intro i hi; rcases i with _ | _ | _ | _ | _ | _ | _ | i <;> first | rfl | (exfalso; omega)) | refine ⟨?_, ?_⟩)); done)) : XD E ops Q k tr0 (o :: rest) ⟨fr, ob, nx, nt, md⟩ :=
  XD.callM (K := K) (hE := hE) (hc := hc) (hg := hg) (hds := hds) (hdl := hdl) (ho := ho) (hP := hP) (hfa := hfa) (ha := ha) (hd := hd) (hv := hv) (hnew := hnew) (hob := hob) (hres := hres) (h := h)
theorem XL.callGA {j : Nat} {pol g : Bool} (hE : E.P = P) (hc : callF ⟨fr, ob, nx, nt, md⟩ o.op = some (f, args)) (hg : o.guard = some (j, pol)) (hgv : gval ⟨fr, ob, nx, nt, md⟩ ops.toList j pol = some g) (hds : o.dst = some d) (hd : Nat.blt d nt = true) (hda : ops.toList.all (dstOk ⟨fun _ => .junk, fun _ => none, nx, nt, md⟩) = true)
    {obl' : List Prop} (hf : frcP (o.op.operands.toList.flatMap (fun x => oblG (some g) (ST.ev ⟨fr, ob, nx, nt, md⟩ x))) = some obl')
    (hfa : frcL (AV.lendL ob args) = some args1) (hP : Does P f args' res) (hfl : res.flat = true) (h : XL E ops Q rest ⟨upd fr d (.gd g res), ob, nx, nt, md⟩)
    (ho : AllP obl' := by (first | (simp [AllP, impG]; done) | (simp only [AllP, impG]; grind))) (ha : AvIsL args1 args' := by ((repeat' (first | exact rfl | exact AvIs.refl _ | exact trivial | (intro i hi; rfl) | exact fun _ _ => ⟨rfl, AvIs.refl _⟩ | (intro i hi; rcases i with _ | _ | _ | _ | _ | _ | _ | i <;> first | rfl | (exfalso; omega)) | refine ⟨?_, ?_⟩)); done)) : XL E ops Q (o :: rest) ⟨fr, ob, nx, nt, md⟩ :=
  XL.callLG hE hc hg hgv hds hd hda hf ho hfa (fun _ => ⟨hP, ha⟩) hfl h
theorem XD.callGA {j : Nat} {pol g : Bool} (hE : E.P = P) (hc : callF ⟨fr, ob, nx, nt, md⟩ o.op = some (f, args)) (hg : o.guard = some (j, pol)) (hgv : gval ⟨fr, ob, nx, nt, md⟩ ops.toList j pol = some g) (hds : o.dst = some d) (hd : Nat.blt d nt = true) (hda : ops.toList.all (dstOk ⟨fun _ => .junk, fun _ => none, nx, nt, md⟩) = true)
    {obl' : List Prop} (hf : frcP (o.op.operands.toList.flatMap (fun x => oblG (some g) (ST.ev ⟨fr, ob, nx, nt, md⟩ x))) = some obl')
    (hfa : frcL args = some args1) (hks : AV.ksL (fun _ => false) args1 = true) (hP : Does P f args' res) (hfl : res.flat = true) (h : XD E ops Q k (tr0 ++ [(⟨.gd g res, []⟩, fpF ops.toList ⟨fr, ob, nx, nt, md⟩ o)]) rest ⟨upd fr d (.gd g res), ob, nx, nt, md⟩)
    (ho : AllP obl' := by (first | (simp [AllP, impG]; done) | (simp only [AllP, impG]; grind))) (ha : AvIsL args1 args' := by ((repeat' (first | exact rfl | exact AvIs.refl _ | exact trivial | (intro i hi; rfl) | exact fun _ _ => ⟨rfl, AvIs.refl _⟩ | (intro i hi; rcases i with _ | _ | _ | _ | _ | _ | _ | i <;> first | rfl | (exfalso; omega)) | refine ⟨?_, ?_⟩)); done)) : XD E ops Q k tr0 (o :: rest) ⟨fr, ob, nx, nt, md⟩ :=
  XD.callKG hE hc hg hgv hds hd hda hf ho hfa hks (fun _ => ⟨hP, ha⟩) hfl h
end
end Go.Eng
end
section
/- The engine, part T: what comes in, read as data, opened as values of Lean types. -/
namespace Go.Eng
set_option linter.unnecessarySimpa false
open Go.WideShapes
/-- Cells that read as abstract values, out of memory that is there. -/
def Lies (w : World) (l : List AV) (cs : List Value) : Prop := cs.length = l.length ∧ ∀ i x, l[i]? = some x → R w (fun b => b < w.heap.size) Rho.none x (cs.getD i undef)
/-- How the cells of a Go type read as values of a Lean type. -/
structure Codec (P : Program) (t : Nat) (α : Type) where
  enc : α → List AV
  ok : α → Prop
  sz : Nat
  cells : P.cellsOf t = sz
  len : ∀ a, (enc a).length = sz
  open_ : ∀ {H : Type} {e : TypeId × Value → H} {w : World} {base : Nat} {spare : Nat → Bool} {held : Bool} {fuel : Nat} {cs : List Value} {x : DataW H × List MemPlace},
    DataW.trod e P w base spare held fuel t cs = some x → ∃ a, ok a ∧ Lies w (enc a) cs
theorem lies_one {w : World} {x : AV} {v : Value} (h : R w (fun b => b < w.heap.size) Rho.none x v) : Lies w [x] [v] :=
  ⟨rfl, fun i y hy => by
    match i with
    | 0 => simp at hy; subst hy; exact h
    | i + 1 => simp at hy⟩
theorem lies_app {w : World} {l l' : List AV} {cs cs' : List Value} (h : Lies w l cs) (h' : Lies w l' cs') : Lies w (l ++ l') (cs ++ cs') := by
  refine ⟨by simp [h.1, h'.1], fun i x hx => ?_⟩
  by_cases hi : i < l.length
  · rw [List.getElem?_append_left hi] at hx
    have := h.2 i x hx
    have hi' : i < cs.length := by rw [h.1]; exact hi
    simpa [List.getElem?_append_left hi'] using this
  · rw [List.getElem?_append_right (by omega)] at hx
    have := h'.2 _ x hx
    have hi' : cs.length ≤ i := by rw [h.1]; omega
    rw [← h.1] at this
    simpa [List.getElem?_append_right hi'] using this
theorem inK_of_wf {k : IntKind} {n : Int} (h : (Lit.int k n).wf = true) : inK k n := by
  cases k <;> simp only [Lit.wf, IntKind.min, IntKind.max, IntKind.signed, IntKind.bits, Bool.and_eq_true, decide_eq_true_eq, inK] at h ⊢ <;> simp at h <;> omega
section
variable {P : Program} {t : Nat} {α : Type}
def Codec.int (k : IntKind) (ht : P.underlying t = some (.int k)) (hc : P.cellsOf t = 1) : Codec P t Int :=
  { enc := fun n => [.c (.int k n)], ok := inK k, sz := 1, cells := hc, len := fun _ => rfl,
    open_ := fun h => by
      obtain ⟨n, rfl, _, hw⟩ := DataW.trod_int ht h
      exact ⟨n, inK_of_wf hw, lies_one .c⟩ }
def Codec.bool (ht : P.underlying t = some .bool) (hc : P.cellsOf t = 1) : Codec P t Bool :=
  { enc := fun n => [.c (.bool n)], ok := fun _ => True, sz := 1, cells := hc, len := fun _ => rfl,
    open_ := fun h => by
      obtain ⟨n, rfl, _⟩ := DataW.trod_bool ht h
      exact ⟨n, trivial, lies_one .c⟩ }
def Codec.str (ht : P.underlying t = some .string) (hc : P.cellsOf t = 1) : Codec P t ByteArray :=
  { enc := fun n => [.c (.string n)], ok := fun s => s.size ≤ maxLen, sz := 1, cells := hc, len := fun _ => rfl,
    open_ := fun h => by
      obtain ⟨n, rfl, _, hm⟩ := DataW.trod_string ht h
      exact ⟨n, hm, lies_one .c⟩ }
/-- The row that a list reads as. -/
def rowL [Inhabited α] (enc : α → List AV) (sz : Nat) (l : List α) : AV := .rs sz l.length (fun i => enc (l.getD i default))
theorem slice_opens [Inhabited α] {e : Nat} (c : Codec P e α) (ht : P.underlying t = some (.slice e)) (hpos : 0 < c.sz) {H : Type} {en : TypeId × Value → H} {w : World} {base : Nat} {spare : Nat → Bool} {held : Bool} {fuel : Nat} {cs : List Value} {x : DataW H × List MemPlace}
    (h : DataW.trod en P w base spare held fuel t cs = some x) : ∃ l : List α, (∀ a ∈ l, c.ok a) ∧ ∃ v, cs = [v] ∧ R w (fun b => b < w.heap.size) Rho.none (rowL c.enc c.sz l) v := by
  rcases DataW.trod_slice ht h with ⟨rfl, _⟩ | ⟨a, len, cap, elems, rest, n, rfl, rfl, _, hb, hl, hm, hel, hat, _, _⟩
  · refine ⟨[], (fun a h => by cases h), _, rfl, ?_⟩
    exact .rs (fun _ _ => undef) (Nat.le_refl _) (Nat.zero_le _) (fun h => absurd h (by simp)) (fun i hi => absurd hi (by simp)) (fun i j x hi => absurd hi (by simp))
  · have key : ∀ i, i < len → ∃ al, c.ok al ∧ ∃ ec, w.cells? base (a.add (i * c.sz)) c.sz = some ec ∧ Lies w (c.enc al) ec := by
      intro i hi
      have h1 := hat i hi
      rw [List.getElem?_eq_getElem (hel ▸ hi)] at h1
      rw [Option.bind_eq_some_iff] at h1
      obtain ⟨ec, h2, h3⟩ := h1
      obtain ⟨al, h4, h5⟩ := c.open_ h3
      rw [c.cells] at h2
      exact ⟨al, h4, ec, h2, h5⟩
    let f : Nat → α := fun i => if hi : i < len then (key i hi).choose else default
    have hf : ∀ i, i < len → c.ok (f i) ∧ ∃ ec, w.cells? base (a.add (i * c.sz)) c.sz = some ec ∧ Lies w (c.enc (f i)) ec := by
      intro i hi
      have : f i = (key i hi).choose := by simp only [f, dif_pos hi]
      rw [this]
      exact (key i hi).choose_spec
    have hg : ∀ i, i < len → ((List.range len).map f).getD i default = f i := by
      intro i hi
      simp [List.getElem?_map, List.getElem?_range hi]
    refine ⟨(List.range len).map f, ?_, _, rfl, ?_⟩
    · intro al hal
      obtain ⟨i, hi, rfl⟩ := List.mem_map.1 hal
      exact (hf i (by simpa using hi)).1
    · have hcell : ∀ i j, i < len → j < c.sz → ∃ v, w.cell? (a.add (i * c.sz + j)) = some v ∧ ∀ x, (c.enc (f i))[j]? = some x → R w (fun b => b < w.heap.size) Rho.none x v := by
        intro i j hi hj
        obtain ⟨_, ec, h2, h3⟩ := hf i hi
        obtain ⟨_, h5, h6⟩ := World.cells?_some h2
        have hlen : ec.length = c.sz := by rw [h3.1, c.len]
        have h7 := h6 j hj
        rw [add_add, List.getElem?_eq_getElem (by omega)] at h7
        refine ⟨ec[j], h7, fun x hx => ?_⟩
        have := h3.2 j x hx
        simpa [List.getElem?_eq_getElem (show j < ec.length by omega)] using this
      let val : Nat → Nat → Value := fun i j => if hh : i < len ∧ j < c.sz then (hcell i j hh.1 hh.2).choose else undef
      have hval : ∀ i j, i < len → j < c.sz → w.cell? (a.add (i * c.sz + j)) = some (val i j) ∧ ∀ x, (c.enc (f i))[j]? = some x → R w (fun b => b < w.heap.size) Rho.none x (val i j) := by
        intro i j hi hj
        have : val i j = (hcell i j hi hj).choose := by simp only [val, dif_pos (And.intro hi hj)]
        rw [this]
        exact (hcell i j hi hj).choose_spec
      have hblk : 0 < len → a.block < w.heap.size := by
        intro h0
        have := (hval 0 0 h0 hpos).1
        unfold World.cell? at this
        split at this
        · rename_i hh
          rw [block_add] at hh
          exact (Array.getElem?_eq_some_iff.1 hh).1
        · cases this
      unfold rowL
      rw [show ((List.range len).map f).length = len by simp]
      refine .rs val hl hm (fun h0 => ?_) (fun i hi => c.len _) (fun i j x hi hx => ?_)
      · refine ⟨a, rfl, hblk h0, fun i j hi hj => (hval i j hi hj).1⟩
      · have hi' : i < len := hi
        rw [hg i hi'] at hx
        have hj : j < c.sz := by
          rw [← c.len (f i)]
          exact (List.getElem?_eq_some_iff.1 hx).1
        exact (hval i j hi' hj).2 x hx
def Codec.slice [Inhabited α] {e : Nat} (c : Codec P e α) (ht : P.underlying t = some (.slice e)) (hpos : 0 < c.sz) (hc : P.cellsOf t = 1) : Codec P t (List α) :=
  { enc := fun l => [rowL c.enc c.sz l], ok := fun l => ∀ a ∈ l, c.ok a, sz := 1, cells := hc, len := fun _ => rfl,
    open_ := fun h => by
      obtain ⟨l, h1, v, rfl, h2⟩ := slice_opens c ht hpos h
      exact ⟨l, h1, lies_one h2⟩ }
/-- Another Lean type for the same cells. -/
def Codec.map {β : Type} (c : Codec P t α) (f : α → β) (enc : β → List AV) (ok : β → Prop) (h : ∀ a, enc (f a) = c.enc a) (hl : ∀ b, (enc b).length = c.sz) (hok : ∀ a, c.ok a → ok (f a)) : Codec P t β :=
  { enc := enc, ok := ok, sz := c.sz, cells := c.cells, len := hl,
    open_ := fun hh => by
      obtain ⟨a, h1, h2⟩ := c.open_ hh
      exact ⟨f a, hok a h1, by rw [h]; exact h2⟩ }
/-- The fields of a struct from the cell off on: their places and types. -/
structure FCodec (P : Program) (off : Nat) (fs : List (Nat × Nat)) (α : Type) where
  enc : α → List AV
  ok : α → Prop
  sz : Nat
  len : ∀ a, (enc a).length = sz
  open_ : ∀ {H : Type} {e : TypeId × Value → H} {w : World} {base : Nat} {spare : Nat → Bool} {held : Bool} {fuel : Nat} {cs : List Value}, off + sz ≤ cs.length →
    (∀ f ∈ fs, ∃ x, DataW.trod e P w base spare held fuel f.2 ((cs.drop f.1).take (P.cellsOf f.2)) = some x) → ∃ a, ok a ∧ Lies w (enc a) ((cs.drop off).take sz)
def FCodec.nil (P : Program) (off : Nat) : FCodec P off [] Unit :=
  { enc := fun _ => [], ok := fun _ => True, sz := 0, len := fun _ => rfl, open_ := fun _ _ => ⟨(), trivial, by simp [Lies]⟩ }
def FCodec.cons {off t : Nat} {fs : List (Nat × Nat)} {α β : Type} (c : Codec P t α) (r : FCodec P (off + c.sz) fs β) : FCodec P off ((off, t) :: fs) (α × β) :=
  { enc := fun x => c.enc x.1 ++ r.enc x.2, ok := fun x => c.ok x.1 ∧ r.ok x.2, sz := c.sz + r.sz, len := fun x => by simp [c.len, r.len],
    open_ := fun {H e w base spare held fuel cs} hlen hfs => by
      obtain ⟨x, hx⟩ := hfs (off, t) (by simp)
      rw [c.cells] at hx
      obtain ⟨a, h1, h2⟩ := c.open_ hx
      obtain ⟨b, h3, h4⟩ := r.open_ (cs := cs) (by omega) (fun g hg => hfs g (by simp [hg]))
      refine ⟨(a, b), ⟨h1, h3⟩, ?_⟩
      have : (cs.drop off).take (c.sz + r.sz) = (cs.drop off).take c.sz ++ (cs.drop (off + c.sz)).take r.sz := by
        rw [List.take_add, List.drop_drop]
      rw [this]
      exact lies_app h2 h4 }
theorem mapM_places {P : Program} : ∀ {fs : List Field} {pl : List (Nat × Nat)}, fs.mapM (fun f => (P.info? f.type).map fun i => (f.offset, i.size)) = some pl → pl.map (·.1) = fs.map (·.offset)
  | [], pl, h => by
    have : pl = [] := by simpa using h.symm
    subst this; rfl
  | f :: fs, pl, h => by
    rw [List.mapM_cons] at h
    cases hx : P.info? f.type with
    | none => simp [hx] at h
    | some i =>
      cases hxs : fs.mapM (fun f => (P.info? f.type).map fun i => (f.offset, i.size)) with
      | none => simp [hx, hxs] at h
      | some l =>
        simp [hx, hxs] at h
        subst h
        simp [mapM_places hxs]
def Codec.struct {pl : List (Nat × Nat)} {ty : List Nat} (hk : KindOk P t (.struct pl ty)) {fl : List (Nat × Nat)} (hfl : (pl.map (·.1)).zip ty = fl) (c : FCodec P 0 fl α) (hc : P.cellsOf t = c.sz) : Codec P t α :=
  { enc := c.enc, ok := c.ok, sz := c.sz, cells := hc, len := c.len,
    open_ := fun {H e w base spare held fuel cs x} h => by
      obtain ⟨fs, ht, hm, hty⟩ := hk
      obtain ⟨xs, n, rfl, _, hlen, hxs, hat⟩ := DataW.trod_struct ht h
      subst hfl
      have hl : cs.length = c.sz := hlen.trans hc
      obtain ⟨a, h1, h2⟩ := c.open_ (e := e) (w := w) (base := base) (spare := spare) (held := held) (fuel := n) (cs := cs) (by omega) (fun f hf => by
        rw [mapM_places hm, ← hty] at hf
        obtain ⟨i, hi, hi'⟩ := List.getElem_of_mem hf
        simp only [List.length_zip, List.length_map, Nat.min_self] at hi
        simp only [List.getElem_zip, List.getElem_map] at hi'
        have h3 := hat i fs.toList[i] (by simpa using List.getElem?_eq_getElem hi)
        rw [← hi']
        simp only
        rw [h3]
        have hlt : i < xs.length := by rw [hxs]; simpa using hi
        exact ⟨xs[i], List.getElem?_eq_getElem hlt⟩)
      refine ⟨a, h1, ?_⟩
      have : (cs.drop 0).take c.sz = cs := by simp [← hl]
      rw [this] at h2
      exact h2 }
/- Arguments. -/
theorem arg_one {base : Nat} {w : World} {v : Value} {H : Type} {en : TypeId × Value → H} {spare : Nat → Bool} {held : Bool} {d : DataW H} {p : List MemPlace} (c : Codec P t α) (x : α → AV) (hx : ∀ a, c.enc a = [x a])
    (hns : ∀ l, v ≠ .agg l) (h : DataW.Trod en P w base spare held t v d p) : ∃ a, c.ok a ∧ R w (fun b => b < w.heap.size) Rho.none (x a) v := by
  obtain ⟨fuel, hf⟩ := h
  rw [Value.cells_one hns] at hf
  obtain ⟨a, h1, h2⟩ := c.open_ hf
  rw [hx] at h2
  exact ⟨a, h1, by simpa using h2.2 0 (x a) rfl⟩
def oneKind (d : Option TypeDesc) : Bool := match d with
  | some (.int _) => true
  | some .bool => true
  | some .string => true
  | some (.slice _) => true
  | _ => false
theorem okWide_one {Q : Reach} {base : Nat} {w : World} {v : Value} (h : Value.okWide P w Q base t v) (hk : oneKind (P.underlying t) = true) : ∀ l, v ≠ .agg l := by
  intro l e
  subst e
  unfold oneKind at hk
  split at hk
  all_goals first | cases hk | skip
  all_goals
    rename_i hu
    simp only [Value.okWide, hu, Cell.okWide] at h
    simp [Cell.ok] at h
theorem arg_cell {Q : Reach} {base b0 : Nat} {w : World} {v : Value} {H : Type} {en : TypeId × Value → H} {spare : Nat → Bool} {held : Bool} {d : DataW H} {p : List MemPlace} (c : Codec P t α) (x : α → AV) (hx : ∀ a, c.enc a = [x a])
    (hk : oneKind (P.underlying t) = true) (hv : Value.okWide P w Q b0 t v) (h : DataW.Trod en P w base spare held t v d p) : ∃ a, c.ok a ∧ R w (fun b => b < w.heap.size) Rho.none (x a) v :=
  arg_one c x hx (okWide_one hv hk) h
theorem arg_agg {Q : Reach} {base b0 : Nat} {w : World} {v : Value} {H : Type} {en : TypeId × Value → H} {spare : Nat → Bool} {held : Bool} {d : DataW H} {p : List MemPlace} (c : Codec P t α) {fs : Array Field}
    (ht : P.underlying t = some (.struct fs)) (hv : Value.okWide P w Q b0 t v) (h : DataW.Trod en P w base spare held t v d p) : ∃ a, c.ok a ∧ R w (fun b => b < w.heap.size) Rho.none (.agg (c.enc a)) v := by
  simp only [Value.okWide, ht] at hv
  obtain ⟨cs, rfl, hsz, _⟩ := hv
  obtain ⟨fuel, hf⟩ := h
  obtain ⟨a, h1, h2⟩ := c.open_ hf
  simp only [Value.cells] at h2
  refine ⟨a, h1, .agg (by simpa using h2.1) fun i x hx => by simpa using h2.2 i x hx⟩
end
/-- A contract, taken at a world's arguments. -/
theorem Does.call {P : Program} {f : FuncId} {args : List AV} {res : AV} (h : Does P f args res) {w : World} {vs : Array Value} (hs : vs.size = args.length) (hr : ∀ i x, args[i]? = some x → R w (fun b => b < w.heap.size) Rho.none x (vs.getD i undef)) {Q : Ending → World → Prop}
    (hq : ∀ v w', Go.RowKit.Below w.heap.size w w' → R w' (fun _ => True) Rho.none res v → Q (.returned v) w') : Calls P f vs w Q := by
  refine (h.2 w (fun b => b < w.heap.size) vs hs (fun _ h => h) hr).mono ?_
  rintro e w' ⟨v, rfl, hk, hv⟩
  exact hq v w' hk.below (hv.tr (fun _ _ => ⟨trivial, rfl⟩) _ (Le.refl _))
end Go.Eng
end
section
/- The engine, part 1: a slice of length 0 is nil or not: both ways. -/
namespace Go.Eng
theorem SatR.setFr {E : Env} {st : ST} {a : Act} {w : World} {ρ : Rho} (h : SatR E st a w ρ) {d : Nat} {x : AV} (hx : R w (E.good w ρ) ρ x (a.tmps.getD d undef)) : SatR E { st with fr := upd st.fr d x } a w ρ :=
  ⟨h.keep, h.tsz, h.dfr, fun k => by
    by_cases hk : k = d
    · subst hk; simp only [upd_same]; exact hx
    · simp only [upd_other _ _ hk]; exact h.fr k, h.ob, h.no, h.dis, h.own, h.le⟩
/-- A slice of length 0: whatever address and room it has. -/
theorem XK.rsNil {E : Env} {st : ST} {k : List It} {c : Code} {Q : Exit → ST → Prop} (d : Nat) {sz : Nat} {f : Nat → List AV} (hd : st.fr d = .rs sz 0 f)
    (h : ∀ A cap, cap ≤ maxLen → XK E (.code c :: k) Q { st with fr := upd st.fr d (.c (.slice A 0 cap)) }) : XK E (.code c :: k) Q st := by
  intro a w ⟨ρ, hs⟩
  have hr := hs.fr d
  rw [hd] at hr
  obtain ⟨A, cap, hv, _, hm, _, _⟩ := hr.rs_inv
  refine h A cap hm a w ⟨ρ, hs.setFr ?_⟩
  rw [hv]
  exact .c
/-- It reads as a slice of length 0. -/
theorem Weak.rsNil {E : Env} {st : ST} (d : Nat) (sz : Nat) (f : Nat → List AV) {A : Option Addr} {cap : Nat} (hc : cap ≤ maxLen) (hd : st.fr d = .c (.slice A 0 cap)) : Weak E st { st with fr := upd st.fr d (.rs sz 0 f) } := by
  intro a w ⟨ρ, hs⟩
  refine ⟨ρ, hs.setFr ?_⟩
  have hr := hs.fr d
  rw [hd] at hr
  rw [hr.c_inv]
  exact R.rs_mk (Nat.zero_le _) hc (fun i hi => absurd hi (Nat.not_lt_zero _)) (fun h => absurd h (Nat.not_lt_zero _))
section
variable {E : Env} {st : ST}
theorem LocalM.yieldMG {ops : Array Oper} {o : Oper} {j l : Nat} {pol g : Bool} {args args1 args' : List AV} {res res1 : AV} {O O' : List Ob} {K : List Nat} {obs : List (Nat × Ob)} (hc : yieldF st o.op = some (l, args)) (hg : o.guard = some (j, pol)) (hgv : gval st ops.toList j pol = some g) (hgt : g = true) (hdst : dstOk st o = true) (hda : ops.toList.all (dstOk st) = true)
    (ho : AllP (o.op.operands.toList.flatMap (fun x => oblG (some g) (st.ev x))))
    (hP : DoesR E.P l args' O res O') (hfa : frcL (AV.mapL (renG (posF (K.take O.length))) args) = some args1) (ha : AvIsL args1 args') (hd : nodupB K = true)
    (hv : ViewIs st.ob (posF (K.take O.length)) (K.take O.length) O) (hnew : (K.drop O.length).all (fun k => (st.ob k).isNone) = true) (hob : backF (renG (fun i => K[i]?)) K O' = some obs) (hres : frc (res.map (renG (fun i => K[i]?))) = some res1) :
    LocalM E ops o st ⟨res1, obs⟩ (fpK ops.toList o K) := by
  intro s' hag
  have hev := ev_agreeK hag
  have hK : ∀ k ∈ K, s'.ob k = st.ob k := fun k hk => hag.2.2.2.2 k hk
  have hda' : ops.toList.all (dstOk s') = true := by
    rw [← hda]
    exact all_congr fun z _ => by simp [dstOk, hag.2.1]
  refine StepTo.yieldMG ((yieldF_congr hev).trans hc) hg ((gval_agreeK hg hag).trans hgv) hgt (by simpa [dstOk, hag.2.1] using hdst) hda' (by rw [obl_congr hev]; exact ho) hP hfa ha hd (hv.congr fun k hk => hK k (List.mem_of_mem_take hk)) ?_ hob hres
  rw [← hnew]
  exact all_congr fun k hk => by rw [hK k (List.mem_of_mem_drop hk)]
end
section
variable {E : Env} {Q : Exit → ST → Prop} {ops : Array Oper} {o : Oper} {rest : List Oper} {l d : Nat} {args args1 args' : List AV} {res res1 : AV} {O O' : List Ob} {K : List Nat} {obs : List (Nat × Ob)} {fr : Nat → AV} {ob : Nat → Option Ob} {nx nt : Nat} {md : Nat → Bool} {P : Program} {k : List It} {tr0 : List (EffM × (List Nat × List Nat))}
theorem XD.yieldMG {j : Nat} {pol g : Bool} (K : List Nat) (x : AV) (hE : E.P = P) (hc : yieldF ⟨fr, ob, nx, nt, md⟩ o.op = some (l, args)) (hg : o.guard = some (j, pol)) (hgv : gval ⟨fr, ob, nx, nt, md⟩ ops.toList j pol = some g) (hds : o.dst = some d) (hdl : Nat.blt d nt = true) (hda : ops.toList.all (dstOk ⟨fun _ => .junk, fun _ => none, nx, nt, md⟩) = true)
    (hf : g = false → XD E ops Q k (tr0 ++ [(⟨.gd false x, []⟩, fpK ops.toList o [])]) rest ⟨upd fr d (.gd false x), ob, nx, nt, md⟩)
    {obl' : List Prop} (hfo : frcP (o.op.operands.toList.flatMap (fun x => oblG (some g) (ST.ev ⟨fr, ob, nx, nt, md⟩ x))) = some obl') (ho : g = true → AllP obl')
    (hP : g = true → DoesR P l args' O res O') (hfa : frcL (AV.mapL (renG (posF (K.take O.length))) args) = some args1) (ha : AvIsL args1 args') (hd : nodupB K = true)
    (hv : g = true → ViewIs ob (posF (K.take O.length)) (K.take O.length) O) (hnew : (K.drop O.length).all (fun k => (ob k).isNone) = true) (hob : backF (renG (fun i => K[i]?)) K O' = some obs) (hres : frc (res.map (renG (fun i => K[i]?))) = some res1)
    (h : g = true → XD E ops Q k (tr0 ++ [(⟨res1, obs⟩, fpK ops.toList o K)]) rest ⟨upd fr d res1, putAll ob obs, nx, nt, md⟩) : XD E ops Q k tr0 (o :: rest) ⟨fr, ob, nx, nt, md⟩ := by
  cases hgb : g with
  | false =>
    refine XD.stepM (LocalM.skip x hg hgv hgb (by simp [dstOk, hds, hdl]) hda) ?_
    rw [hds]; exact hf hgb
  | true =>
    refine XD.stepM (LocalM.yieldMG hc hg hgv hgb (by simp [dstOk, hds, hdl]) hda (frcP_eq hfo ▸ ho hgb) (hE ▸ hP hgb) hfa ha hd (hv hgb) hnew hob hres) ?_
    rw [hds]; exact h hgb
end
theorem XK.exitQ {E : Env} {Q : Exit → ST → Prop} {st : ST} {k : List It} {id : Nat} (h : XQ E k Q (.exit id) st) : XK E (.code (.exit id) :: k) Q st := fun _ _ hs => wpIn_exit ⟨st, hs, h⟩
/-- A round that ends in a jump. -/
theorem XK.outX {E : Env} {fr : Nat → AV} {ob : Nat → Option Ob} {nx nt n : Nat} {md : Nat → Bool} {L : Nat} {fn : FuncId} {ps : Array Tmp} {assign body : Code} {D : Nat} {cs : List AV} {O1 O' : List Ob} {bb : Bool} {mk' : Array Value → Obj} {id : Nat} (K : List Nat) (hN : E.N = n) (hd : nodupB K = true) (hn : (List.range n).all (fun i => match K[i]? with
    | some k => Nat.beq k i
    | none => false) = true) (hO : obsF ob (renG (posF K)) K = some O1) (hOO : ObAll O1 (.lrec (recOf fn ps assign body D .busy none) L cs :: O')) (hb : false = bb) (hmk : recOf fn ps assign body D .done (some (.exit id)) = mk') :
    RndT E L fn ps assign body D cs O' bb mk' (.exit id) ⟨fr, ob, nx, nt, md⟩ :=
  ⟨some (.exit id), ⟨.inr (.inr ⟨id, rfl, rfl⟩), _, Weak.names K hN hd hn hO hOO, rfl⟩, hb, hmk⟩
end Go.Eng
end
