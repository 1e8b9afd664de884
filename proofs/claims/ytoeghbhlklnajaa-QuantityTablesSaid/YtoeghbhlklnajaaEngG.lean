/- The engine, part G: one operation of a region, from an abstract state to the next. -/
import Derived.Test.YtoeghbhlklnajaaEngF
namespace Go.Eng

def ST.ev (st : ST) : Operand → AV
  | .tmp t => st.fr t
  | .const v => .c v
  | .global g => .c (.pointer (some ⟨g, 0, none⟩))
  | .func f => .fn (.func f) [] []

theorem SatR.ev {E : Env} {st : ST} {a : Act} {w : World} {ρ : Rho} (h : SatR E st a w ρ) (x : Operand) : R w (E.good w ρ) ρ (st.ev x) (a.eval x) := by
  cases x with
  | tmp t => exact h.fr t
  | const v => exact .c
  | global g => exact .c
  | func f => exact .fn rfl (fun i a h => by simp at h) rfl (fun i a h => by simp at h)

def strip : AV → AV
  | .gd _ a => a
  | a => a
/-- Under the guard gc (if there is one). -/
def impG (gc : Option Bool) (p : Prop) : Prop := match gc with
  | none => p
  | some g => g = true → p
def oblG (gc : Option Bool) : AV → List Prop
  | .gd g _ => [impG gc (g = true)]
  | _ => []

structure Eff where
  av : AV
  ob : Option (Nat × Ob)

def ST.app (st : ST) (dst : Option Nat) (e : Eff) : ST :=
  { st with fr := (match dst with | some d => upd st.fr d e.av | none => st.fr), ob := (match e.ob with | some (k, o) => upd st.ob k (some o) | none => st.ob) }

def pcells (ob : Nat → Option Ob) : List (Nat × AV) → Option (List (Nat × List AV))
  | [] => some []
  | (i, x) :: l => match avCells ob x, pcells ob l with
    | some c, some r => some ((i, c) :: r)
    | _, _ => none

def buildF (T : TE) (ob : Nat → Option Ob) (t : TypeId) (parts : List (Nat × AV)) : Option (List Prop × AV) :=
  match T.find t, pcells ob parts with
  | some ti, some ps => match ti.kind with
    | .struct pl _ => match fillF (fun i => pl[i]?) (ti.zero.map .c) ps with
      | some l => some ([], .agg l)
      | none => none
    | .array _ e => match T.find e with
      | some te => match fillF (fun i => some (i * te.size, te.size)) (ti.zero.map .c) ps with
        | some l => some ([], .agg l)
        | none => none
      | none => none
    | _ => none
  | _, _ => none

def nilF (ob : Nat → Option Ob) : AV → Option (List Prop × AV)
  | .ptr k o => some ([], .ptr k o)
  | .rptr l => some ([], .rptr l)
  | .vptr k s sz i off => bif live ob (.vptr k s sz i off) then some ([], .vptr k s sz i off) else none
  | .fn (.func f) l c => some ([], .fn (.func f) l c)
  | _ => none

/-- The operations that leave the world alone. -/
def valF (T : TE) (ob : Nat → Option Ob) (wr : Bool) (e : Operand → AV) (op : Op) : Option (List Prop × AV) :=
  match op with
  | .move x => some ([], e x)
  | .assign x => some ([], e x)
  | .load t x => loadF T ob t (e x)
  | .nilCheck x => nilF ob (e x)
  | .binOp b t x y _ => binF T wr b t (e x) (e y)
  | .unOp u _ x => unF wr u (e x)
  | .convert s d x => convF T wr s d (e x)
  | .fieldAddr s x f => fieldF T ob s f (e x)
  | .field s x f => fieldVF T s f (e x)
  | .indexAddr t x i => indexF T ob t (e x) (e i)
  | .index t x i => indexVF T t (e x) (e i)
  | .extract t i => match e t with
    | .tup l => match l[i]? with
      | some x => some ([], x)
      | none => none
    | _ => none
  | .slice t x lo hi none => sliceF T t (lo.map e) (hi.map e) (e x)
  | .makeFunc fn first cap => some ([], .fn fn (first.toList.map e) (cap.toList.map e))
  | .build t parts => buildF T ob t (parts.toList.map fun p => (p.1, e p.2))
  | .call c => match c.callee, c.args.toList, c.argTypes.toList with
    | .builtin .len, [x], [t] => lenF T ob t (e x)
    | .builtin .max, xs, _ => match extremeF true (xs.map e) with
      | some x => some ([], x)
      | none => none
    | .builtin .min, xs, _ => match extremeF false (xs.map e) with
      | some x => some ([], x)
      | none => none
    | _, _, _ => none
  | _ => none

section
variable {E : Env} {st : ST} {a : Act} {w : World} {ρ : Rho} {T : TE}

theorem pcells_ok (h : SatR E st a w ρ) : ∀ {parts : List (Nat × AV)} {vparts : List (Nat × Value)} {ps : List (Nat × List AV)}, pcells st.ob parts = some ps → vparts.length = parts.length →
    (∀ (j i : Nat) (x : AV), parts[j]? = some (i, x) → ∃ v, vparts[j]? = some (i, v) ∧ R w (E.good w ρ) ρ x v) →
    vparts.length = ps.length ∧ ∀ (j i : Nat) (l : List AV), ps[j]? = some (i, l) → ∃ v, vparts[j]? = some (i, v) ∧ v.cells.size = l.length ∧ ∀ k y, l[k]? = some y → R w (E.good w ρ) ρ y (v.cells.getD k undef)
  | [], vparts, ps, hp, hl, _ => by
    simp only [pcells, Option.some.injEq] at hp
    subst hp
    exact ⟨hl, fun j i l hj => by simp at hj⟩
  | (i, x) :: parts, [], ps, hp, hl, _ => by simp at hl
  | (i, x) :: parts, (i', v) :: vparts, ps, hp, hl, hr => by
    simp only [pcells] at hp
    split at hp
    · rename_i c r hc hrr
      injection hp with hp
      subst hp
      obtain ⟨v', hv', hrv⟩ := hr 0 i x rfl
      simp only [List.getElem?_cons_zero, Option.some.injEq, Prod.mk.injEq] at hv'
      obtain ⟨rfl, rfl⟩ := hv'
      obtain ⟨h1, h2⟩ := pcells_ok h hrr (by simpa using hl) (fun j i x hj => by simpa using hr (j + 1) i x (by simpa using hj))
      refine ⟨by simpa using h1, fun j i l hj => ?_⟩
      cases j with
      | zero =>
        simp only [List.getElem?_cons_zero, Option.some.injEq, Prod.mk.injEq] at hj
        obtain ⟨rfl, rfl⟩ := hj
        exact ⟨_, by simp, h.cells hc hrv⟩
      | succ j => simpa using h2 j i l (by simpa using hj)
    · cases hp

theorem getD_map {α : Type} {f : α → Value} (l : Array α) (i : Nat) (x : α) (h : l[i]? = some x) : (l.map f).getD i undef = f x := by
  have := Array.getElem?_eq_some_iff.1 h
  obtain ⟨h1, h2⟩ := this
  simp [h1, h2]

theorem buildF_ok (hT : TOk E.P T) (h : SatR E st a w ρ) {t : TypeId} {parts : Array (Nat × Operand)} {e : Operand → AV} {obl : List Prop} {r : AV} (he : ∀ p ∈ parts, R w (E.good w ρ) ρ (e p.2) (a.eval p.2))
    (hb : buildF T st.ob t (parts.toList.map fun p => (p.1, e p.2)) = some (obl, r)) : ∃ z, (Instr.build t (parts.map fun (i, x) => (i, a.eval x))).run E.P w = .ok z w ∧ R w (E.good w ρ) ρ r z := by
  unfold buildF at hb
  split at hb
  · rename_i ti ps ht hps
    have hk := hT t ti ht
    obtain ⟨inf, z, hi, hsz, _, hz, hzc⟩ := hk.info
    have hvl : ((parts.map fun (i, x) => (i, a.eval x)).toList).length = (parts.toList.map fun p => (p.1, e p.2)).length := by simp
    obtain ⟨h1, h2⟩ := pcells_ok h hps hvl (fun j i x hj => by
      simp only [List.getElem?_map, Option.map_eq_some_iff] at hj
      obtain ⟨p, hp, he1⟩ := hj
      simp only [Prod.mk.injEq] at he1
      obtain ⟨rfl, rfl⟩ := he1
      refine ⟨a.eval p.2, ?_, he p (by simpa using List.mem_of_getElem? hp)⟩
      simp only [Array.toList_map, List.getElem?_map, hp]; rfl)
    have hzero : (z.cells).size = (ti.zero.map AV.c).length ∧ ∀ i x, (ti.zero.map AV.c)[i]? = some x → R w (E.good w ρ) ρ x (z.cells.getD i undef) := by
      rw [hzc]
      refine ⟨by simp, fun i x hx => ?_⟩
      simp only [List.getElem?_map, Option.map_eq_some_iff] at hx
      obtain ⟨v, hv, rfl⟩ := hx
      have : (ti.zero.toArray).getD i undef = v := by simp [hv]
      rw [this]
      exact .c
    split at hb
    · rename_i pl ty hkd
      split at hb
      · rename_i l hl
        simp only [Option.some.injEq, Prod.mk.injEq] at hb
        obtain ⟨rfl, rfl⟩ := hb
        obtain ⟨arr, h3, h4, h5⟩ := fillF_ok hl h1 h2 hzero.1 hzero.2
        have hkk := hk.kind
        rw [hkd] at hkk
        obtain ⟨fs, hu, hmap, _⟩ := hkk
        refine ⟨.agg arr, run_build w t _ arr ?_, .agg h4 h5⟩
        unfold Program.built
        simp only [hi, hu, hz, hmap]
        simpa using h3
      · cases hb
    · rename_i n el hkd
      split at hb
      · rename_i te hte
        split at hb
        · rename_i l hl
          simp only [Option.some.injEq, Prod.mk.injEq] at hb
          obtain ⟨rfl, rfl⟩ := hb
          obtain ⟨arr, h3, h4, h5⟩ := fillF_ok hl h1 h2 hzero.1 hzero.2
          have hkk := hk.kind
          rw [hkd] at hkk
          simp only [KindOk] at hkk
          obtain ⟨inf2, z2, hi2, hsz2, _⟩ := (hT el te hte).info
          refine ⟨.agg arr, run_build w t _ arr ?_, .agg h4 h5⟩
          unfold Program.built
          simp only [hi, hkk, hz, hi2, hsz2]
          simpa using h3
        · cases hb
      · cases hb
    · cases hb
  · cases hb

theorem nilF_ok (h : SatR E st a w ρ) {x r : AV} {v : Value} {obl : List Prop} (hl : nilF st.ob x = some (obl, r)) (hr : R w (E.good w ρ) ρ x v) (o : Oper) (y : Operand) (ho : o.op = .nilCheck y) (hy : a.eval y = v) :
    ∃ z, (execOp a.eval o).run E.P w = .ok (.value z) w ∧ R w (E.good w ρ) ρ r z := by
  unfold nilF at hl
  split at hl
  · simp only [Option.some.injEq, Prod.mk.injEq] at hl
    obtain ⟨rfl, rfl⟩ := hl
    obtain ⟨g, hk, rfl⟩ := hr.ptr_inv
    exact ⟨_, by simp [execOp, ho, hy], hr⟩
  · simp only [Option.some.injEq, Prod.mk.injEq] at hl
    obtain ⟨rfl, rfl⟩ := hl
    obtain ⟨ad, rfl, _⟩ := hr.rptr_inv
    exact ⟨_, by simp [execOp, ho, hy], hr⟩
  · rename_i k s sz i off
    cases hb : live st.ob (.vptr k s sz i off) with
    | false => simp [hb] at hl
    | true =>
      simp only [hb, cond_true, Option.some.injEq, Prod.mk.injEq] at hl
      obtain ⟨rfl, rfl⟩ := hl
      obtain ⟨_, _, _, _, _, _, _, _, _, rfl, _⟩ := h.live_vptr hb hr
      exact ⟨_, by simp [execOp, ho, hy], hr⟩
  · simp only [Option.some.injEq, Prod.mk.injEq] at hl
    obtain ⟨rfl, rfl⟩ := hl
    cases hr with
    | fn h1 h2 h3 h4 => exact ⟨_, by simp [execOp, ho, hy], .fn h1 h2 h3 h4⟩
  · cases hl

theorem valF_ok (hT : TOk E.P T) (h : SatR E st a w ρ) {o : Oper} {wr : Bool} {e : Operand → AV} {obl : List Prop} {r : AV} (he : ∀ x ∈ o.op.operands, R w (E.good w ρ) ρ (e x) (a.eval x))
    (hv : valF T st.ob wr e o.op = some (obl, r)) (ho : ∀ p ∈ obl, p) : ∃ z, (execOp a.eval o).run E.P w = .ok (.value z) w ∧ R w (E.good w ρ) ρ r z := by
  obtain ⟨dst, op, type, pos, after, guard⟩ := o
  unfold valF at hv
  split at hv <;> rename_i hop <;> (try subst hop) <;> simp only [Op.operands] at he
  · simp only [Option.some.injEq, Prod.mk.injEq] at hv
    obtain ⟨rfl, rfl⟩ := hv
    exact ⟨_, by simp [execOp], he _ (by simp)⟩
  · simp only [Option.some.injEq, Prod.mk.injEq] at hv
    obtain ⟨rfl, rfl⟩ := hv
    exact ⟨_, by simp [execOp], he _ (by simp)⟩
  · obtain ⟨z, h1, h2⟩ := loadF_ok hT h hv (he _ (by simp))
    exact ⟨z, by simp [execOp, h1], h2⟩
  · exact nilF_ok h hv (he _ (by simp)) _ _ rfl rfl
  · obtain ⟨z, h1, h2⟩ := binF_ok hT _ _ hv ho (he _ (by simp)) (he _ (by simp))
    refine ⟨z, ?_, h2⟩
    show ((do eqGuard _ _ _ _ _ _; binOp _ _ _ _ : Sem Value) >>= fun x => pure (Next.value x)).run E.P w = _
    rw [Sem.run_bind, h1]; rfl
  · obtain ⟨z, h1, h2⟩ := unF_ok (P := E.P) hv ho (he _ (by simp))
    exact ⟨z, by simp [execOp, h1], h2⟩
  · obtain ⟨z, h1, h2⟩ := convF_ok hT hv ho (he _ (by simp))
    exact ⟨z, by simp [execOp, h1], h2⟩
  · obtain ⟨z, h1, h2⟩ := fieldF_ok hT h hv (he _ (by simp))
    exact ⟨z, by simp [execOp, h1], h2⟩
  · obtain ⟨z, h1, h2⟩ := fieldVF_ok hT hv (he _ (by simp))
    exact ⟨z, by simp [execOp, h1], h2⟩
  · obtain ⟨z, h1, h2⟩ := indexF_ok hT h hv ho (he _ (by simp)) (he _ (by simp))
    exact ⟨z, by simp [execOp, h1], h2⟩
  · obtain ⟨z, h1, h2⟩ := indexVF_ok hT hv ho (he _ (by simp)) (he _ (by simp))
    exact ⟨z, by simp [execOp, h1], h2⟩
  · rename_i x i
    split at hv
    · rename_i l hx
      split at hv
      · rename_i y hy
        simp only [Option.some.injEq, Prod.mk.injEq] at hv
        obtain ⟨rfl, rfl⟩ := hv
        have := he x (by simp)
        rw [hx] at this
        obtain ⟨cs, hc, hs, hr⟩ := this.tup_inv
        have hi : i < cs.size := by rw [hs]; exact (List.getElem?_eq_some_iff.1 hy).1
        refine ⟨cs.getD i undef, ?_, hr i y hy⟩
        simp [execOp, hc, Instr.extract, hi]
      · cases hv
    · cases hv
  · rename_i t x lo hi
    obtain ⟨z, h1, h2⟩ := sliceF_ok (vlo := lo.map a.eval) (vhi := hi.map a.eval) hT h hv ho (he x (by simp))
      (fun y hy => by
        cases lo with
        | none => cases hy
        | some u => injection hy with hy; subst hy; exact ⟨_, rfl, he u (by simp)⟩)
      (fun hn => by cases lo with
        | none => rfl
        | some u => cases hn)
      (fun y hy => by
        cases hi with
        | none => cases hy
        | some u => injection hy with hy; subst hy; exact ⟨_, rfl, he u (by simp)⟩)
      (fun hn => by cases hi with
        | none => rfl
        | some u => cases hn)
    exact ⟨z, by simp [execOp, h1], h2⟩
  · rename_i fn first cap
    simp only [Option.some.injEq, Prod.mk.injEq] at hv
    obtain ⟨rfl, rfl⟩ := hv
    refine ⟨.func fn (first.map a.eval) (cap.map a.eval), by simp [execOp, Instr.makeFunc], .fn (by simp) (fun i x hx => ?_) (by simp) (fun i x hx => ?_)⟩
    · simp only [List.getElem?_map, Option.map_eq_some_iff] at hx
      obtain ⟨y, hy, rfl⟩ := hx
      rw [getD_map first i y (by simpa using hy)]
      exact he y (by simp; exact .inl (by simpa using List.mem_of_getElem? hy))
    · simp only [List.getElem?_map, Option.map_eq_some_iff] at hx
      obtain ⟨y, hy, rfl⟩ := hx
      rw [getD_map cap i y (by simpa using hy)]
      exact he y (by simp; exact .inr (by simpa using List.mem_of_getElem? hy))
  · rename_i t parts
    obtain ⟨z, h1, h2⟩ := buildF_ok hT h (fun p hp => he p.2 (by simp; exact ⟨p.1, by simpa using hp⟩)) hv
    exact ⟨z, by simp [execOp, h1], h2⟩
  · rename_i c
    obtain ⟨callee, args, argTypes⟩ := c
    simp only [Call.operands] at he
    split at hv
    · rename_i x t h1 h2 h3
      simp only at h1 h2 h3
      subst h1
      have hargs : args = #[x] := by rw [← Array.toList_inj]; simpa using h2
      have htys : argTypes = #[t] := by rw [← Array.toList_inj]; simpa using h3
      subst hargs htys
      obtain ⟨z, h1, h2⟩ := lenF_ok (ty := type) hT h hv (he x (by simp))
      exact ⟨z, by simp [execOp, resolve, invoke, builtin, h1], h2⟩
    · rename_i h1
      simp only at h1
      subst h1
      split at hv
      · rename_i y hy
        simp only [Option.some.injEq, Prod.mk.injEq] at hv
        obtain ⟨rfl, rfl⟩ := hv
        obtain ⟨z, h4, h5⟩ := extremeF_ok (P := E.P) (vs := args.map a.eval) hy (by simp) (fun i x hx => by
          simp only [List.getElem?_map, Option.map_eq_some_iff] at hx
          obtain ⟨u, hu, rfl⟩ := hx
          rw [getD_map args i u (by simpa using hu)]
          exact he u (by simpa using List.mem_of_getElem? hu)) argTypes type
        simp only [if_true] at h4
        exact ⟨z, by simp [execOp, resolve, invoke, builtin, h4], h5⟩
      · cases hv
    · rename_i h1
      simp only at h1
      subst h1
      split at hv
      · rename_i y hy
        simp only [Option.some.injEq, Prod.mk.injEq] at hv
        obtain ⟨rfl, rfl⟩ := hv
        obtain ⟨z, h4, h5⟩ := extremeF_ok (P := E.P) (vs := args.map a.eval) hy (by simp) (fun i x hx => by
          simp only [List.getElem?_map, Option.map_eq_some_iff] at hx
          obtain ⟨u, hu, rfl⟩ := hx
          rw [getD_map args i u (by simpa using hu)]
          exact he u (by simpa using List.mem_of_getElem? hu)) argTypes type
        simp only [Bool.false_eq_true, if_false] at h4
        exact ⟨z, by simp [execOp, resolve, invoke, builtin, h4], h5⟩
      · cases hv
    · cases hv
  · cases hv
end
end Go.Eng
