/- The engine, part M: calls; results; contracts made; states forgotten. -/
import Derived.Test.YtoeghbhlklnajaaEngL
namespace Go.Eng

def callF (st : ST) (op : Op) : Option (Nat × List AV) :=
  match op with
  | .call c => match c.callee with
    | .value f => match strip (st.ev f) with
      | .fn (.func fid) first caps => some (fid, first ++ c.args.toList.map (fun x => strip (st.ev x)) ++ caps)
      | _ => none
    | _ => none
  | _ => none

theorem getD_append_at {xs ys : Array Value} {l l' : List AV} {w : World} {G : Nat → Prop} {ρ : Rho} (h1 : xs.size = l.length) (h2 : ys.size = l'.length) (hx : ∀ i x, l[i]? = some x → R w G ρ x (xs.getD i undef)) (hy : ∀ i x, l'[i]? = some x → R w G ρ x (ys.getD i undef)) :
    (xs ++ ys).size = (l ++ l').length ∧ ∀ i x, (l ++ l')[i]? = some x → R w G ρ x ((xs ++ ys).getD i undef) := by
  refine ⟨by simp [h1, h2], fun i x hi => ?_⟩
  by_cases hlt : i < l.length
  · rw [List.getElem?_append_left hlt] at hi
    have := hx i x hi
    have hlt' : i < xs.size := by omega
    simpa [Array.getElem?_append_left hlt'] using this
  · rw [List.getElem?_append_right (by omega)] at hi
    have := hy _ x hi
    have hge : xs.size ≤ i := by omega
    rw [← h1] at this
    simpa [Array.getElem?_append_right hge] using this

section
variable {E : Env} {st : ST} {a : Act} {w : World} {ρ : Rho} {T : TE}

theorem call_run (h : SatR E st a w ρ) {o : Oper} {f : Nat} {args : List AV} (hc : callF st o.op = some (f, args)) {gc : Option Bool} (hgc : ∀ g, gc = some g → g = true) (ho : ∀ p ∈ o.op.operands.toList.flatMap (fun x => oblG gc (st.ev x)), p)
    (hf : FnOk E.P f) : ∃ vs : Array Value, (execOp a.eval o).run E.P w = .ok (.enter f vs) w ∧ vs.size = args.length ∧ ∀ i x, args[i]? = some x → R w (E.good w ρ) ρ x (vs.getD i undef) := by
  obtain ⟨dst, op, type, pos, after, guard⟩ := o
  simp only at hc ho
  unfold callF at hc
  split at hc
  · rename_i c
    obtain ⟨callee, cargs, tys⟩ := c
    simp only at hc
    split at hc
    · rename_i fo
      split at hc
      · rename_i fid first caps hfn
        simp only [Option.some.injEq, Prod.mk.injEq] at hc
        obtain ⟨rfl, rfl⟩ := hc
        have hst : ∀ x ∈ (Op.call { callee := .value fo, args := cargs, argTypes := tys }).operands, R w (E.good w ρ) ρ (strip (st.ev x)) (a.eval x) := fun x hx =>
          strip_ok hgc (fun p hp => ho p (List.mem_flatMap.2 ⟨x, by simpa using hx, hp⟩)) (h.ev x)
        have hfv := hst fo (by simp [Op.operands, Call.operands])
        rw [hfn] at hfv
        generalize hev : a.eval fo = fv at hfv
        cases hfv with
        | @fn _ _ _ _ fs cs h1 h2 h3 h4 =>
          obtain ⟨fn, g1, g2, g3⟩ := hf
          have hargs : (cargs.map a.eval).size = (cargs.toList.map (fun x => strip (st.ev x))).length ∧ ∀ i x, (cargs.toList.map (fun x => strip (st.ev x)))[i]? = some x → R w (E.good w ρ) ρ x ((cargs.map a.eval).getD i undef) := by
            refine ⟨by simp, fun i x hx => ?_⟩
            simp only [List.getElem?_map, Option.map_eq_some_iff] at hx
            obtain ⟨u, hu, rfl⟩ := hx
            rw [getD_map cargs i u (by simpa using hu)]
            exact hst u (by simp [Op.operands, Call.operands]; exact .inr (by simpa using List.mem_of_getElem? hu))
          obtain ⟨q1, q2⟩ := getD_append_at h1 hargs.1 h2 hargs.2
          obtain ⟨q3, q4⟩ := getD_append_at q1 h3 q2 h4
          refine ⟨fs ++ cargs.map a.eval ++ cs, ?_, q3, q4⟩
          have hbn : fn.body ≠ none := fun e => by rw [e] at g2; cases g2
          have hnm : fn.name ≠ "runtime.NumGoroutine" := by simpa using g3
          simp [execOp, resolve, hev, Deferred.ofValue, invoke, callFunc, g1, hnm, hbn]
      · cases hc
    · cases hc
  · cases hc

/-- The call's own condition: what goes in is lent, and what comes out is no memory; or nothing of the call's own goes in. -/
def CallOk (st : ST) (args args' : List AV) (res : AV) : Prop :=
  (AV.lendL st.ob args = args' ∧ res.flat = true) ∨ (args = args' ∧ AV.ksL (fun _ => false) args = true)

theorem call_wp (h : SatR E st a w ρ) {o : Oper} {f : Nat} {args args' : List AV} {res : AV} (hc : callF st o.op = some (f, args)) {gc : Option Bool} (hgc : ∀ g, gc = some g → g = true) (ho : ∀ p ∈ o.op.operands.toList.flatMap (fun x => oblG gc (st.ev x)), p)
    (hP : Does E.P f args' res) (hok : CallOk st args args' res) {next : Act → World → Prop} {Q : Exit → Act → World → Prop}
    (hn : ∀ v w', SatR E st a w' ρ → R w' (E.good w' ρ) ρ res v → next (a.put o.dst v) w') : o.wp E.P a w next Q := by
  obtain ⟨vs, h1, h2, h3⟩ := call_run h hc hgc ho hP.1
  unfold Oper.wp
  rw [h1]
  simp only [Oper.upon]
  rcases hok with ⟨rfl, hfl⟩ | ⟨rfl, hks⟩
  · refine (hP.2 w (fun b => b < w.heap.size) vs (by rw [AV.lendL_length]; exact h2) (fun b hb => hb) (fun i x hx => ?_)).mono ?_
    · obtain ⟨y, hy, rfl⟩ := AV.lendL_get hx
      exact h.lend (h3 i y hy)
    · rintro e w' ⟨v, rfl, hk, hr⟩
      exact hn v w' (h.called hk) (hr.of_flat ρ hfl)
  · refine (hP.2 w (E.good w ρ) vs h2 (fun b hb => hb.2.1) (fun i x hx => (h3 i x hx).free (AV.ksL_at hks hx))).mono ?_
    rintro e w' ⟨v, rfl, hk, hr⟩
    have hc' := h.called hk
    refine hn v w' hc' (hr.tr (fun b hb => ⟨?_, rfl⟩) _ (Le.none _))
    rcases hb with ⟨q1, q2, q3⟩ | ⟨q1, q2⟩
    · exact ⟨q1, Nat.lt_of_lt_of_le q2 hk.size, q3⟩
    · exact ⟨.inr (.inl (Nat.le_trans h.keep.size q1)), q2, fun k x hx hb => absurd (h.lt hx hb) (by omega)⟩

theorem StepTo.call {ops : Array Oper} {o : Oper} {f : Nat} {args args' : List AV} {res : AV} (hc : callF st o.op = some (f, args)) (hg : o.guard = none) (hd : dstOk st o = true) (ho : AllP (o.op.operands.toList.flatMap (fun x => oblG none (st.ev x))))
    (hP : Does E.P f args' res) (hok : CallOk st args args' res) : StepTo E ops o st (st.app o.dst ⟨res, none⟩) := by
  intro a w ⟨ρ, h⟩ Q
  rw [if_pos (by simp [Region.wanted, hg])]
  exact call_wp h hc (fun g e => by cases e) (AllP.mem ho) hP hok fun v w' h' hr => ⟨ρ, SatR.put_app (eff := ⟨res, none⟩) (dst := o.dst) h' (dstOk_lt hd) hr⟩

theorem StepTo.callG {ops : Array Oper} {o : Oper} {j f : Nat} {pol g : Bool} {args args' : List AV} {res : AV} (hc : callF st o.op = some (f, args)) (hg : o.guard = some (j, pol)) (hgv : gval st ops.toList j pol = some g) (hd : dstOk st o = true)
    (hda : ops.toList.all (dstOk st) = true) (ho : AllP (o.op.operands.toList.flatMap (fun x => oblG (some g) (st.ev x)))) (hP : g = true → Does E.P f args' res) (hok : CallOk st args args' res) : StepTo E ops o st (st.app o.dst ⟨.gd g res, none⟩) := by
  intro a w ⟨ρ, h⟩ Q
  have hwv : Region.wanted o (yielded ops a.tmps) = g := by
    have := gval_ok h hgv (fun o' d h1 h2 => dstOk_lt (List.all_eq_true.1 hda o' (Array.mem_toList_iff.2 (Array.mem_of_getElem? h1))) d h2)
    simp only [Region.wanted, hg, this]
  cases hgb : g with
  | false =>
    subst hgb
    rw [if_neg (by rw [hwv]; simp)]
    exact ⟨ρ, SatR.put_app (eff := ⟨.gd false res, none⟩) (dst := o.dst) h (dstOk_lt hd) (.gd (fun e => by cases e) fun _ => rfl)⟩
  | true =>
    subst hgb
    rw [if_pos hwv]
    exact call_wp h hc (fun g e => by injection e with e; exact e.symm) (AllP.mem ho) (hP rfl) hok fun v w' h' hr => ⟨ρ, SatR.put_app (eff := ⟨.gd true res, none⟩) (dst := o.dst) h' (dstOk_lt hd) (.gd (fun _ => hr) fun e => by cases e)⟩

theorem XL.call {Q : Exit → ST → Prop} {ops : Array Oper} {o : Oper} {rest : List Oper} {f : Nat} {args args' : List AV} {res : AV} (hc : callF st o.op = some (f, args)) (hg : o.guard = none) (hd : dstOk st o = true) (ho : AllP (o.op.operands.toList.flatMap (fun x => oblG none (st.ev x))))
    (hP : Does E.P f args' res) (hok : CallOk st args args' res) (h : XL E ops Q rest (st.app o.dst ⟨res, none⟩)) : XL E ops Q (o :: rest) st := XL.step (StepTo.call hc hg hd ho hP hok) h
theorem XL.callG {Q : Exit → ST → Prop} {ops : Array Oper} {o : Oper} {rest : List Oper} {j f : Nat} {pol g : Bool} {args args' : List AV} {res : AV} (hc : callF st o.op = some (f, args)) (hg : o.guard = some (j, pol)) (hgv : gval st ops.toList j pol = some g) (hd : dstOk st o = true)
    (hda : ops.toList.all (dstOk st) = true) (ho : AllP (o.op.operands.toList.flatMap (fun x => oblG (some g) (st.ev x)))) (hP : g = true → Does E.P f args' res) (hok : CallOk st args args' res) (h : XL E ops Q rest (st.app o.dst ⟨.gd g res, none⟩)) : XL E ops Q (o :: rest) st :=
  XL.step (StepTo.callG hc hg hgv hd hda ho hP hok) h

end
/-- What follows for a value: a row's elements may be written otherwise; a nil slice is a row of no elements. -/
def AvIs0 : AV → AV → Prop
  | .rs sz n f, .rs sz' n' f' => sz = sz' ∧ n = n' ∧ ∀ i, i < n → f' i = f i
  | .c v, .rs _ n _ => v = .slice none 0 0 ∧ n = 0
  | x, y => x = y
def AvIs0L : List AV → List AV → Prop
  | [], [] => True
  | [x], [y] => AvIs0 x y
  | x :: l, y :: l' => AvIs0 x y ∧ AvIs0L l l'
  | _, _ => False
/-- The same, part by part, for what a function hands back. -/
def AvIs : AV → AV → Prop
  | .tup l, .tup l' => AvIs0L l l'
  | x, y => AvIs0 x y
theorem AvIs0.refl (x : AV) : AvIs0 x x := by cases x <;> simp [AvIs0]
theorem AvIs0L.refl : ∀ (l : List AV), AvIs0L l l
  | [] => trivial
  | [x] => AvIs0.refl x
  | x :: y :: l => ⟨AvIs0.refl x, AvIs0L.refl (y :: l)⟩
theorem AvIs.refl (x : AV) : AvIs x x := by
  cases x
  case tup l => exact AvIs0L.refl l
  all_goals simp [AvIs, AvIs0]
theorem AvIs0.ok {w : World} {G : Nat → Prop} {ρ : Rho} {x y : AV} {v : Value} (h : AvIs0 x y) (hr : R w G ρ x v) : R w G ρ y v := by
  unfold AvIs0 at h
  split at h
  · obtain ⟨rfl, rfl, hf⟩ := h
    cases hr with
    | rs val hn hm hc hl h => exact .rs val hn hm hc (fun i hi => by rw [hf i hi]; exact hl i hi) fun i j x hi hx => h i j x hi (by rw [← hf i hi]; exact hx)
  · obtain ⟨rfl, rfl⟩ := h
    rw [hr.c_inv]
    exact .rs (fun _ _ => undef) (Nat.le_refl _) (Nat.zero_le _) (fun h => absurd h (by simp)) (fun i hi => absurd hi (by simp)) (fun i j x hi => absurd hi (by simp))
  · subst h; exact hr
theorem AvIs0.ks {x y : AV} {p : Nat → Bool} (h : AvIs0 x y) (hk : y.ks p = true) : x.ks p = true := by
  unfold AvIs0 at h
  split at h
  · rfl
  · rfl
  · subst h; exact hk
theorem AvIs0L.at_ : ∀ {l l' : List AV}, AvIs0L l l' → l.length = l'.length ∧ ∀ (i : Nat) (x y : AV), l[i]? = some x → l'[i]? = some y → AvIs0 x y
  | [], [], _ => ⟨rfl, fun i x y h => by simp at h⟩
  | [x], [y], h => ⟨rfl, fun i x' y' h1 h2 => by
    match i with
    | 0 => simp at h1 h2; subst h1 h2; exact h
    | i + 1 => simp at h1⟩
  | x :: x2 :: l, y :: y2 :: l', h => by
    obtain ⟨h1, h2⟩ := AvIs0L.at_ (l := x2 :: l) (l' := y2 :: l') h.2
    refine ⟨by simpa using h1, fun i x' y' g1 g2 => ?_⟩
    match i with
    | 0 => simp at g1 g2; subst g1 g2; exact h.1
    | i + 1 => exact h2 i x' y' (by simpa using g1) (by simpa using g2)
  | [x], y :: y2 :: l', h => False.elim h.2
  | x :: x2 :: l, [y], h => by
    have := h.2
    cases l <;> simp [AvIs0L] at this
theorem AvIs.ok {w : World} {G : Nat → Prop} {ρ : Rho} {x y : AV} {v : Value} (h : AvIs x y) (hr : R w G ρ x v) : R w G ρ y v := by
  unfold AvIs at h
  split at h
  · rename_i l l'
    obtain ⟨hl, hat⟩ := h.at_
    obtain ⟨cs, rfl, hs, hc⟩ := hr.tup_inv
    refine .tup (by omega) fun i b hb => ?_
    have hlt : i < l.length := by
      have := (List.getElem?_eq_some_iff.1 hb).1
      omega
    have hx := List.getElem?_eq_getElem hlt
    exact (hat i _ b hx hb).ok (hc i _ hx)
  · exact AvIs0.ok h hr
theorem ksL_of_at {p : Nat → Bool} : ∀ {l : List AV}, (∀ (i : Nat) (x : AV), l[i]? = some x → x.ks p = true) → AV.ksL p l = true
  | [], _ => rfl
  | a :: l, h => by
    simp only [AV.ksL, Bool.and_eq_true]
    exact ⟨h 0 a rfl, ksL_of_at fun i x hx => h (i + 1) x (by simpa using hx)⟩
theorem AvIs.ks {x y : AV} {p : Nat → Bool} (h : AvIs x y) (hk : y.ks p = true) : x.ks p = true := by
  unfold AvIs at h
  split at h
  · rename_i l l'
    obtain ⟨hl, hat⟩ := h.at_
    refine ksL_of_at (l := l) fun i x hx => ?_
    have hlt : i < l'.length := by
      have := (List.getElem?_eq_some_iff.1 hx).1
      omega
    have hy := List.getElem?_eq_getElem hlt
    exact (hat i x _ hx hy).ks (AV.ksL_at (by simpa [AV.ks] using hk) hy)
  · exact AvIs0.ks h hk

section
variable {E : Env} {st : ST} {a : Act} {w : World} {ρ : Rho} {T : TE}
/- Results. -/
def retF1 (T : TE) (st : ST) : ResultVar → Option AV
  | .tmp t => some (st.fr t)
  | .cell x t => match loadF T st.ob t (st.fr x) with
    | some (_, r) => some r
    | none => none
def retFs (T : TE) (st : ST) : List ResultVar → Option (List AV)
  | [] => some []
  | r :: l => match retF1 T st r, retFs T st l with
    | some x, some xs => some (x :: xs)
    | _, _ => none
def retF (T : TE) (st : ST) (l : List ResultVar) : Option AV := match retFs T st l with
  | some [x] => some x
  | some xs => some (.tup xs)
  | none => none

def resSem (tmps : Array Value) : ResultVar → Sem Value
  | .tmp t => pure (tmps.getD t undef)
  | .cell a t => do loadVar t (← asAddr (tmps.getD a undef))

theorem results_eq (fn : Func) (tmps : Array Value) : results fn tmps = (do let vs ← fn.results.mapM (resSem tmps); pure (if h : vs.size = 1 then vs[0] else .tuple vs)) := by
  unfold results resSem
  rfl

theorem retF1_ok (hT : TOk E.P T) (h : SatR E st a w ρ) {r : ResultVar} {x : AV} (hr : retF1 T st r = some x) : ∃ v, (resSem a.tmps r).run E.P w = .ok v w ∧ R w (E.good w ρ) ρ x v := by
  cases r with
  | tmp t =>
    simp only [retF1, Option.some.injEq] at hr
    subst hr
    exact ⟨_, rfl, h.fr t⟩
  | cell c t =>
    simp only [retF1] at hr
    split at hr
    · rename_i obl r' hl
      injection hr with hr
      subst hr
      obtain ⟨z, h1, h2⟩ := loadF_ok hT h hl (h.fr c)
      refine ⟨z, ?_, h2⟩
      have hp : ∃ ad, a.tmps.getD c undef = .pointer (some ad) := by
        cases hv : a.tmps.getD c undef with
        | pointer p =>
          cases p with
          | some ad => exact ⟨ad, rfl⟩
          | none => rw [hv] at h1; simp [Instr.loadAt, Instr.sureAddr] at h1
        | _ => rw [hv] at h1; simp [Instr.loadAt, Instr.sureAddr] at h1
      obtain ⟨ad, hp⟩ := hp
      rw [hp] at h1
      simp only [resSem, hp, asAddr]
      simpa [Instr.loadAt, Instr.sureAddr] using h1
    · cases hr

theorem retFs_ok (hT : TOk E.P T) (h : SatR E st a w ρ) : ∀ {l : List ResultVar} {xs : List AV}, retFs T st l = some xs → ∃ vs : List Value, (l.mapM (resSem a.tmps)).run E.P w = .ok vs w ∧ vs.length = xs.length ∧ ∀ (i : Nat) (x : AV), xs[i]? = some x → R w (E.good w ρ) ρ x (vs.getD i undef)
  | [], xs, hr => by
    simp only [retFs, Option.some.injEq] at hr
    subst hr
    exact ⟨[], rfl, rfl, fun i x hx => by simp at hx⟩
  | r :: l, xs, hr => by
    simp only [retFs] at hr
    split at hr
    · rename_i x xs' h1 h2
      injection hr with hr
      subst hr
      obtain ⟨v, g1, g2⟩ := retF1_ok hT h h1
      obtain ⟨vs, g3, g4, g5⟩ := retFs_ok hT h h2
      refine ⟨v :: vs, by simp [List.mapM_cons, g1, g3], by simp [g4], fun i y hy => ?_⟩
      cases i with
      | zero => simp at hy; subst hy; exact g2
      | succ i => simpa using g5 i y (by simpa using hy)
    · cases hr

theorem retF_ok (hT : TOk E.P T) (h : SatR E st a w ρ) {fn : Func} {x : AV} (hr : retF T st fn.results.toList = some x) : ∃ v, (results fn a.tmps).run E.P w = .ok v w ∧ R w (E.good w ρ) ρ x v := by
  unfold retF at hr
  rw [results_eq]
  have hm : ∀ {vs : List Value}, (fn.results.toList.mapM (resSem a.tmps)).run E.P w = .ok vs w → (fn.results.mapM (resSem a.tmps)).run E.P w = .ok vs.toArray w := by
    intro vs hvs
    rw [Array.mapM_eq_mapM_toList]
    simp [hvs]
  split at hr
  · rename_i y hy
    injection hr with hr
    subst hr
    obtain ⟨vs, g1, g2, g3⟩ := retFs_ok hT h hy
    match vs, g2 with
    | [v], _ => exact ⟨v, by rw [Sem.run_bind, hm g1]; rfl, g3 0 y rfl⟩
  · rename_i xs hne hy
    injection hr with hr
    subst hr
    obtain ⟨vs, g1, g2, g3⟩ := retFs_ok hT h hy
    have hl : vs.length ≠ 1 := fun e => by
      rw [g2] at e
      match xs, e with
      | [y], _ => exact hne y rfl
    refine ⟨.tuple vs.toArray, ?_, .tup (by simpa using g2) fun i x hx => by simpa using g3 i x hx⟩
    rw [Sem.run_bind, hm g1]
    simp [hl]
  · cases hr

/-- How a walk of a function's body ends. -/
def RetQ (T : TE) (rs : List ResultVar) (res : AV) : Exit → ST → Prop := fun e st => (e = .normal ∨ e = .ret) ∧ ∃ x, retF T st rs = some x ∧ x.ks (fun _ => false) = true ∧ AvIs x res

theorem RetQ.ret {rs : List ResultVar} {res x : AV} (h : retF T st rs = some x) (hk : x.ks (fun _ => false) = true) (he : x = res) : RetQ T rs res .ret st := ⟨.inr rfl, x, h, hk, he ▸ AvIs.refl x⟩
theorem RetQ.normal {rs : List ResultVar} {res x : AV} (h : retF T st rs = some x) (hk : x.ks (fun _ => false) = true) (he : x = res) : RetQ T rs res .normal st := ⟨.inl rfl, x, h, hk, he ▸ AvIs.refl x⟩

def argFr : List AV → Nat → AV
  | [], _ => .junk
  | x :: _, 0 => x
  | _ :: l, k + 1 => argFr l k
theorem argFr_eq : ∀ (args : List AV) (k : Nat), argFr args k = (args[k]?).getD .junk
  | [], k => by simp [argFr]
  | x :: l, 0 => by simp [argFr]
  | x :: l, k + 1 => by simp [argFr, argFr_eq l k]

theorem Does.mk {P : Program} {f : FuncId} {fn : Func} {c : Code} {args : List AV} {res : AV} {T : TE} (md : Nat → Bool) (hT : TOk P T) (hf : P.funcs[f]? = some fn) (hb : fn.body = some c) (hnm : (fn.name == "runtime.NumGoroutine") = false)
    {nt : Nat} {rs : List ResultVar} (hnt : fn.ntmps = nt) (hrs : fn.results.toList = rs) (hle : Nat.ble args.length nt = true)
    (h : ∀ E : Env, TOk E.P T → E.P = P → E.N = 0 → XK E [.code c] (RetQ T rs res) ⟨argFr args, fun _ => none, 0, nt, md⟩) : Does P f args res := by
  subst hnt hrs
  refine ⟨⟨fn, hf, by rw [hb]; rfl, hnm⟩, fun w G vs hs hG hr => ?_⟩
  let E : Env := ⟨P, w, fun _ => False, G, 0, Rho.none⟩
  have hgood : ∀ b, G b → E.good w Rho.none b := fun b hb => ⟨.inl hb, hG b hb, (fun k x hx => by cases hx)⟩
  have hle' := Nat.le_of_ble_eq_true hle
  have hsz : (vs ++ Array.replicate (fn.ntmps - vs.size) undef).size = fn.ntmps := by simp; omega
  have h0 : SatR E ⟨argFr args, fun _ => none, 0, fn.ntmps, md⟩ { tmps := vs ++ Array.replicate (fn.ntmps - vs.size) undef, defers := [] } w Rho.none := by
    refine ⟨Keep.refl _ _, hsz, rfl, fun k => ?_, (fun k o ho => by cases ho), fun k _ => rfl, (fun k k' x x' b hk => by cases hk), (fun k x b hk => by cases hk), (fun k hk => by cases hk)⟩
    by_cases hk : k < args.length
    · have hx := List.getElem?_eq_getElem hk
      have h1 := (hr k _ hx).tr (G' := E.good w Rho.none) (fun b hb => ⟨hgood b hb, rfl⟩) _ (Le.refl _)
      have hlt : k < vs.size := by omega
      simp only [argFr_eq, hx, Option.getD_some]
      simpa [Array.getElem?_append_left hlt] using h1
    · simp only [argFr_eq, List.getElem?_eq_none (Nat.le_of_not_lt hk), Option.getD_none]
      exact .junk
  refine calls_of_wp hf hb (wp_mono (h E hT rfl rfl _ w ⟨_, h0⟩) ?_)
  rintro e a' w' ⟨st', ⟨ρ, hs'⟩, he, x, hx, hk, hxr⟩
  obtain ⟨v, h1, h2⟩ := retF_ok (E := E) hT hs' hx
  have key : a'.defers = [] ∧ ∃ v, (results fn a'.tmps).run P w' = .ok v w' ∧ ∃ u, Ending.returned v = .returned u ∧ Keep (fun _ => False) w w' ∧ R w' (fun b => G b ∨ (w.heap.size ≤ b ∧ b < w'.heap.size)) Rho.none res u :=
    ⟨hs'.dfr, v, h1, v, rfl, hs'.keep, (hxr.ok (h2.free hk)).tr (fun b hb => ⟨by
      rcases hb with ⟨q1 | q1 | q1, q2, _⟩
      · exact .inl q1
      · exact .inr ⟨q1, q2⟩
      · exact q1.elim, rfl⟩) _ (Le.refl _)⟩
  rcases he with rfl | rfl <;> exact key
end

/- States forgotten: named slots and objects are kept, all else goes. -/
def mkFr : List (Nat × AV) → Nat → AV
  | [], _ => .junk
  | (j, x) :: l, k => bif Nat.beq j k then x else mkFr l k
def mkOb : List (Nat × Ob) → Nat → Option Ob
  | [], _ => none
  | (j, x) :: l, k => bif Nat.beq j k then some x else mkOb l k
def ST.of (L : List (Nat × AV)) (O : List (Nat × Ob)) (nx nt : Nat) (md : Nat → Bool) : ST := { fr := mkFr L, ob := mkOb O, nx := nx, nt := nt, md := md }

def Ob.ks (p : Nat → Bool) : Ob → Bool
  | .cells _ cs => AV.ksL p cs
  | .vec _ _ _ _ _ => true
def keptAll (L : List (Nat × AV)) (O : List (Nat × Ob)) : Bool :=
  L.all (fun x => x.2.ks (fun k => (mkOb O k).isSome)) && O.all (fun o => o.2.ks (fun k => (mkOb O k).isSome))

def FrIs (st : ST) : List (Nat × AV) → Prop
  | [] => True
  | [(k, x)] => AvIs (st.fr k) x
  | (k, x) :: l => AvIs (st.fr k) x ∧ FrIs st l
def ObIs1 : Option Ob → Ob → Prop
  | some (.cells t cs), .cells t' cs' => t = t' ∧ cs = cs'
  | some (.vec e sz s n f), .vec e' sz' s' n' f' => (e = e' ∧ sz = sz' ∧ s = s') ∧ n = n' ∧ ∀ i, i < n → f' i = f i
  | _, _ => False
def ObIs (st : ST) : List (Nat × Ob) → Prop
  | [] => True
  | [(k, o)] => ObIs1 (st.ob k) o
  | (k, o) :: l => ObIs1 (st.ob k) o ∧ ObIs st l

theorem FrIs.cons {st : ST} {k : Nat} {x : AV} {l : List (Nat × AV)} (h : FrIs st ((k, x) :: l)) : AvIs (st.fr k) x ∧ FrIs st l := by
  cases l with
  | nil => exact ⟨h, trivial⟩
  | cons y l => exact h
theorem ObIs.cons {st : ST} {k : Nat} {x : Ob} {l : List (Nat × Ob)} (h : ObIs st ((k, x) :: l)) : ObIs1 (st.ob k) x ∧ ObIs st l := by
  cases l with
  | nil => exact ⟨h, trivial⟩
  | cons y l => exact h

theorem mkFr_or {st : ST} : ∀ {L : List (Nat × AV)}, FrIs st L → ∀ k, mkFr L k = .junk ∨ (AvIs (st.fr k) (mkFr L k) ∧ ∃ x ∈ L, x.2 = mkFr L k)
  | [], _, k => .inl rfl
  | (j, x) :: l, h, k => by
    obtain ⟨h1, h2⟩ := h.cons
    simp only [mkFr]
    cases hb : Nat.beq j k with
    | true =>
      have := Nat.eq_of_beq_eq_true hb
      subst this
      exact .inr ⟨by rw [cond_true]; exact h1, (j, x), by simp, by rw [cond_true]⟩
    | false =>
      rw [cond_false]
      rcases mkFr_or h2 k with h3 | ⟨h3, y, h4, h5⟩
      · exact .inl h3
      · exact .inr ⟨h3, y, by simp [h4], h5⟩

theorem mkOb_some {st : ST} : ∀ {O : List (Nat × Ob)}, ObIs st O → ∀ k o, mkOb O k = some o → ObIs1 (st.ob k) o ∧ (k, o) ∈ O
  | [], _, k, o, h => by cases h
  | (j, x) :: l, h, k, o, ho => by
    simp only [mkOb] at ho
    cases hb : Nat.beq j k with
    | true =>
      have := Nat.eq_of_beq_eq_true hb
      subst this
      rw [hb, cond_true] at ho
      injection ho with ho
      subst ho
      exact ⟨h.cons.1, by simp⟩
    | false =>
      rw [hb, cond_false] at ho
      obtain ⟨h1, h2⟩ := mkOb_some h.cons.2 k o ho
      exact ⟨h1, by simp [h2]⟩

theorem SatR.weakFr {E : Env} {st : ST} {a : Act} {w : World} {ρ : Rho} (h : SatR E st a w ρ) {fr' : Nat → AV} (hf : ∀ k, fr' k = .junk ∨ AvIs (st.fr k) (fr' k)) : SatR E { st with fr := fr' } a w ρ :=
  ⟨h.keep, h.tsz, h.dfr, fun k => by
    show R w (E.good w ρ) ρ (fr' k) _
    rcases hf k with h1 | h1
    · rw [h1]; exact .junk
    · exact h1.ok (h.fr k), h.ob, h.no, h.dis, h.own, h.le⟩

def allKept (n : Nat) (O : List (Nat × Ob)) : Bool := (List.range n).all (fun k => (mkOb O k).isSome)

theorem SatR.of {E : Env} {st : ST} {L : List (Nat × AV)} {O : List (Nat × Ob)} {nx nt : Nat} {md : Nat → Bool} (hnt : nt = st.nt) (hk : keptAll L O = true) (hn : allKept E.N O = true) (hL : FrIs st L) (hO : ObIs st O) {a : Act} {w : World} {ρ : Rho} (h : SatR E st a w ρ) :
    SatR E (ST.of L O nx nt md) a w (fun k => if (mkOb O k).isSome then ρ k else none) := by
  simp only [keptAll, Bool.and_eq_true, List.all_eq_true] at hk
  simp only [allKept, List.all_eq_true, List.mem_range] at hn
  have h1 := h.weakFr (fr' := mkFr L) fun k => by
    rcases mkFr_or hL k with h1 | ⟨h1, _⟩
    · exact .inl h1
    · exact .inr h1
  refine h1.cut (st' := ST.of L O nx nt md) (fun k => (mkOb O k).isSome) hnt (fun k => ?_) (fun k o ho => ?_) (fun k hn => ?_) (fun k o ho => ?_) hn
  · rcases mkFr_or hL k with h1 | ⟨h1, x, hx, h2⟩
    · exact .inl h1
    · exact .inr ⟨rfl, (by show AV.ks _ (mkFr L k) = true; rw [← h2]; exact hk.1 x hx)⟩
  · have ho' : mkOb O k = some o := ho
    simp [ho']
  · have hn' : mkOb O k = none := hn
    simp [hn']
  · have ho' : mkOb O k = some o := ho
    obtain ⟨h1, h2⟩ := mkOb_some hO k o ho'
    have h3 := hk.2 _ h2
    show (∃ t cs, _ ∧ st.ob k = some o ∧ _) ∨ ∃ e sz s n f f', _ ∧ st.ob k = _ ∧ _
    cases hst : st.ob k with
    | none => rw [hst] at h1; exact h1.elim
    | some o1 =>
      rw [hst] at h1
      cases o1 with
      | cells t cs =>
        cases o with
        | cells t' cs' =>
          obtain ⟨rfl, rfl⟩ := h1
          exact .inl ⟨t, cs, rfl, rfl, h3⟩
        | vec => exact h1.elim
      | vec e sz s n f =>
        cases o with
        | cells => exact h1.elim
        | vec e' sz' s' n' f' =>
          obtain ⟨⟨rfl, rfl, rfl⟩, rfl, hf⟩ := h1
          exact .inr ⟨e, sz, s, n, f, f', rfl, rfl, hf⟩

theorem Weak.of {E : Env} {st : ST} {L : List (Nat × AV)} {O : List (Nat × Ob)} {nx nt n : Nat} {md : Nat → Bool} (hN : E.N = n) (hnt : nt = st.nt) (hk : keptAll L O = true) (hn : allKept n O = true) (hL : FrIs st L) (hO : ObIs st O) : Weak E st (ST.of L O nx nt md) := by
  subst hN
  intro a w ⟨ρ, h⟩
  exact ⟨_, h.of hnt hk hn hL hO⟩

end Go.Eng
