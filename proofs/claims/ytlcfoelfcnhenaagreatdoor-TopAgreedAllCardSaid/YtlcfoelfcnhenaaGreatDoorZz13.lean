import Derived.Test.YtlcfoelfcnhenaaGreatDoorZz12
set_option linter.unusedSimpArgs false
set_option linter.unusedVariables false
section
namespace Go.Eng
mutual
theorem frc_self : ∀ a : AV, frc a = some a
  | .junk => rfl
  | .c _ => rfl
  | .agg l => by simp [frc, frcL_self l]
  | .tup l => by simp [frc, frcL_self l]
  | .ptr k off => by cases k <;> rfl
  | .mp k => by cases k <;> rfl
  | .vptr k s sz i off => by cases k <;> rfl
  | .rptr _ => rfl
  | .rs _ _ _ => rfl
  | .vec k s => by cases k <;> rfl
  | .fn _ _ _ => rfl
  | .gd g a => by simp [frc, frc_self a]
theorem frcL_self : ∀ l : List AV, frcL l = some l
  | [] => rfl
  | a :: l => by simp [frcL, frc_self a, frcL_self l]
end
def recOf (fn : FuncId) (ps : Array Tmp) (assign body : Code) (D : Nat) (s : LoopState) (pend : Option Code) : Array Value → Obj :=
  fun tmps => .loop { state := s, pending := pend, fn := fn, tmps := tmps, params := ps, assign := assign, body := body, defers := D }
def yieldF (st : ST) (op : Op) : Option (Nat × List AV) :=
  match op with
  | .call c => match c.callee with
    | .value f => match strip (st.ev f) with
      | .fn (.yield l) [] [] => some (l, c.args.toList.map (fun x => strip (st.ev x)))
      | _ => none
    | _ => none
  | _ => none
def CY (P : Program) (l : Nat) (vs : Array Value) (w : World) (Rr : Ending → World → Prop) : Prop :=
  ∃ fn tmps assign body, (Instr.yield l vs).run P w = .ok (.round l fn tmps assign body) w ∧ RoundIn (FW none) 0 P l fn tmps assign body w Rr
theorem CY.mono {P : Program} {l : Nat} (vs : Array Value) (w : World) (R R' : Ending → World → Prop) (h : CY P l vs w R) (hr : ∀ e w', R e w' → R' e w') : CY P l vs w R' := by
  obtain ⟨fn, tmps, assign, body, h1, h2⟩ := h
  exact ⟨fn, tmps, assign, body, h1, h2.mono hr⟩
def DoesR (P : Program) (l : Nat) : List AV → List Ob → AV → List Ob → Prop := DoesX (CY P l) P
section
variable {E : Env} {st : ST} {a : Act} {w : World} {ρ : Rho} {T : TE}
theorem yield_run (h : SatR E st a w ρ) {o : Oper} {l : Nat} {args : List AV} (hc : yieldF st o.op = some (l, args)) {gc : Option Bool} (hgc : ∀ g, gc = some g → g = true) (ho : ∀ p ∈ o.op.operands.toList.flatMap (fun x => oblG gc (st.ev x)), p) :
    ∃ vs : Array Value, (∀ P w, (execOp a.eval o).run P w = (Instr.yield l vs).run P w) ∧ vs.size = args.length ∧ ∀ i x, args[i]? = some x → R w (E.good w ρ) ρ x (vs.getD i undef) := by
  obtain ⟨dst, op, type, pos, after, guard⟩ := o
  simp only at hc ho
  unfold yieldF at hc
  split at hc
  · rename_i c
    obtain ⟨callee, cargs, tys⟩ := c
    simp only at hc
    split at hc
    · rename_i fo
      split at hc
      · rename_i l' hfn
        simp only [Option.some.injEq, Prod.mk.injEq] at hc
        obtain ⟨rfl, rfl⟩ := hc
        have hst : ∀ x ∈ (Op.call { callee := .value fo, args := cargs, argTypes := tys }).operands, R w (E.good w ρ) ρ (strip (st.ev x)) (a.eval x) := fun x hx =>
          strip_ok hgc (fun p hp => ho p (List.mem_flatMap.2 ⟨x, by simpa using hx, hp⟩)) (h.ev x)
        have hfv := hst fo (by simp [Op.operands, Call.operands])
        rw [hfn] at hfv
        generalize hev : a.eval fo = fv at hfv
        cases hfv with
        | @fn _ _ _ _ fs cs h1 h2 h3 h4 =>
          obtain rfl : fs = #[] := Array.eq_empty_of_size_eq_zero (by simpa using h1)
          obtain rfl : cs = #[] := Array.eq_empty_of_size_eq_zero (by simpa using h3)
          refine ⟨cargs.map a.eval, fun P w => ?_, by simp, fun i x hx => ?_⟩
          · simp [execOp, resolve, hev, Deferred.ofValue, invoke]
          · simp only [List.getElem?_map, Option.map_eq_some_iff] at hx
            obtain ⟨u, hu, rfl⟩ := hx
            rw [getD_map cargs i u (by simpa using hu)]
            exact hst u (by simp [Op.operands, Call.operands]; exact .inr (by simpa using List.mem_of_getElem? hu))
      · cases hc
    · cases hc
  · cases hc
theorem yieldM_wp (h : SatR E st a w ρ) {o : Oper} {l : Nat} {args args1 args' : List AV} {res res1 : AV} {O O' : List Ob} {K : List Nat} {obs : List (Nat × Ob)} (hc : yieldF st o.op = some (l, args)) {gc : Option Bool} (hgc : ∀ g, gc = some g → g = true) (ho : ∀ p ∈ o.op.operands.toList.flatMap (fun x => oblG gc (st.ev x)), p)
    (hdst : dstOk st o = true) (hP : DoesR E.P l args' O res O') (hfa : frcL (AV.mapL (renG (posF (K.take O.length))) args) = some args1) (ha : AvIsL args1 args') (hd : nodupB K = true)
    (hv : ViewIs st.ob (posF (K.take O.length)) (K.take O.length) O) (hnew : (K.drop O.length).all (fun k => (st.ob k).isNone) = true) (hob : backF (renG (fun i => K[i]?)) K O' = some obs) (hres : frc (res.map (renG (fun i => K[i]?))) = some res1)
    {Q : Exit → Act → World → Prop} : o.wpIn (FW E.rd) 0 E.P a w (fun a' w' => Sat E (st.appM o.dst ⟨res1, obs⟩) a' w') Q := by
  obtain ⟨vs, h1, h2, h3⟩ := yield_run h hc hgc ho
  have hfa := frcL_eq hfa
  have hres := frc_eq hres
  subst hfa hres
  obtain ⟨hl, hat⟩ := ha.at
  rw [AV.mapL_length] at hl
  have key : CY E.P l vs w (fun e w' => ∃ v, e = .returned v ∧ Sat E (st.appM o.dst ⟨res.map (renG (fun i => K[i]?)), obs⟩) (a.put o.dst v) w') := by
    refine SatR.calledX (C := CY E.P l) CY.mono h h (fun _ _ h => h) hP (.inl rfl) hd hv hnew hob (by omega) (fun i y hy => ?_) (next := fun _ _ => True) (Q' := fun _ _ _ => True) fun v w' ρ' hm hle hG hr => ?_
    · have hlt : i < args.length := by
        have := (List.getElem?_eq_some_iff.1 hy).1
        omega
      have hx := List.getElem?_eq_getElem hlt
      exact ⟨_, h3 i _ hx, hat i _ y (mapL_at hx) hy⟩
    · have h0 : SatR E { st with ob := putAll st.ob obs } a w' ρ' := ⟨hm.keep, h.tsz, h.dfr.tr hG, h.gl.tr hG, fun k => (h.fr k).tr hG _ hle, hm.ob, hm.no, hm.dis, hm.own, hm.le⟩
      refine ⟨v, rfl, ρ', ?_⟩
      have hdl := dstOk_lt hdst
      cases hod : o.dst with
      | none => exact h0
      | some d => exact h0.put (hdl d hod) hr
  obtain ⟨fn, tmps, assign, body, hy, hround⟩ := key
  refine wpIn_run ((h1 _ _).trans hy) (fun _ e => by cases e) ⟨(fun e => by cases e), ?_⟩
  refine RoundIn.mono (show RoundIn (FW E.rd) 0 E.P l fn tmps assign body w _ from hround) ?_
  rintro e w' ⟨v, rfl, hs⟩
  exact hs
theorem StepTo.yieldM {ops : Array Oper} {o : Oper} {l : Nat} {args args1 args' : List AV} {res res1 : AV} {O O' : List Ob} {K : List Nat} {obs : List (Nat × Ob)} (hc : yieldF st o.op = some (l, args)) (hg : o.guard = none) (hdst : dstOk st o = true) (ho : AllP (o.op.operands.toList.flatMap (fun x => oblG none (st.ev x))))
    (hP : DoesR E.P l args' O res O') (hfa : frcL (AV.mapL (renG (posF (K.take O.length))) args) = some args1) (ha : AvIsL args1 args') (hd : nodupB K = true)
    (hv : ViewIs st.ob (posF (K.take O.length)) (K.take O.length) O) (hnew : (K.drop O.length).all (fun k => (st.ob k).isNone) = true) (hob : backF (renG (fun i => K[i]?)) K O' = some obs) (hres : frc (res.map (renG (fun i => K[i]?))) = some res1) :
    StepTo E ops o st (st.appM o.dst ⟨res1, obs⟩) := by
  intro a w ⟨ρ, h⟩ Q
  rw [if_pos (by simp [Region.wanted, hg])]
  exact yieldM_wp h hc (fun g e => by cases e) (AllP.mem ho) hdst hP hfa ha hd hv hnew hob hres
theorem StepTo.yieldMG {ops : Array Oper} {o : Oper} {j l : Nat} {pol g : Bool} {args args1 args' : List AV} {res res1 : AV} {O O' : List Ob} {K : List Nat} {obs : List (Nat × Ob)} (hc : yieldF st o.op = some (l, args)) (hg : o.guard = some (j, pol)) (hgv : gval st ops.toList j pol = some g) (hgt : g = true) (hdst : dstOk st o = true) (hda : ops.toList.all (dstOk st) = true)
    (ho : AllP (o.op.operands.toList.flatMap (fun x => oblG (some g) (st.ev x))))
    (hP : DoesR E.P l args' O res O') (hfa : frcL (AV.mapL (renG (posF (K.take O.length))) args) = some args1) (ha : AvIsL args1 args') (hd : nodupB K = true)
    (hv : ViewIs st.ob (posF (K.take O.length)) (K.take O.length) O) (hnew : (K.drop O.length).all (fun k => (st.ob k).isNone) = true) (hob : backF (renG (fun i => K[i]?)) K O' = some obs) (hres : frc (res.map (renG (fun i => K[i]?))) = some res1) :
    StepTo E ops o st (st.appM o.dst ⟨res1, obs⟩) := by
  intro a w ⟨ρ, h⟩ Q
  have hwv : Region.wanted o (yielded ops a.tmps) = g := by
    have := gval_ok h hgv (fun o' d h1 h2 => dstOk_lt (List.all_eq_true.1 hda o' (Array.mem_toList_iff.2 (Array.mem_of_getElem? h1))) d h2)
    simp only [Region.wanted, hg, this]
  rw [if_pos (hwv.trans hgt)]
  exact yieldM_wp h hc (fun g' e => by injection e with e; exact e ▸ hgt) (AllP.mem ho) hdst hP hfa ha hd hv hnew hob hres
end
section
variable {E : Env} {Q : Exit → ST → Prop} {ops : Array Oper} {o : Oper} {rest : List Oper} {l d : Nat} {args args1 args' : List AV} {res res1 : AV} {O O' : List Ob} {K : List Nat} {obs : List (Nat × Ob)} {fr : Nat → AV} {ob : Nat → Option Ob} {nx nt : Nat} {md : Nat → Bool} {P : Program} {k : List It}
theorem XL.yieldM (K : List Nat) (hE : E.P = P) (hc : yieldF ⟨fr, ob, nx, nt, md⟩ o.op = some (l, args)) (hg : o.guard = none) (hds : o.dst = some d) (hdl : Nat.blt d nt = true) (ho : AllP (o.op.operands.toList.flatMap (fun x => oblG none (ST.ev ⟨fr, ob, nx, nt, md⟩ x))))
    (hP : DoesR P l args' O res O') (hfa : frcL (AV.mapL (renG (posF (K.take O.length))) args) = some args1) (ha : AvIsL args1 args') (hd : nodupB K = true)
    (hv : ViewIs ob (posF (K.take O.length)) (K.take O.length) O) (hnew : (K.drop O.length).all (fun k => (ob k).isNone) = true) (hob : backF (renG (fun i => K[i]?)) K O' = some obs) (hres : frc (res.map (renG (fun i => K[i]?))) = some res1)
    (h : XL E ops Q rest ⟨upd fr d res1, putAll ob obs, nx, nt, md⟩) : XL E ops Q (o :: rest) ⟨fr, ob, nx, nt, md⟩ := by
  refine XL.step (StepTo.yieldM hc hg (by simp [dstOk, hds, hdl]) ho (hE ▸ hP) hfa ha hd hv hnew hob hres) ?_
  rw [hds]; exact h
theorem XL.yieldMG {j : Nat} {pol g : Bool} (K : List Nat) (x : AV) (hE : E.P = P) (hc : yieldF ⟨fr, ob, nx, nt, md⟩ o.op = some (l, args)) (hg : o.guard = some (j, pol)) (hgv : gval ⟨fr, ob, nx, nt, md⟩ ops.toList j pol = some g) (hds : o.dst = some d) (hdl : Nat.blt d nt = true) (hda : ops.toList.all (dstOk ⟨fun _ => .junk, fun _ => none, nx, nt, md⟩) = true)
    (hf : g = false → XL E ops Q rest ⟨upd fr d (.gd false x), ob, nx, nt, md⟩)
    {obl' : List Prop} (hfo : frcP (o.op.operands.toList.flatMap (fun x => oblG (some g) (ST.ev ⟨fr, ob, nx, nt, md⟩ x))) = some obl') (ho : g = true → AllP obl')
    (hP : g = true → DoesR P l args' O res O') (hfa : frcL (AV.mapL (renG (posF (K.take O.length))) args) = some args1) (ha : AvIsL args1 args') (hd : nodupB K = true)
    (hv : g = true → ViewIs ob (posF (K.take O.length)) (K.take O.length) O) (hnew : (K.drop O.length).all (fun k => (ob k).isNone) = true) (hob : backF (renG (fun i => K[i]?)) K O' = some obs) (hres : frc (res.map (renG (fun i => K[i]?))) = some res1)
    (h : g = true → XL E ops Q rest ⟨upd fr d res1, putAll ob obs, nx, nt, md⟩) : XL E ops Q (o :: rest) ⟨fr, ob, nx, nt, md⟩ := by
  cases hgb : g with
  | false =>
    refine XL.step (StepTo.skip x hg hgv hgb (by simp [dstOk, hds, hdl]) hda) ?_
    rw [hds]; exact hf hgb
  | true =>
    refine XL.step (StepTo.yieldMG hc hg hgv hgb (by simp [dstOk, hds, hdl]) hda (frcP_eq hfo ▸ ho hgb) (hE ▸ hP hgb) hfa ha hd (hv hgb) hnew hob hres) ?_
    rw [hds]; exact h hgb
end
section
variable {E : Env} {st : ST} {a : Act} {w : World} {ρ : Rho}
theorem SatR.recSet (h : SatR E st a w ρ) {k b : Nat} {mk mk' : Array Value → Obj} {cs : List AV} (hk : st.ob k = some (.lrec mk b cs)) :
    ∃ arr, w.heap[b]? = some (mk arr) ∧ arr.size = cs.length ∧ (∀ i x, cs[i]? = some x → R w (E.good w ρ) ρ x (arr.getD i undef)) ∧ SatR E { st with ob := upd st.ob k (some (.lrec mk' b cs)) } a (w.putObj b (mk' arr)) ρ := by
  obtain ⟨arr, h1, h2, h3, h4⟩ := h.ob k _ hk
  refine ⟨arr, h2, h3, h4, ?_⟩
  have hu : upd ρ k (some (.blk b)) = ρ := by
    funext j
    by_cases hj : j = k
    · subst hj; rw [upd_same, h1]
    · rw [upd_other _ _ hj]
  have hlt : b < w.heap.size := (Array.getElem?_eq_some_iff.1 h2).1
  have := h.turn (k := k) (x := .blk b) (o := .lrec mk' b cs) (w' := w.putObj b (mk' arr)) (.inr (.inl h1))
    ⟨rfl, rfl, rfl, by simp, fun b' _ hb => World.putObj_heap_other fun e => hb (by rw [h1, e]; rfl)⟩ (Nat.le_refl _) (fun b' hb => .inl (by rw [h1]; exact hb)) fun hG hl => by
      rw [hu] at hG hl ⊢
      exact ⟨arr, h1, World.putObj_heap_same hlt, h3, fun i x hx => (h4 i x hx).tr hG _ hl⟩
  rwa [hu] at this
end
def frPut : List (Tmp × AV) → (Nat → AV) → Nat → AV
  | [], fr => fr
  | (t, x) :: l, fr => frPut l (upd fr t x)
theorem frPut_ok {w : World} {G : Nat → Prop} {ρ : Rho} : ∀ (l : List (Tmp × AV)) (vs : List Value) (fr : Nat → AV) (tmps : Array Value), l.length = vs.length → (∀ p ∈ l, p.1 < tmps.size) → (∀ k, R w G ρ (fr k) (tmps.getD k undef)) →
    (∀ i p, l[i]? = some p → R w G ρ p.2 (vs.getD i undef)) → (((l.map (·.1)).zip vs).foldl (fun t (p : Tmp × Value) => t.setIfInBounds p.1 p.2) tmps).size = tmps.size ∧
    ∀ k, R w G ρ (frPut l fr k) ((((l.map (·.1)).zip vs).foldl (fun t (p : Tmp × Value) => t.setIfInBounds p.1 p.2) tmps).getD k undef)
  | [], _, fr, tmps, _, _, hf, _ => ⟨rfl, hf⟩
  | (t, x) :: l, [], _, _, h, _, _, _ => by simp at h
  | (t, x) :: l, v :: vs, fr, tmps, h, hlt, hf, hv => by
    have ht : t < tmps.size := hlt (t, x) List.mem_cons_self
    have := frPut_ok l vs (upd fr t x) (tmps.setIfInBounds t v) (by simpa using h) (fun p hp => by simpa using hlt p (List.mem_cons_of_mem _ hp)) (fun k => by
      by_cases hk : k = t
      · subst hk
        rw [upd_same]
        have := hv 0 (k, x) rfl
        simpa [ht] using this
      · rw [upd_other _ _ hk]
        have := hf k
        simpa [Array.getElem?_setIfInBounds_ne (Ne.symm hk)] using this) (fun i p hp => by
        have := hv (i + 1) p (by simpa using hp)
        simpa using this)
    simp only [List.map_cons, List.zip_cons_cons, List.foldl_cons, frPut]
    exact ⟨by rw [this.1]; simp, this.2⟩
theorem obL_upd {x y : Ob} {O : List Ob} : upd (obL (x :: O)) 0 (some y) = obL (y :: O) := by
  funext k
  cases k with
  | zero => rfl
  | succ k => rfl
def RndQ (E : Env) (L : Nat) (fn : FuncId) (ps : Array Tmp) (assign body : Code) (D : Nat) (cs : List AV) (O' : List Ob) (out : Option Code) : Exit → ST → Prop := fun e s =>
  (e = .normal ∧ out = none ∨ e = .ret ∧ out = some .ret ∨ ∃ id, e = .exit id ∧ out = some (.exit id)) ∧ ∃ st', Weak E s st' ∧ st'.ob = obL (.lrec (recOf fn ps assign body D .busy none) L cs :: O')
section
variable {E : Env} {Q : Exit → ST → Prop} {st : ST} {k : List It}
theorem XK.rangeFunc {g : Operand} {ps : Array Tmp} {assign body : Code} (kL : Nat) (K : List Nat) (frs : List AV) (st' : ST) {gf : Nat} {caps caps1 args' frs' : List AV} {O O' : List Ob} {obs : List (Nat × Ob)} {res : AV} {s : LoopState} {pend : Option Code}
    (hrd : E.rd = none) (hg : strip (st.ev g) = .fn (.func gf) [] caps) (hog : AllP (oblG none (st.ev g))) (hkL : st.ob kL = none) (hlen : frs.length = st.nt) (hfrs : ∀ i x, frs[i]? = some x → x = .junk ∨ AvIs (st.fr i) x)
    (hP : ∀ (L D : Nat) (fn : FuncId), DoesM E.P gf (.fn (.yield L) [] [] :: args') (.lrec (recOf fn ps assign body D .ready none) L frs' :: O) res (.lrec (recOf fn ps assign body D s pend) L frs' :: O'))
    (hfa : frcL (AV.mapL (renG (posF ((kL :: K).take (O.length + 1)))) caps) = some caps1) (ha : AvIsL caps1 args') (hfr' : AV.mapL (renG (posF ((kL :: K).take (O.length + 1)))) frs = frs') (hd : nodupB (kL :: K) = true)
    (hv : ViewIs st.ob (posF ((kL :: K).take (O.length + 1))) (K.take O.length) O) (hnew : (K.drop O.length).all (fun k => (st.ob k).isNone) = true) (hob : backF (renG (fun i => (kL :: K)[i]?)) K O' = some obs) (hs : s ≠ .busy)
    (hw : ∀ (L D : Nat) (fn : FuncId) (cs : List AV), Weak E { st with ob := upd (putAll st.ob obs) kL (some (.lrec (recOf fn ps assign body D .exhausted pend) L cs)) } st')
    (h : XK E (match pend with
      | none => k
      | some c => .code c :: k) Q st') : XK E (.code (.rangeFunc g ps assign body) :: k) Q st := by
  intro a w ⟨ρ, hS⟩
  rw [hrd]
  have hfa := frcL_eq hfa
  subst hfa hfr'
  have hgv : R w (E.good w ρ) ρ (strip (st.ev g)) (a.eval g) := strip_ok (gc := none) (fun g e => by cases e) (AllP.mem hog) (hS.ev g)
  rw [hg] at hgv
  generalize hev : a.eval g = fv at hgv
  cases hgv with
  | @fn _ _ _ _ fs cs q1 q2 q3 q4 =>
  obtain rfl : fs = #[] := Array.eq_empty_of_size_eq_zero (by simpa using q1)
  refine wpIn_rangeFunc (F := FW none) fun fn _ => ?_
  obtain ⟨fd, g1, g2, g3⟩ := (hP 0 0 fn).1
  -- the two blocks
  let W0 := w.alloc (.deferred (some []))
  let W1 := W0.alloc (recOf fn ps assign body w.heap.size .ready none a.tmps)
  have hk0 : Keep (fun _ => False) w W0 := Keep.of_below ((Go.RowKit.Below.refl _ _).alloc (Nat.le_refl _) _) (Nat.le_refl _)
  have hS0 : SatR E st a W0 ρ := hS.called hk0
  have hW0s : W0.heap.size = w.heap.size + 1 := by simp [W0]
  have hD0 : W0.heap[w.heap.size]? = some (.deferred (some [])) := World.alloc_heap_new w _
  have hDg : E.good W0 ρ w.heap.size := ⟨.inr (.inl hS.keep.size), by omega, fun k x hx hb => absurd (hS.lt hx hb) (by omega)⟩
  have hS1 : SatR E st { a with defers := dMark w.heap.size :: a.defers } W0 ρ := by
    refine ⟨hS0.keep, hS0.tsz, ?_, hS0.gl, hS0.fr, hS0.ob, hS0.no, hS0.dis, hS0.own, hS0.le⟩
    obtain ⟨df, d1, d2, d3⟩ := hS.dfr
    obtain ⟨df0, e1, e2, e3⟩ := hS0.dfr
    refine ⟨w.heap.size :: df, by simp [d1], List.nodup_cons.2 ⟨fun hm => ?_, d2⟩, fun D hD => ?_⟩
    · have := (d3 _ hm).2.1.2.1
      omega
    · rcases List.mem_cons.1 hD with rfl | hD
      · exact ⟨hS.keep.size, hDg, hD0⟩
      · have hd3 := d3 D hD
        refine ⟨hd3.1, ⟨hd3.2.1.1, by have := hd3.2.1.2.1; omega, hd3.2.1.2.2⟩, ?_⟩
        rw [hk0.block D hd3.2.1.2.1 id]
        exact hd3.2.2
  have hS2 : SatR E { st with ob := upd st.ob kL (some (.lrec (recOf fn ps assign body w.heap.size .ready none) (w.heap.size + 1) frs)) } { a with defers := dMark w.heap.size :: a.defers } W1 (upd ρ kL (some (.blk (w.heap.size + 1)))) := by
    have hn := hS1.no kL hkL
    refine hS1.turn (.inl hn) (by rw [hn]; exact World.grownBy_alloc W0 _ none) (Nat.le_refl _) (fun b hb => ?_) fun hG hl => ?_
    · injection hb with hb; subst hb; exact .inr (by omega)
    · refine ⟨a.tmps, upd_same _ _ _, ?_, ?_, fun i x hx => ?_⟩
      · have := World.alloc_heap_new W0 (recOf fn ps assign body w.heap.size .ready none a.tmps)
        rwa [hW0s] at this
      · rw [hS.tsz, hlen]
      · rcases hfrs i x hx with h0 | h0
        · rw [h0]; exact .junk
        · exact (h0.ok (hS0.fr i)).tr hG _ hl
  refine ⟨w.heap.size + 1, [dMark w.heap.size], W1, { target := .fn (.func gf) cs, args := #[.func (.yield (w.heap.size + 1)) #[] #[]] }, W1, gf, #[.func (.yield (w.heap.size + 1)) #[] #[]] ++ cs, W1, ?_, ?_, fun _ _ => trivial, ?_, (fun e => by cases e), ?_⟩
  · exact run_enterLoop_outer _ _ _ _ _
  · simp only [resolve, hev]
    simp [go_sem]
  · have hbn : fd.body ≠ none := fun e => by rw [e] at g2; cases g2
    have hnm : fd.name ≠ "runtime.NumGoroutine" := by simpa using g3
    simp [invoke, callFunc, g1, hnm, hbn]
  · refine Calls.fw ?_ _ _
    have hev2 : (({ a with defers := dMark w.heap.size :: a.defers } : Act).eval g) = .func (.func gf) #[] cs := by rw [← hev]; cases g <;> rfl
    have hgv2 : R W1 (E.good W1 (upd ρ kL (some (.blk (w.heap.size + 1))))) (upd ρ kL (some (.blk (w.heap.size + 1)))) (.fn (.func gf) [] caps) (.func (.func gf) #[] cs) := by
      have h0 := strip_ok (gc := none) (fun g e => by cases e) (AllP.mem hog) (hS2.ev g)
      rw [hev2] at h0
      rw [← hg]
      exact h0
    have hcs : cs.size = caps.length ∧ ∀ i x, caps[i]? = some x → R W1 (E.good W1 (upd ρ kL (some (.blk (w.heap.size + 1))))) (upd ρ kL (some (.blk (w.heap.size + 1)))) x (cs.getD i undef) := by
      cases hgv2 with
      | fn _ _ r3 r4 => exact ⟨r3, r4⟩
    have hal := ha.at
    rw [AV.mapL_length] at hal
    have hkK : ∀ k ∈ K, k ≠ kL := fun k hk e => by
      subst e
      simp only [nodupB, Bool.and_eq_true, Bool.not_eq_true', List.any_eq_false] at hd
      exact hd.1 k hk (by simp)
    have hvv : ∀ (K' : List Nat) (O1 : List Ob), (∀ k ∈ K', k ≠ kL) → ViewIs st.ob (posF ((kL :: K).take (O.length + 1))) K' O1 →
        ViewIs (upd st.ob kL (some (.lrec (recOf fn ps assign body w.heap.size .ready none) (w.heap.size + 1) frs))) (posF ((kL :: K).take (O.length + 1))) K' O1 := by
      intro K'
      induction K' with
      | nil =>
        intro O1 _ hvw
        cases O1 with
        | nil => exact trivial
        | cons o l => cases l <;> exact hvw.elim
      | cons k K' ih =>
        intro O1 hk hvw
        have e : upd st.ob kL (some (.lrec (recOf fn ps assign body w.heap.size .ready none) (w.heap.size + 1) frs)) k = st.ob k := upd_other _ _ (hk k List.mem_cons_self)
        match O1, hvw with
        | [], _ => exact trivial
        | [o], hvw => show ObIs1 (Option.map _ (upd st.ob kL _ k)) o; rw [e]; exact hvw
        | o :: o' :: l, hvw => exact ⟨by rw [e]; exact hvw.1, ih _ (fun j hj => hk j (List.mem_cons_of_mem _ hj)) hvw.2⟩
    have hv2 := hvv (K.take O.length) O (fun k hk => hkK k (List.mem_of_mem_take hk)) hv
    have hv3 : ViewIs (upd st.ob kL (some (.lrec (recOf fn ps assign body w.heap.size .ready none) (w.heap.size + 1) frs))) (posF ((kL :: K).take (O.length + 1))) (kL :: K.take O.length) (.lrec (recOf fn ps assign body w.heap.size .ready none) (w.heap.size + 1) (AV.mapL (renG (posF ((kL :: K).take (O.length + 1)))) frs) :: O) := by
      have h1 : ObIs1 ((upd st.ob kL (some (.lrec (recOf fn ps assign body w.heap.size .ready none) (w.heap.size + 1) frs)) kL).map (Ob.map (renG (posF ((kL :: K).take (O.length + 1)))))) (.lrec (recOf fn ps assign body w.heap.size .ready none) (w.heap.size + 1) (AV.mapL (renG (posF ((kL :: K).take (O.length + 1)))) frs)) := by
        rw [upd_same]; exact ⟨rfl, rfl, rfl⟩
      cases O with
      | nil => exact h1
      | cons o O => exact ⟨h1, hv2⟩
    have hnew2 : ((kL :: K).drop (O.length + 1)).all (fun k => (upd st.ob kL (some (.lrec (recOf fn ps assign body w.heap.size .ready none) (w.heap.size + 1) frs)) k).isNone) = true := by
      rw [List.all_eq_true] at hnew ⊢
      intro k hk
      have hk : k ∈ K.drop O.length := hk
      rw [upd_other _ _ (hkK k (List.mem_of_mem_drop hk))]
      exact hnew k hk
    have hob2 : ∀ cs0, backF (renG (fun i => (kL :: K)[i]?)) (kL :: K) (.lrec (recOf fn ps assign body w.heap.size s pend) (w.heap.size + 1) cs0 :: O') = some ((kL, .lrec (recOf fn ps assign body w.heap.size s pend) (w.heap.size + 1) (AV.mapL (renG (fun i => (kL :: K)[i]?)) cs0)) :: obs) := by
      intro cs0
      have : frcKO kL (Ob.map (renG (fun i => (kL :: K)[i]?)) (.lrec (recOf fn ps assign body w.heap.size s pend) (w.heap.size + 1) cs0)) = some (kL, .lrec (recOf fn ps assign body w.heap.size s pend) (w.heap.size + 1) (AV.mapL (renG (fun i => (kL :: K)[i]?)) cs0)) := by
        simp only [Ob.map, frcKO, frcO, frcL_self]
        cases kL <;> rfl
      simp only [backF, this, hob]
    refine SatR.calledX (C := fun vs w R => Calls E.P gf vs w R) (fun _ _ _ _ hc hr => hc.mono hr) hS2 hS2 (fun _ _ h => h) (hP (w.heap.size + 1) w.heap.size fn).2 (K := kL :: K) (.inl rfl) hd (by simpa using hv3) (by simpa using hnew2) (hob2 _) ?_ ?_ (next := fun _ _ => True) (Q' := fun _ _ _ => True) ?_
    · simp; omega
    · intro i y hy
      cases i with
      | zero =>
        simp only [List.getElem?_cons_zero, Option.some.injEq] at hy
        subst hy
        refine ⟨.fn (.yield (w.heap.size + 1)) [] [], ?_, AvIs.refl _⟩
        have : (#[Value.func (.yield (w.heap.size + 1)) #[] #[]] ++ cs).getD 0 undef = .func (.yield (w.heap.size + 1)) #[] #[] := by simp [Array.getElem?_append]
        rw [this]
        exact .fn rfl (fun i a h => by simp at h) rfl (fun i a h => by simp at h)
      | succ i =>
        simp only [List.getElem?_cons_succ] at hy
        have hlt : i < caps.length := by
          have := (List.getElem?_eq_some_iff.1 hy).1
          omega
        have hx := List.getElem?_eq_getElem hlt
        refine ⟨_, ?_, hal.2 i _ y (mapL_at hx) hy⟩
        have hlt2 : i < cs.size := by omega
        have := hcs.2 i _ hx
        simpa [Nat.add_comm 1 i, Array.getElem?_append, hlt2] using this
    · intro v w' ρ' hm hle hG hr
      have h3 : SatR E { st with ob := putAll (upd st.ob kL (some (.lrec (recOf fn ps assign body w.heap.size .ready none) (w.heap.size + 1) frs))) ((kL, .lrec (recOf fn ps assign body w.heap.size s pend) (w.heap.size + 1) (AV.mapL (renG (fun i => (kL :: K)[i]?)) (AV.mapL (renG (posF ((kL :: K).take (O.length + 1)))) frs))) :: obs) } { a with defers := dMark w.heap.size :: a.defers } w' ρ' :=
        ⟨hm.keep, hS2.tsz, hS2.dfr.tr hG, hS2.gl.tr hG, fun k => (hS2.fr k).tr hG _ hle, hm.ob, hm.no, hm.dis, hm.own, hm.le⟩
      obtain ⟨arr, a1, -, -, a4⟩ := h3.recSet (k := kL) (mk' := recOf fn ps assign body w.heap.size .exhausted pend) (upd_same _ _ _)
      have hend := run_endLoop (P := E.P) a1 hs
      refine ⟨pend, _, hend, ?_⟩
      have heq : ∀ o1 o2 : Option Ob, upd (upd (putAll (upd st.ob kL o1) obs) kL o2) kL (some (.lrec (recOf fn ps assign body w.heap.size .exhausted pend) (w.heap.size + 1) (AV.mapL (renG (fun i => (kL :: K)[i]?)) (AV.mapL (renG (posF ((kL :: K).take (O.length + 1)))) frs)))) =
          upd (putAll st.ob obs) kL (some (.lrec (recOf fn ps assign body w.heap.size .exhausted pend) (w.heap.size + 1) (AV.mapL (renG (fun i => (kL :: K)[i]?)) (AV.mapL (renG (posF ((kL :: K).take (O.length + 1)))) frs)))) := by
        intro o1 o2
        funext j
        by_cases hj : j = kL
        · subst hj; rw [upd_same, upd_same]
        · rw [upd_other _ _ hj, upd_other _ _ hj, upd_other _ _ hj]
          by_cases hm : j ∈ obs.map (·.1)
          · exact putAll_mem hm
          · rw [putAll_not hm, putAll_not hm, upd_other _ _ hj]
      have h4 := a4
      simp only [putAll] at h4
      rw [heq] at h4
      have h5 := hw _ _ _ _ _ _ ⟨ρ', h4⟩
      cases pend with
      | none => exact ⟨st', h5, h⟩
      | some c =>
        have h6 : c.wpIn (FW E.rd) 0 E.P (Post E (XQ E k Q)) _ _ := h _ _ h5
        rw [hrd] at h6
        exact h6
end
end Go.Eng
end
section
namespace Go.Eng
section
variable {E : Env} {st : ST}
theorem yieldF_congr {s' : ST} {o : Oper} (hev : ∀ x ∈ o.op.operands, s'.ev x = st.ev x) : yieldF s' o.op = yieldF st o.op := by
  obtain ⟨dst, op, type, pos, after, guard⟩ := o
  simp only at hev ⊢
  unfold yieldF
  split
  · rename_i c
    obtain ⟨callee, cargs, tys⟩ := c
    simp only
    split
    · rename_i fo
      have hm : cargs.toList.map (fun x => strip (s'.ev x)) = cargs.toList.map (fun x => strip (st.ev x)) := List.map_congr_left fun x hx => by
        simp only [hev x (by simp [Op.operands, Call.operands]; exact .inr (by simpa using hx))]
      rw [hev fo (by simp [Op.operands, Call.operands]), hm]
    · rfl
  · rfl
end
section
variable {E : Env} {Q : Exit → ST → Prop} {ops : Array Oper} {o : Oper} {rest : List Oper} {l d : Nat} {args args1 args' : List AV} {res res1 : AV} {O O' : List Ob} {K : List Nat} {obs : List (Nat × Ob)} {fr : Nat → AV} {ob : Nat → Option Ob} {nx nt : Nat} {md : Nat → Bool} {P : Program} {k : List It} {tr0 : List (EffM × (List Nat × List Nat))}
end
def frL (n : Nat) (L : List (Nat × AV)) : List AV := (List.range n).map (mkFr L)
theorem frL_length (n : Nat) (L : List (Nat × AV)) : (frL n L).length = n := by simp [frL]
theorem frL_is {st : ST} {n : Nat} {L : List (Nat × AV)} (h : FrIs st L) : ∀ (i : Nat) (x : AV), (frL n L)[i]? = some x → x = .junk ∨ AvIs (st.fr i) x := by
  intro i x hx
  simp only [frL, List.getElem?_map, Option.map_eq_some_iff] at hx
  obtain ⟨j, hj, rfl⟩ := hx
  have : j = i := by
    have := List.getElem?_eq_some_iff.1 hj
    obtain ⟨h1, h2⟩ := this
    simpa using h2.symm
  subst this
  rcases mkFr_or h j with h0 | ⟨h1, _⟩
  · exact .inl h0
  · exact .inr h1
theorem Weak.ghostC {E : Env} {st : ST} {c k t e sz : Nat} {f : Nat → List AV} (hc : st.ob c = some (.cells t [.c (.slice none 0 0)])) (hk : st.ob k = none) (hck : Nat.beq c k = false) :
    Weak E st { st with ob := upd (upd st.ob k (some (.vec e sz 0 0 f))) c (some (.cells t [.vec k 0])) } := by
  have hck : c ≠ k := fun h => by subst h; simp at hck
  intro a w ⟨ρ, h⟩
  have hn := h.no k hk
  have hu : ∀ i x b, upd ρ k (some (.hdr 0 (.slice none 0 0))) i = some x → x.block = some b → ρ i = some x := by
    intro i x b hi hb
    by_cases hik : i = k
    · subst hik; rw [upd_same] at hi; injection hi with hi; subst hi; cases hb
    · rwa [upd_other _ _ hik] at hi
  have hl : Le ρ (upd ρ k (some (.hdr 0 (.slice none 0 0)))) := by
    intro i x hi
    by_cases hik : i = k
    · subst hik; rw [hn] at hi; cases hi
    · rw [upd_other _ _ hik]; exact .inl hi
  have hG : ∀ b, E.good w ρ b → E.good w (upd ρ k (some (.hdr 0 (.slice none 0 0)))) b ∧ w.heap[b]? = w.heap[b]? := fun b ⟨h0, hlt, hno⟩ => ⟨⟨h0, hlt, fun i y hi hy => hno i y (hu i y b hi hy) hy⟩, rfl⟩
  refine ⟨upd ρ k (some (.hdr 0 (.slice none 0 0))), h.keep, h.tsz, h.dfr.tr hG, h.gl.tr hG, fun i => (h.fr i).tr hG _ hl, fun i o hi => ?_, fun i hi => ?_, fun i i' y y' b hi hi' hy hy' => h.dis i i' y y' b (hu i y b hi hy) (hu i' y' b hi' hy') hy hy', fun i y b hi hy => h.own i y b (hu i y b hi hy) hy, fun i hi x hx => ?_⟩
  · by_cases hic : i = c
    · subst hic
      simp only [upd_same] at hi
      injection hi with hi
      subst hi
      obtain ⟨g, arr, h1, h2, h3, h4⟩ := h.ob i _ hc
      refine ⟨g, arr, (upd_other _ _ hck).trans h1, h2, h3, fun j x hj => ?_⟩
      have hj0 : j = 0 := by
        have := (List.getElem?_eq_some_iff.1 hj).1
        simp at this
        exact this
      subst hj0
      simp only [List.getElem?_cons_zero, Option.some.injEq] at hj
      subst hj
      have := (h4 0 _ rfl).c_inv
      rw [this]
      exact .vec (upd_same _ _ _)
    · simp only [upd_other _ _ hic] at hi
      by_cases hik : i = k
      · subst hik
        simp only [upd_same] at hi
        injection hi with hi
        subst hi
        exact ⟨.slice none 0 0, [], upd_same _ _ _, ⟨by simp, .inl ⟨rfl, rfl⟩⟩, (fun i hi => absurd hi (by omega)), fun i j x hi => absurd hi (by omega)⟩
      · simp only [upd_other _ _ hik] at hi
        exact (h.ob i o hi).tr hG hl (upd_other _ _ hik) fun _ _ _ _ => rfl
  · by_cases hic : i = c
    · subst hic; simp only [upd_same] at hi; cases hi
    · simp only [upd_other _ _ hic] at hi
      by_cases hik : i = k
      · subst hik; rw [upd_same] at hi; cases hi
      · rw [upd_other _ _ hik] at hi ⊢; exact h.no i hi
  · rcases h.le i hi x hx with h1 | ⟨s, v, s', v', h1, h2, h3⟩
    · exact hl i x h1
    · rcases hl i _ h2 with h4 | ⟨s1, v1, s2, v2, h4, h5, h6⟩
      · exact .inr ⟨s, v, s', v', h1, h4, h3⟩
      · injection h4 with h4 h7
        exact .inr ⟨s, v, s2, v2, h1, h5, by omega⟩
def RndT (E : Env) (L : Nat) (fn : FuncId) (ps : Array Tmp) (assign body : Code) (D : Nat) (cs : List AV) (O' : List Ob) (bb : Bool) (mk' : Array Value → Obj) : Exit → ST → Prop := fun e s =>
  ∃ out, RndQ E L fn ps assign body D cs O' out e s ∧ out.isNone = bb ∧ recOf fn ps assign body D (if out.isNone then .ready else .done) out = mk'
theorem DoesR.mkT {P : Program} {T : TE} (hT : TOk P T) {L : Nat} {fn : FuncId} {ps : Array Tmp} {assign body : Code} {D : Nat} {cs args : List AV} {O O' : List Ob} {bb : Bool} {mk' : Array Value → Obj} (md : Nat → Bool) (nx : Nat) (st1 : ST)
    (hps : ps.size = args.length) (hlt : ∀ t ∈ ps, t < cs.length) (hO : O.length ≤ O'.length)
    (h1 : ∀ E : Env, TOk E.P T → E.P = P → E.N = O.length + 1 → E.rd = some L → XK E [.code assign] (fun e s => e = .normal ∧ Weak E s st1) ⟨frPut (ps.toList.zip args) (argFr cs), obL (.lrec (recOf fn ps assign body D .ready none) L cs :: O), nx, cs.length, md⟩)
    (hst1 : st1.ob 0 = some (.lrec (recOf fn ps assign body D .ready none) L cs))
    (h2 : ∀ E : Env, TOk E.P T → E.P = P → E.N = O.length + 1 → E.rd = some L → XK E [.code body] (RndT E L fn ps assign body D cs O' bb mk') { st1 with ob := upd st1.ob 0 (some (.lrec (recOf fn ps assign body D .busy none) L cs)) }) :
    DoesR P L args (.lrec (recOf fn ps assign body D .ready none) L cs :: O) (.c (.bool bb)) (.lrec mk' L cs :: O') := by
  refine ⟨by simpa using hO, fun w G r vs hs hG hgl hm hr => ?_⟩
  obtain ⟨arr, hr0, hh, hsz, hcs⟩ := hm.ob 0 _ rfl
  have hy := run_yield (P := P) (args := vs) hh (by show vs.size = ps.size; omega)
  refine ⟨fn, _, assign, body, hy, ?_⟩
  let E : Env := { Env.at_ P w G (.lrec (recOf fn ps assign body D .ready none) L cs :: O).length r with rd := some L }
  have hzip : (ps.toList.zip args).map (·.1) = ps.toList := by
    rw [List.map_fst_zip]
    simp; omega
  have hfp := frPut_ok (w := w) (G := (Env.at_ P w G (.lrec (recOf fn ps assign body D .ready none) L cs :: O).length r).good w r) (ρ := r) (ps.toList.zip args) vs.toList (argFr cs) arr (by simp; omega)
    (fun p hp => by rw [hsz]; exact hlt p.1 (by have := (List.of_mem_zip hp).1; simpa using this)) (fun k => by
      by_cases hk : k < cs.length
      · have hx := List.getElem?_eq_getElem hk
        simp only [argFr_eq, hx, Option.getD_some]
        exact hcs k _ hx
      · simp only [argFr_eq, List.getElem?_eq_none (Nat.le_of_not_lt hk), Option.getD_none]
        exact .junk) (fun i p hp => by
      have hi := List.getElem?_zip_eq_some.1 hp
      have := hr i p.2 hi.2
      simpa using this)
  rw [hzip] at hfp
  have htm : (ps.zip vs).foldl (fun tmps (p : Tmp × Value) => tmps.setIfInBounds p.1 p.2) arr = (ps.toList.zip vs.toList).foldl (fun t (p : Tmp × Value) => t.setIfInBounds p.1 p.2) arr := by
    rw [← Array.foldl_toList, Array.toList_zip]
  have hN : E.N = O.length + 1 := by simp [E, Env.at_]
  have h0 : SatR E ⟨frPut (ps.toList.zip args) (argFr cs), obL (.lrec (recOf fn ps assign body D .ready none) L cs :: O), nx, cs.length, md⟩ { tmps := (ps.zip vs).foldl (fun tmps (p : Tmp × Value) => tmps.setIfInBounds p.1 p.2) arr, defers := [] } w r := by
    refine ⟨Keep.refl _ _, ?_, DfrOk.nil, hgl.tr (fun b hb => ⟨hG b hb, rfl⟩), fun k => ?_, hm.ob, hm.no, hm.dis, hm.own, hm.le⟩
    · show Array.size _ = cs.length
      rw [htm, hfp.1, hsz]
    · show R w _ r _ (Array.getD _ k undef)
      rw [htm]
      exact hfp.2 k
  refine roundIn_of_wpIn (F := FW none) trivial (wpIn_mono (h1 E hT rfl hN rfl _ w ⟨r, h0⟩) ?_)
  rintro e a1 w1 ⟨s1, hs1, he⟩
  obtain ⟨rfl, hwk⟩ := (show e = .normal ∧ Weak E s1 st1 from he)
  obtain ⟨ρ1, hρ1⟩ := hwk a1 w1 hs1
  obtain ⟨arr1, hh1, _, _, hset⟩ := hρ1.recSet (mk' := recOf fn ps assign body D .busy none) hst1
  refine ⟨_, run_beginRound hh1 rfl, wpIn_mono (h2 E hT rfl hN rfl _ _ ⟨ρ1, hset⟩) ?_⟩
  rintro e a2 w2 ⟨s2, hs2, he⟩
  obtain ⟨out, ⟨hee, st', hwk2, hob⟩, rfl, rfl⟩ := (show RndT E L fn ps assign body D cs O' bb mk' e s2 from he)
  obtain ⟨ρ2, hρ2⟩ := hwk2 a2 w2 hs2
  obtain ⟨arr2, hh2, _, _, hset2⟩ := hρ2.recSet (k := 0) (mk' := recOf fn ps assign body D (if out.isNone then .ready else .done) out) (by rw [hob]; rfl)
  have hmem := hset2.mem
  rw [show ({ st' with ob := upd st'.ob 0 (some (.lrec (recOf fn ps assign body D (if out.isNone then .ready else .done) out) L cs)) } : ST).ob = obL (.lrec (recOf fn ps assign body D (if out.isNone then .ready else .done) out) L cs :: O') by show upd st'.ob 0 _ = _; rw [hob, obL_upd]] at hmem
  have hend := run_endRound (P := P) out hh2
  have key : ∃ v w', (Instr.endRound L out).run P w2 = .ok v w' ∧ ∃ v' ρ, Ending.returned v = .returned v' ∧ MemR (Env.at_ P w G (.lrec (recOf fn ps assign body D .ready none) L cs :: O).length r) (obL (.lrec (recOf fn ps assign body D (if out.isNone then .ready else .done) out) L cs :: O')) w' ρ ∧
      R w' ((Env.at_ P w G (.lrec (recOf fn ps assign body D .ready none) L cs :: O).length r).good w' ρ) ρ (.c (.bool out.isNone)) v' :=
    ⟨_, _, hend, _, ρ2, rfl, ⟨hmem.keep, hmem.ob, hmem.no, hmem.dis, hmem.own, hmem.le⟩, .c⟩
  rcases hee with ⟨rfl, rfl⟩ | ⟨rfl, rfl⟩ | ⟨id, rfl, rfl⟩ <;> exact key
theorem Weak.names {E : Env} {fr : Nat → AV} {ob : Nat → Option Ob} {nx nt n : Nat} {md : Nat → Bool} {O1 O' : List Ob} (L : List Nat) (hN : E.N = n) (hd : nodupB L = true) (hn : (List.range n).all (fun i => match L[i]? with
    | some k => Nat.beq k i
    | none => false) = true) (hO : obsF ob (renG (posF L)) L = some O1) (hOO : ObAll O1 O') : Weak E ⟨fr, ob, nx, nt, md⟩ ⟨fun j => (fr j).map (renG (posF L)), obL O', nx, nt, md⟩ := by
  refine Weak.trans (Weak.ren L hN hd hn) ?_
  have hob : (ST.ren ⟨fr, ob, nx, nt, md⟩ L).ob = obL O1 := funext fun i => (obsF_ok hO i).symm
  obtain ⟨hl, hat⟩ := hOO.at_
  intro a w ⟨ρ, h⟩
  refine ⟨ρ, h.keep, h.tsz, h.dfr, h.gl, h.fr, fun k o ho => ?_, fun k ho => ?_, h.dis, h.own, h.le⟩
  · have hlt : k < O1.length := by
      have := (List.getElem?_eq_some_iff.1 ho).1
      omega
    have h1 : O1[k]? = some O1[k] := List.getElem?_eq_getElem hlt
    exact ObIs1.ok (hat k _ o h1 ho) (h.ob k _ (by rw [hob]; exact h1))
  · refine h.no k ?_
    rw [hob]
    have ho : O'[k]? = none := ho
    show O1[k]? = none
    simp at ho ⊢
    omega
section
variable {E : Env} {L : Nat} {fn : FuncId} {ps : Array Tmp} {assign body : Code} {D : Nat} {cs : List AV} {O1 O' : List Ob} {bb : Bool} {mk' : Array Value → Obj} {fr : Nat → AV} {ob : Nat → Option Ob} {nx nt n : Nat} {md : Nat → Bool} {k : List It}
theorem XK.outY (K : List Nat) (hN : E.N = n) (hd : nodupB K = true) (hn : (List.range n).all (fun i => match K[i]? with
    | some k => Nat.beq k i
    | none => false) = true) (hO : obsF ob (renG (posF K)) K = some O1) (hOO : ObAll O1 (.lrec (recOf fn ps assign body D .busy none) L cs :: O')) (hb : false = bb) (hmk : recOf fn ps assign body D .done (some .ret) = mk') :
    XK E (.code .ret :: k) (RndT E L fn ps assign body D cs O' bb mk') ⟨fr, ob, nx, nt, md⟩ :=
  XK.ret ⟨some .ret, ⟨.inr (.inl ⟨rfl, rfl⟩), _, Weak.names K hN hd hn hO hOO, rfl⟩, hb, hmk⟩
theorem XK.outYN (K : List Nat) (hN : E.N = n) (hd : nodupB K = true) (hn : (List.range n).all (fun i => match K[i]? with
    | some k => Nat.beq k i
    | none => false) = true) (hO : obsF ob (renG (posF K)) K = some O1) (hOO : ObAll O1 (.lrec (recOf fn ps assign body D .busy none) L cs :: O')) (hb : true = bb) (hmk : recOf fn ps assign body D .ready none = mk') :
    XK E [] (RndT E L fn ps assign body D cs O' bb mk') ⟨fr, ob, nx, nt, md⟩ :=
  XK.nil ⟨none, ⟨.inl ⟨rfl, rfl⟩, _, Weak.names K hN hd hn hO hOO, rfl⟩, hb, hmk⟩
theorem XK.nilY {st st' : ST} (hw : Weak E st st') (h : XK E [] (RndT E L fn ps assign body D cs O' bb mk') st') : XK E [] (RndT E L fn ps assign body D cs O' bb mk') st := by
  obtain ⟨out, ⟨h1, st2, h2, h3⟩, h4, h5⟩ := (show RndT E L fn ps assign body D cs O' bb mk' .normal st' from h)
  exact ⟨out, ⟨h1, st2, Weak.trans hw h2, h3⟩, h4, h5⟩
end
def giveG (k q s T : Nat) : AV → AV
  | .vec j s' => bif Nat.beq j k then .junk else (bif Nat.beq j q then (bif Nat.beq s' s then .vec k T else .junk) else .vec j s')
  | .vptr j s' sz i off => bif Nat.beq j k then .junk else (bif Nat.beq j q then (bif Nat.beq s' s then .vptr k T sz i off else .junk) else .vptr j s' sz i off)
  | x => x
def ST.give (st : ST) (k q s T : Nat) (o : Ob) : ST := { st with fr := fun j => (st.fr j).map (giveG k q s T), ob := upd (upd (fun j => (st.ob j).map (Ob.map (giveG k q s T))) q none) k (some o) }
theorem Weak.give {E : Env} {st : ST} {k q e sz s n m e0 sz0 s0 n0 : Nat} {f f0 : Nat → List AV} (T : Nat) (hN : E.N = m) (hk : st.ob k = some (.vec e0 sz0 s0 n0 f0)) (hq : st.ob q = some (.vec e sz s n f)) (hqm : Nat.ble m q = true) (hkq : Nat.beq k q = false) (hT : s0 < T) :
    Weak E st (st.give k q s T (.vec e sz T n f)) := by
  rintro a w ⟨ρ, h⟩
  have hkq : k ≠ q := fun e => by subst e; simp at hkq
  obtain ⟨hv, xs, hg, hown, hf, hr⟩ := h.ob q _ hq
  obtain ⟨hv0, xs0, hg0, -, -, -⟩ := h.ob k _ hk
  let ρ' : Rho := upd (upd ρ q none) k (some (.hdr T hv))
  have e1 : ρ' k = some (.hdr T hv) := upd_same _ _ _
  have e2 : ρ' q = none := by simp only [ρ']; rw [upd_other _ _ (Ne.symm hkq), upd_same]
  have e3 : ∀ j, j ≠ k → j ≠ q → ρ' j = ρ j := fun j h1 h2 => by simp only [ρ']; rw [upd_other _ _ h1, upd_other _ _ h2]
  have hcase : ∀ j x b, ρ' j = some x → x.block = some b → (j = k ∧ ρ q = some (.hdr s hv) ∧ (RV.hdr s hv).block = some b) ∨ (j ≠ k ∧ j ≠ q ∧ ρ j = some x) := by
    intro j x b hj hb
    by_cases h1 : j = k
    · subst h1; rw [e1] at hj; injection hj with hj; subst hj; exact .inl ⟨rfl, hg, hb⟩
    · by_cases h2 : j = q
      · subst h2; rw [e2] at hj; cases hj
      · rw [e3 j h1 h2] at hj; exact .inr ⟨h1, h2, hj⟩
  have hG : ∀ b, E.good w ρ b → E.good w ρ' b := fun b ⟨h0, hlt, hno⟩ => ⟨h0, hlt, fun j y hj hy => by
    rcases hcase j y b hj hy with ⟨_, h1, h2⟩ | ⟨_, _, h1⟩
    · exact hno q _ h1 h2
    · exact hno j y h1 hy⟩
  have leaf : ∀ x v, x.isName = true → R w (E.good w ρ) ρ x v → R w (E.good w ρ') ρ' (giveG k q s T x) v := by
    intro x v hx hxv
    cases hxv with
    | @ptr _ j off g hj =>
      refine .ptr ((e3 j (fun e => ?_) (fun e => ?_)).trans hj)
      · subst e; rw [hg0] at hj; injection hj with hj; cases hj
      · subst e; rw [hg] at hj; injection hj with hj; cases hj
    | @mp _ j g hj =>
      refine .mp ((e3 j (fun e => ?_) (fun e => ?_)).trans hj)
      · subst e; rw [hg0] at hj; injection hj with hj; cases hj
      · subst e; rw [hg] at hj; injection hj with hj; cases hj
    | @vptr _ j s' sz' i off g n' cap hj hi =>
      simp only [giveG]
      cases hb0 : Nat.beq j k with
      | true => exact .junk
      | false =>
        simp only [cond_false]
        cases hb : Nat.beq j q with
        | false => exact .vptr ((e3 j (fun e => by subst e; simp at hb0) (fun e => by subst e; simp at hb)).trans hj) hi
        | true =>
          have := Nat.eq_of_beq_eq_true hb
          subst this
          rw [hg] at hj
          injection hj with hj
          injection hj with h1 h2
          subst h1 h2
          simp only [cond_true]
          cases hb2 : Nat.beq s s with
          | false => exact .junk
          | true => exact .vptr e1 hi
    | @vptrOld _ j s1 s2 sz' i off hv' v' hj hlt =>
      simp only [giveG]
      cases hb0 : Nat.beq j k with
      | true => exact .junk
      | false =>
        simp only [cond_false]
        cases hb : Nat.beq j q with
        | false => exact .vptrOld ((e3 j (fun e => by subst e; simp at hb0) (fun e => by subst e; simp at hb)).trans hj) hlt
        | true =>
          have := Nat.eq_of_beq_eq_true hb
          subst this
          rw [hg] at hj
          injection hj with hj
          injection hj with h1 h2
          subst h1
          simp only [cond_true]
          cases hb2 : Nat.beq s1 s with
          | true => have := Nat.eq_of_beq_eq_true hb2; omega
          | false => exact .junk
    | @vec _ j s' hv' hj =>
      simp only [giveG]
      cases hb0 : Nat.beq j k with
      | true => exact .junk
      | false =>
        simp only [cond_false]
        cases hb : Nat.beq j q with
        | false => exact .vec ((e3 j (fun e => by subst e; simp at hb0) (fun e => by subst e; simp at hb)).trans hj)
        | true =>
          have := Nat.eq_of_beq_eq_true hb
          subst this
          rw [hg] at hj
          injection hj with hj
          injection hj with h1 h2
          subst h1 h2
          simp only [cond_true]
          cases hb2 : Nat.beq s s with
          | false => exact .junk
          | true => exact .vec e1
    | @vecOld _ j s1 s2 hv' v' hj hlt =>
      simp only [giveG]
      cases hb0 : Nat.beq j k with
      | true => exact .junk
      | false =>
        simp only [cond_false]
        cases hb : Nat.beq j q with
        | false => exact .vecOld ((e3 j (fun e => by subst e; simp at hb0) (fun e => by subst e; simp at hb)).trans hj) hlt
        | true =>
          have := Nat.eq_of_beq_eq_true hb
          subst this
          rw [hg] at hj
          injection hj with hj
          injection hj with h1 h2
          subst h1
          simp only [cond_true]
          cases hb2 : Nat.beq s1 s with
          | true => have := Nat.eq_of_beq_eq_true hb2; omega
          | false => exact .junk
    | _ => simp [AV.isName] at hx
  refine ⟨ρ', h.convT (g := giveG k q s T) (fun j => if j = k then q else j) rfl (fun _ => rfl) leaf (fun j o ho => ?_) (fun j ho => ?_) (fun j x b hj hb => ?_) (fun j j' x x' b hj hj' hb hb' ht => ?_) fun j hj x hx => ?_⟩
  · simp only [ST.give] at ho
    by_cases h1 : j = k
    · subst h1
      rw [upd_same] at ho
      injection ho with ho
      subst ho
      exact ⟨hv, xs, e1, hown, hf, fun i jj x hi hx => (hr i jj x hi hx).tr (fun b hb => ⟨hG b hb, rfl⟩) _ (Le.refl _)⟩
    · rw [upd_other _ _ h1] at ho
      by_cases h2 : j = q
      · subst h2; rw [upd_same] at ho; cases ho
      · rw [upd_other _ _ h2] at ho
        simp only [Option.map_eq_some_iff] at ho
        obtain ⟨o1, ho1, rfl⟩ := ho
        exact (h.ob j o1 ho1).map hG leaf (e3 j h1 h2)
  · simp only [ST.give] at ho
    by_cases h1 : j = k
    · subst h1; rw [upd_same] at ho; cases ho
    · rw [upd_other _ _ h1] at ho
      by_cases h2 : j = q
      · subst h2; exact e2
      · rw [upd_other _ _ h2] at ho
        rw [e3 j h1 h2]
        exact h.no j (by simpa using ho)
  · rcases hcase j x b hj hb with ⟨rfl, h1, h2⟩ | ⟨h1, h2, h3⟩
    · exact ⟨_, by rw [if_pos rfl]; exact h1, h2⟩
    · exact ⟨x, by rw [if_neg h1]; exact h3, hb⟩
  · rcases hcase j x b hj hb with ⟨rfl, h1, h2⟩ | ⟨h1, h2, h3⟩ <;> rcases hcase j' x' b hj' hb' with ⟨rfl, g1, g2⟩ | ⟨g1, g2, g3⟩
    · rfl
    · rw [if_pos rfl, if_neg g1] at ht; exact absurd ht.symm g2
    · rw [if_pos rfl, if_neg h1] at ht; exact absurd ht h2
    · rw [if_neg h1, if_neg g1] at ht; exact ht
  · have hq2 : j ≠ q := fun e => by
      subst e
      have := Nat.le_of_ble_eq_true hqm
      omega
    by_cases h1 : j = k
    · subst h1
      rcases h.le j hj x hx with h2 | ⟨s1, v1, s2, v2, h2, h3, h4⟩
      · rw [hg0] at h2
        injection h2 with h2
        exact .inr ⟨s0, hv0, T, hv, h2.symm, e1, hT⟩
      · rw [hg0] at h3
        injection h3 with h3
        injection h3 with h5 h6
        exact .inr ⟨s1, v1, T, hv, h2, e1, by omega⟩
    · rw [e3 j h1 hq2]
      exact h.le j hj x hx
theorem stealG_self (k s q : Nat) : stealG k s q (.vec k s) = .vec q 0 := by simp [stealG, Nat.beq_refl]
theorem stampG_self (k s t : Nat) : stampG k s t (.vec k s) = .vec k t := by simp [stampG, Nat.beq_refl]
end Go.Eng
end
