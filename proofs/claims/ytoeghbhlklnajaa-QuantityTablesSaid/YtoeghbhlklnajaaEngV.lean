/- The engine, part V: calls of functions that write what they are lent, in a region. -/
import Derived.Test.YtoeghbhlklnajaaEngU
namespace Go.Eng
set_option linter.unusedVariables false

section
variable {E : Env} {st : ST} {a : Act} {w : World} {ρ : Rho} {T : TE} {Q : Exit → ST → Prop} {k : List It}

theorem mapL_at {g : AV → AV} : ∀ {l : List AV} {i : Nat} {x : AV}, l[i]? = some x → (AV.mapL g l)[i]? = some (x.map g)
  | [], i, x, h => by simp at h
  | a :: l, 0, x, h => by simp at h; subst h; simp [AV.mapL]
  | a :: l, i + 1, x, h => by simp at h; simpa [AV.mapL] using mapL_at h

theorem callM_wp (h : SatR E st a w ρ) {o : Oper} {f : Nat} {args args1 args' : List AV} {res res1 : AV} {O O' : List Ob} {K : List Nat} {obs : List (Nat × Ob)} (hc : callF st o.op = some (f, args)) {gc : Option Bool} (hgc : ∀ g, gc = some g → g = true) (ho : ∀ p ∈ o.op.operands.toList.flatMap (fun x => oblG gc (st.ev x)), p)
    (hdst : dstOk st o = true) (hP : DoesM E.P f args' O res O') (hfa : frcL (AV.mapL (renG (posF (K.take O.length))) args) = some args1) (ha : AvIsL args1 args') (hd : nodupB K = true)
    (hv : ViewIs st.ob (posF (K.take O.length)) (K.take O.length) O) (hnew : (K.drop O.length).all (fun k => (st.ob k).isNone) = true) (hob : backF (renG (fun i => K[i]?)) K O' = some obs) (hres : frc (res.map (renG (fun i => K[i]?))) = some res1)
    {Q : Exit → Act → World → Prop} : o.wp E.P a w (fun a' w' => Sat E (st.appM o.dst ⟨res1, obs⟩) a' w') Q := by
  obtain ⟨vs, h1, h2, h3⟩ := call_run h hc hgc ho hP.1
  have hfa := frcL_eq hfa
  have hres := frc_eq hres
  subst hfa hres
  obtain ⟨hl, hat⟩ := ha.at
  rw [AV.mapL_length] at hl
  unfold Oper.wp
  rw [h1]
  simp only [Oper.upon]
  refine h.calledM hP hd hv hnew hob (by omega) (fun i y hy => ?_) (next := fun _ _ => True) (Q' := fun _ _ _ => True) fun v w' ρ' hm hle hG hr => ?_
  · have hlt : i < args.length := by
      have := (List.getElem?_eq_some_iff.1 hy).1
      omega
    have hx := List.getElem?_eq_getElem hlt
    exact ⟨_, h3 i _ hx, hat i _ y (mapL_at hx) hy⟩
  · have h0 : SatR E { st with ob := putAll st.ob obs } a w' ρ' := ⟨hm.keep, h.tsz, h.dfr, fun k => (h.fr k).tr hG _ hle, hm.ob, hm.no, hm.dis, hm.own, hm.le⟩
    refine ⟨ρ', ?_⟩
    have hdl := dstOk_lt hdst
    cases hod : o.dst with
    | none =>
      exact h0
    | some d => exact h0.put (hdl d hod) hr

theorem StepTo.callM {ops : Array Oper} {o : Oper} {f : Nat} {args args1 args' : List AV} {res res1 : AV} {O O' : List Ob} {K : List Nat} {obs : List (Nat × Ob)} (hc : callF st o.op = some (f, args)) (hg : o.guard = none) (hdst : dstOk st o = true) (ho : AllP (o.op.operands.toList.flatMap (fun x => oblG none (st.ev x))))
    (hP : DoesM E.P f args' O res O') (hfa : frcL (AV.mapL (renG (posF (K.take O.length))) args) = some args1) (ha : AvIsL args1 args') (hd : nodupB K = true)
    (hv : ViewIs st.ob (posF (K.take O.length)) (K.take O.length) O) (hnew : (K.drop O.length).all (fun k => (st.ob k).isNone) = true) (hob : backF (renG (fun i => K[i]?)) K O' = some obs) (hres : frc (res.map (renG (fun i => K[i]?))) = some res1) :
    StepTo E ops o st (st.appM o.dst ⟨res1, obs⟩) := by
  intro a w ⟨ρ, h⟩ Q
  rw [if_pos (by simp [Region.wanted, hg])]
  exact callM_wp h hc (fun g e => by cases e) (AllP.mem ho) hdst hP hfa ha hd hv hnew hob hres

theorem StepTo.callMG {ops : Array Oper} {o : Oper} {j f : Nat} {pol g : Bool} {args args1 args' : List AV} {res res1 : AV} {O O' : List Ob} {K : List Nat} {obs : List (Nat × Ob)} (hc : callF st o.op = some (f, args)) (hg : o.guard = some (j, pol)) (hgv : gval st ops.toList j pol = some g) (hgt : g = true) (hdst : dstOk st o = true) (hda : ops.toList.all (dstOk st) = true)
    (ho : AllP (o.op.operands.toList.flatMap (fun x => oblG (some g) (st.ev x))))
    (hP : DoesM E.P f args' O res O') (hfa : frcL (AV.mapL (renG (posF (K.take O.length))) args) = some args1) (ha : AvIsL args1 args') (hd : nodupB K = true)
    (hv : ViewIs st.ob (posF (K.take O.length)) (K.take O.length) O) (hnew : (K.drop O.length).all (fun k => (st.ob k).isNone) = true) (hob : backF (renG (fun i => K[i]?)) K O' = some obs) (hres : frc (res.map (renG (fun i => K[i]?))) = some res1) :
    StepTo E ops o st (st.appM o.dst ⟨res1, obs⟩) := by
  intro a w ⟨ρ, h⟩ Q
  have hwv : Region.wanted o (yielded ops a.tmps) = g := by
    have := gval_ok h hgv (fun o' d h1 h2 => dstOk_lt (List.all_eq_true.1 hda o' (Array.mem_toList_iff.2 (Array.mem_of_getElem? h1))) d h2)
    simp only [Region.wanted, hg, this]
  rw [if_pos (hwv.trans hgt)]
  exact callM_wp h hc (fun g' e => by injection e with e; exact e ▸ hgt) (AllP.mem ho) hdst hP hfa ha hd hv hnew hob hres

theorem StepTo.skip {ops : Array Oper} {o : Oper} {j : Nat} {pol g : Bool} (x : AV) (hg : o.guard = some (j, pol)) (hgv : gval st ops.toList j pol = some g) (hgt : g = false) (hdst : dstOk st o = true) (hda : ops.toList.all (dstOk st) = true) : StepTo E ops o st (st.appM o.dst ⟨.gd false x, []⟩) := by
  intro a w ⟨ρ, h⟩ Q
  have hwv : Region.wanted o (yielded ops a.tmps) = g := by
    have := gval_ok h hgv (fun o' d h1 h2 => dstOk_lt (List.all_eq_true.1 hda o' (Array.mem_toList_iff.2 (Array.mem_of_getElem? h1))) d h2)
    simp only [Region.wanted, hg, this]
  rw [if_neg (by rw [hwv, hgt]; simp)]
  exact ⟨ρ, SatR.put_app (eff := ⟨.gd false x, none⟩) (dst := o.dst) h (dstOk_lt hdst) (.gd (fun e => by cases e) fun _ => rfl)⟩

theorem callF_congr {s' : ST} {o : Oper} (hev : ∀ x ∈ o.op.operands, s'.ev x = st.ev x) : callF s' o.op = callF st o.op := by
  obtain ⟨dst, op, type, pos, after, guard⟩ := o
  simp only at hev ⊢
  unfold callF
  split
  · rename_i c
    obtain ⟨callee, cargs, tys⟩ := c
    simp only
    split
    · rename_i fo
      have hm : cargs.toList.map (fun x => strip (s'.ev x)) = cargs.toList.map (fun x => strip (st.ev x)) := List.map_congr_left fun x hx => by
        simp only [hev x (by simp [Op.operands, Call.operands]; exact .inr (by simpa using hx))]
      rw [hev fo (by simp [Op.operands, Call.operands]), hm]
    · rfl
  · rfl
theorem obl_congr {s' : ST} {o : Oper} {gc : Option Bool} (hev : ∀ x ∈ o.op.operands, s'.ev x = st.ev x) : o.op.operands.toList.flatMap (fun x => oblG gc (s'.ev x)) = o.op.operands.toList.flatMap (fun x => oblG gc (st.ev x)) := by
  simp only [List.flatMap]
  congr 1
  exact List.map_congr_left fun x hx => by simp only [hev x (by simpa using hx)]
theorem ViewIs.congr {ob ob' : Nat → Option Ob} {f : Nat → Option Nat} : ∀ {K : List Nat} {O : List Ob}, (∀ k ∈ K, ob' k = ob k) → ViewIs ob f K O → ViewIs ob' f K O
  | _, [], _, h => by cases ‹List Nat› <;> trivial
  | k :: K, [o1], hk, h => by
    show ObIs1 _ _
    rw [hk k (by simp)]
    exact h
  | k :: K, o1 :: o2 :: l, hk, h => by
    obtain ⟨h1, h2⟩ : ObIs1 ((ob k).map (Ob.map (renG f))) o1 ∧ ViewIs ob f K (o2 :: l) := h
    refine ⟨by rw [hk k (by simp)]; exact h1, ViewIs.congr (fun k hk' => hk k (by simp [hk'])) h2⟩
  | [], o1 :: l, _, h => by cases l <;> exact h.elim

/-- What a call that writes looks at: its operands' slots, and its objects. -/
def fpK (l : List Oper) (o : Oper) (K : List Nat) : List Nat × List Nat :=
  (o.op.operands.toList.flatMap slotOf ++ (match o.guard with
    | some (j, _) => (match l[j]? with
      | some o' => o'.dst.toList
      | none => [])
    | none => []), K)
theorem ev_agreeK {l : List Oper} {s' : ST} {o : Oper} {K : List Nat} (h : agree (fpK l o K) st s') : ∀ x ∈ o.op.operands, s'.ev x = st.ev x := by
  intro x hx
  cases x with
  | tmp t => exact h.2.2.2.1 t (List.mem_append_left _ (List.mem_flatMap.2 ⟨.tmp t, by simpa using hx, by simp [slotOf]⟩))
  | _ => rfl
theorem gval_agreeK {l : List Oper} {s' : ST} {o : Oper} {K : List Nat} {j : Nat} {pol : Bool} (hg : o.guard = some (j, pol)) (h : agree (fpK l o K) st s') : gval s' l j pol = gval st l j pol := by
  unfold gval
  cases hl : l[j]? with
  | none => rfl
  | some o' =>
    cases hdd : o'.dst with
    | none => simp only [hdd]
    | some d =>
      simp only [hdd]
      rw [h.2.2.2.1 d (List.mem_append_right _ (by simp [hg, hl, hdd]))]

theorem LocalM.callM {ops : Array Oper} {o : Oper} {f : Nat} {args args1 args' : List AV} {res res1 : AV} {O O' : List Ob} {K : List Nat} {obs : List (Nat × Ob)} (hc : callF st o.op = some (f, args)) (hg : o.guard = none) (hdst : dstOk st o = true) (ho : AllP (o.op.operands.toList.flatMap (fun x => oblG none (st.ev x))))
    (hP : DoesM E.P f args' O res O') (hfa : frcL (AV.mapL (renG (posF (K.take O.length))) args) = some args1) (ha : AvIsL args1 args') (hd : nodupB K = true)
    (hv : ViewIs st.ob (posF (K.take O.length)) (K.take O.length) O) (hnew : (K.drop O.length).all (fun k => (st.ob k).isNone) = true) (hob : backF (renG (fun i => K[i]?)) K O' = some obs) (hres : frc (res.map (renG (fun i => K[i]?))) = some res1) :
    LocalM E ops o st ⟨res1, obs⟩ (fpK ops.toList o K) := by
  intro s' hag
  have hev := ev_agreeK hag
  have hK : ∀ k ∈ K, s'.ob k = st.ob k := fun k hk => hag.2.2.2.2 k hk
  refine StepTo.callM ((callF_congr hev).trans hc) hg (by simpa [dstOk, hag.2.1] using hdst) (by rw [obl_congr hev]; exact ho) hP hfa ha hd (hv.congr fun k hk => hK k (List.mem_of_mem_take hk)) ?_ hob hres
  rw [← hnew]
  exact all_congr fun k hk => by rw [hK k (List.mem_of_mem_drop hk)]
theorem LocalM.callMG {ops : Array Oper} {o : Oper} {j f : Nat} {pol g : Bool} {args args1 args' : List AV} {res res1 : AV} {O O' : List Ob} {K : List Nat} {obs : List (Nat × Ob)} (hc : callF st o.op = some (f, args)) (hg : o.guard = some (j, pol)) (hgv : gval st ops.toList j pol = some g) (hgt : g = true) (hdst : dstOk st o = true) (hda : ops.toList.all (dstOk st) = true)
    (ho : AllP (o.op.operands.toList.flatMap (fun x => oblG (some g) (st.ev x))))
    (hP : DoesM E.P f args' O res O') (hfa : frcL (AV.mapL (renG (posF (K.take O.length))) args) = some args1) (ha : AvIsL args1 args') (hd : nodupB K = true)
    (hv : ViewIs st.ob (posF (K.take O.length)) (K.take O.length) O) (hnew : (K.drop O.length).all (fun k => (st.ob k).isNone) = true) (hob : backF (renG (fun i => K[i]?)) K O' = some obs) (hres : frc (res.map (renG (fun i => K[i]?))) = some res1) :
    LocalM E ops o st ⟨res1, obs⟩ (fpK ops.toList o K) := by
  intro s' hag
  have hev := ev_agreeK hag
  have hK : ∀ k ∈ K, s'.ob k = st.ob k := fun k hk => hag.2.2.2.2 k hk
  have hda' : ops.toList.all (dstOk s') = true := by
    rw [← hda]
    exact all_congr fun z _ => by simp [dstOk, hag.2.1]
  refine StepTo.callMG ((callF_congr hev).trans hc) hg ((gval_agreeK hg hag).trans hgv) hgt (by simpa [dstOk, hag.2.1] using hdst) hda' (by rw [obl_congr hev]; exact ho) hP hfa ha hd (hv.congr fun k hk => hK k (List.mem_of_mem_take hk)) ?_ hob hres
  rw [← hnew]
  exact all_congr fun k hk => by rw [hK k (List.mem_of_mem_drop hk)]
theorem LocalM.skip {ops : Array Oper} {o : Oper} {j : Nat} {pol g : Bool} (x : AV) (hg : o.guard = some (j, pol)) (hgv : gval st ops.toList j pol = some g) (hgt : g = false) (hdst : dstOk st o = true) (hda : ops.toList.all (dstOk st) = true) : LocalM E ops o st ⟨.gd false x, []⟩ (fpK ops.toList o []) := by
  intro s' hag
  have hda' : ops.toList.all (dstOk s') = true := by
    rw [← hda]
    exact all_congr fun z _ => by simp [dstOk, hag.2.1]
  exact StepTo.skip x hg ((gval_agreeK hg hag).trans hgv) hgt (by simpa [dstOk, hag.2.1] using hdst) hda'
end

section
variable {E : Env} {Q : Exit → ST → Prop} {ops : Array Oper} {o : Oper} {rest : List Oper} {f d : Nat} {args args1 args' : List AV} {res res1 : AV} {O O' : List Ob} {K : List Nat} {obs : List (Nat × Ob)} {fr : Nat → AV} {ob : Nat → Option Ob} {nx nt : Nat} {md : Nat → Bool} {P : Program} {k : List It} {tr0 : List (EffM × (List Nat × List Nat))}

theorem XL.callM (K : List Nat) (hE : E.P = P) (hc : callF ⟨fr, ob, nx, nt, md⟩ o.op = some (f, args)) (hg : o.guard = none) (hds : o.dst = some d) (hdl : Nat.blt d nt = true) (ho : AllP (o.op.operands.toList.flatMap (fun x => oblG none (ST.ev ⟨fr, ob, nx, nt, md⟩ x))))
    (hP : DoesM P f args' O res O') (hfa : frcL (AV.mapL (renG (posF (K.take O.length))) args) = some args1) (ha : AvIsL args1 args') (hd : nodupB K = true)
    (hv : ViewIs ob (posF (K.take O.length)) (K.take O.length) O) (hnew : (K.drop O.length).all (fun k => (ob k).isNone) = true) (hob : backF (renG (fun i => K[i]?)) K O' = some obs) (hres : frc (res.map (renG (fun i => K[i]?))) = some res1)
    (h : XL E ops Q rest ⟨upd fr d res1, putAll ob obs, nx, nt, md⟩) : XL E ops Q (o :: rest) ⟨fr, ob, nx, nt, md⟩ := by
  refine XL.step (StepTo.callM hc hg (by simp [dstOk, hds, hdl]) ho (hE ▸ hP) hfa ha hd hv hnew hob hres) ?_
  rw [hds]; exact h
theorem XD.callM (K : List Nat) (hE : E.P = P) (hc : callF ⟨fr, ob, nx, nt, md⟩ o.op = some (f, args)) (hg : o.guard = none) (hds : o.dst = some d) (hdl : Nat.blt d nt = true) (ho : AllP (o.op.operands.toList.flatMap (fun x => oblG none (ST.ev ⟨fr, ob, nx, nt, md⟩ x))))
    (hP : DoesM P f args' O res O') (hfa : frcL (AV.mapL (renG (posF (K.take O.length))) args) = some args1) (ha : AvIsL args1 args') (hd : nodupB K = true)
    (hv : ViewIs ob (posF (K.take O.length)) (K.take O.length) O) (hnew : (K.drop O.length).all (fun k => (ob k).isNone) = true) (hob : backF (renG (fun i => K[i]?)) K O' = some obs) (hres : frc (res.map (renG (fun i => K[i]?))) = some res1)
    (h : XD E ops Q k (tr0 ++ [(⟨res1, obs⟩, fpK ops.toList o K)]) rest ⟨upd fr d res1, putAll ob obs, nx, nt, md⟩) : XD E ops Q k tr0 (o :: rest) ⟨fr, ob, nx, nt, md⟩ := by
  refine XD.stepM (LocalM.callM hc hg (by simp [dstOk, hds, hdl]) ho (hE ▸ hP) hfa ha hd hv hnew hob hres) ?_
  rw [hds]; exact h
/-- A guarded call that writes: with the guard's answer taken apart. -/
theorem XL.callMG {j : Nat} {pol g : Bool} (K : List Nat) (x : AV) (hE : E.P = P) (hc : callF ⟨fr, ob, nx, nt, md⟩ o.op = some (f, args)) (hg : o.guard = some (j, pol)) (hgv : gval ⟨fr, ob, nx, nt, md⟩ ops.toList j pol = some g) (hds : o.dst = some d) (hdl : Nat.blt d nt = true) (hda : ops.toList.all (dstOk ⟨fun _ => .junk, fun _ => none, nx, nt, md⟩) = true)
    (hf : g = false → XL E ops Q rest ⟨upd fr d (.gd false x), ob, nx, nt, md⟩)
    {obl' : List Prop} (hfo : frcP (o.op.operands.toList.flatMap (fun x => oblG (some g) (ST.ev ⟨fr, ob, nx, nt, md⟩ x))) = some obl') (ho : g = true → AllP obl')
    (hP : g = true → DoesM P f args' O res O') (hfa : frcL (AV.mapL (renG (posF (K.take O.length))) args) = some args1) (ha : AvIsL args1 args') (hd : nodupB K = true)
    (hv : g = true → ViewIs ob (posF (K.take O.length)) (K.take O.length) O) (hnew : (K.drop O.length).all (fun k => (ob k).isNone) = true) (hob : backF (renG (fun i => K[i]?)) K O' = some obs) (hres : frc (res.map (renG (fun i => K[i]?))) = some res1)
    (h : g = true → XL E ops Q rest ⟨upd fr d res1, putAll ob obs, nx, nt, md⟩) : XL E ops Q (o :: rest) ⟨fr, ob, nx, nt, md⟩ := by
  cases hgb : g with
  | false =>
    refine XL.step (StepTo.skip x hg hgv hgb (by simp [dstOk, hds, hdl]) hda) ?_
    rw [hds]; exact hf hgb
  | true =>
    refine XL.step (StepTo.callMG hc hg hgv hgb (by simp [dstOk, hds, hdl]) hda (frcP_eq hfo ▸ ho hgb) (hE ▸ hP hgb) hfa ha hd (hv hgb) hnew hob hres) ?_
    rw [hds]; exact h hgb
theorem XD.callMG {j : Nat} {pol g : Bool} (K : List Nat) (x : AV) (hE : E.P = P) (hc : callF ⟨fr, ob, nx, nt, md⟩ o.op = some (f, args)) (hg : o.guard = some (j, pol)) (hgv : gval ⟨fr, ob, nx, nt, md⟩ ops.toList j pol = some g) (hds : o.dst = some d) (hdl : Nat.blt d nt = true) (hda : ops.toList.all (dstOk ⟨fun _ => .junk, fun _ => none, nx, nt, md⟩) = true)
    (hf : g = false → XD E ops Q k (tr0 ++ [(⟨.gd false x, []⟩, fpK ops.toList o [])]) rest ⟨upd fr d (.gd false x), ob, nx, nt, md⟩)
    {obl' : List Prop} (hfo : frcP (o.op.operands.toList.flatMap (fun x => oblG (some g) (ST.ev ⟨fr, ob, nx, nt, md⟩ x))) = some obl') (ho : g = true → AllP obl')
    (hP : g = true → DoesM P f args' O res O') (hfa : frcL (AV.mapL (renG (posF (K.take O.length))) args) = some args1) (ha : AvIsL args1 args') (hd : nodupB K = true)
    (hv : g = true → ViewIs ob (posF (K.take O.length)) (K.take O.length) O) (hnew : (K.drop O.length).all (fun k => (ob k).isNone) = true) (hob : backF (renG (fun i => K[i]?)) K O' = some obs) (hres : frc (res.map (renG (fun i => K[i]?))) = some res1)
    (h : g = true → XD E ops Q k (tr0 ++ [(⟨res1, obs⟩, fpK ops.toList o K)]) rest ⟨upd fr d res1, putAll ob obs, nx, nt, md⟩) : XD E ops Q k tr0 (o :: rest) ⟨fr, ob, nx, nt, md⟩ := by
  cases hgb : g with
  | false =>
    refine XD.stepM (LocalM.skip x hg hgv hgb (by simp [dstOk, hds, hdl]) hda) ?_
    rw [hds]; exact hf hgb
  | true =>
    refine XD.stepM (LocalM.callMG hc hg hgv hgb (by simp [dstOk, hds, hdl]) hda (frcP_eq hfo ▸ ho hgb) (hE ▸ hP hgb) hfa ha hd (hv hgb) hnew hob hres) ?_
    rw [hds]; exact h hgb
end

/-- The objects K of a state, their names turned, written out. -/
def obsF (ob : Nat → Option Ob) (g : AV → AV) : List Nat → Option (List Ob)
  | [] => some []
  | k :: K => match ob k with
    | some o => (match frcO (o.map g), obsF ob g K with
      | some o', some l => some (o' :: l)
      | _, _ => none)
    | none => none
theorem obsF_ok {ob : Nat → Option Ob} {g : AV → AV} : ∀ {K : List Nat} {l : List Ob}, obsF ob g K = some l → ∀ i : Nat, l[i]? = match K[i]? with
    | some k => (ob k).map (Ob.map g)
    | none => none
  | [], l, h, i => by simp [obsF] at h; subst h; simp
  | k :: K, l, h, i => by
    simp only [obsF] at h
    split at h
    · rename_i o ho
      split at h
      · rename_i o' l' h1 h2
        injection h with h
        subst h
        have := frcO_eq h1
        subst this
        match i with
        | 0 => simp [ho]
        | i + 1 => simpa using obsF_ok h2 i
      · cases h
    · cases h
/-- Objects that follow from others, place by place. -/
def ObAll : List Ob → List Ob → Prop
  | [], [] => True
  | [o], [o'] => ObIs1 (some o) o'
  | o :: l, o' :: l' => ObIs1 (some o) o' ∧ ObAll l l'
  | _, _ => False
theorem ObAll.at_ : ∀ {l l' : List Ob}, ObAll l l' → l.length = l'.length ∧ ∀ (i : Nat) (o o' : Ob), l[i]? = some o → l'[i]? = some o' → ObIs1 (some o) o'
  | [], [], _ => ⟨rfl, fun i o o' h => by simp at h⟩
  | [x], [y], h => ⟨rfl, fun i o o' h1 h2 => by
    match i with
    | 0 => simp at h1 h2; subst h1 h2; exact h
    | i + 1 => simp at h1⟩
  | x :: x2 :: l, y :: y2 :: l', h => by
    obtain ⟨h1, h2⟩ := ObAll.at_ (l := x2 :: l) (l' := y2 :: l') h.2
    refine ⟨by simpa using h1, fun i x' y' g1 g2 => ?_⟩
    match i with
    | 0 => simp at g1 g2; subst g1 g2; exact h.1
    | i + 1 => exact h2 i x' y' (by simpa using g1) (by simpa using g2)
  | [x], y :: y2 :: l', h => False.elim h.2
  | x :: x2 :: l, [y], h => by
    have := h.2
    cases l <;> simp [ObAll] at this

/-- The end, with the objects to hand back named in their order. -/
theorem RetM.of {E : Env} {e : Exit} {fr : Nat → AV} {ob : Nat → Option Ob} {nx nt n : Nat} {md : Nat → Bool} {T : TE} {rs : List ResultVar} {res x x' : AV} {O1 O' : List Ob} (hee : e = .normal ∨ e = .ret) (L : List Nat) (hN : E.N = n) (hd : nodupB L = true) (hn : (List.range n).all (fun i => match L[i]? with
    | some k => Nat.beq k i
    | none => false) = true) (hO : obsF ob (renG (posF L)) L = some O1) (hOO : ObAll O1 O') (h : retF T ⟨fun j => (fr j).map (renG (posF L)), obL O', nx, nt, md⟩ rs = some x) (hf : frc x = some x') (he : AvIs x' res) : RetM E T rs res O' e ⟨fr, ob, nx, nt, md⟩ := by
  have e1 := frc_eq hf
  subst e1
  refine ⟨hee, ⟨fun j => (fr j).map (renG (posF L)), obL O', nx, nt, md⟩, _, Weak.trans (Weak.ren L hN hd hn) ?_, h, he, rfl⟩
  have hob : (ST.ren ⟨fr, ob, nx, nt, md⟩ L).ob = obL O1 := funext fun i => (obsF_ok hO i).symm
  obtain ⟨hl, hat⟩ := hOO.at_
  intro a w ⟨ρ, h⟩
  refine ⟨ρ, h.keep, h.tsz, h.dfr, h.fr, fun k o ho => ?_, fun k ho => ?_, h.dis, h.own, h.le⟩
  · have hlt : k < O1.length := by
      have := (List.getElem?_eq_some_iff.1 ho).1
      omega
    have h1 : O1[k]? = some O1[k] := List.getElem?_eq_getElem hlt
    exact ObIs1.ok (hat k _ o h1 ho) (h.ob k _ (by rw [hob]; exact h1))
  · refine h.no k ?_
    rw [hob]
    have ho : O'[k]? = none := ho
    show O1[k]? = none
    simp at ho ⊢
    omega
theorem XK.outR {E : Env} {fr : Nat → AV} {ob : Nat → Option Ob} {nx nt n : Nat} {md : Nat → Bool} {k : List It} {T : TE} {rs : List ResultVar} {res x x' : AV} {O1 O' : List Ob} (L : List Nat) (hN : E.N = n) (hd : nodupB L = true) (hn : (List.range n).all (fun i => match L[i]? with
    | some k => Nat.beq k i
    | none => false) = true) (hO : obsF ob (renG (posF L)) L = some O1) (hOO : ObAll O1 O') (h : retF T ⟨fun j => (fr j).map (renG (posF L)), obL O', nx, nt, md⟩ rs = some x) (hf : frc x = some x') (he : AvIs x' res) : XK E (.code .ret :: k) (RetM E T rs res O') ⟨fr, ob, nx, nt, md⟩ :=
  XK.ret (RetM.of (.inr rfl) L hN hd hn hO hOO h hf he)
theorem XK.outRN {E : Env} {fr : Nat → AV} {ob : Nat → Option Ob} {nx nt n : Nat} {md : Nat → Bool} {T : TE} {rs : List ResultVar} {res x x' : AV} {O1 O' : List Ob} (L : List Nat) (hN : E.N = n) (hd : nodupB L = true) (hn : (List.range n).all (fun i => match L[i]? with
    | some k => Nat.beq k i
    | none => false) = true) (hO : obsF ob (renG (posF L)) L = some O1) (hOO : ObAll O1 O') (h : retF T ⟨fun j => (fr j).map (renG (posF L)), obL O', nx, nt, md⟩ rs = some x) (hf : frc x = some x') (he : AvIs x' res) : XK E [] (RetM E T rs res O') ⟨fr, ob, nx, nt, md⟩ :=
  XK.nil (RetM.of (.inl rfl) L hN hd hn hO hOO h hf he)

/-- Object k, a block of cells, is frozen. -/
def frozenCG (k : Nat) (cs : List AV) : AV → AV
  | .ptr j off => bif Nat.beq j k then .rptr (cs.drop off) else .ptr j off
  | x => x
def ST.frozenC (st : ST) (k : Nat) (cs : List AV) : ST := { st with fr := fun j => (st.fr j).map (frozenCG k cs), ob := upd (fun j => (st.ob j).map (Ob.map (frozenCG k cs))) k none }
theorem Sub.frozenC {E : Env} {st : ST} {k t m : Nat} {cs : List AV} (hN : E.N = m) (hk : st.ob k = some (.cells t cs)) (hks : AV.ksL (fun _ => false) cs = true) (hs : Nat.ble m k = true) : Sub E st (st.frozenC k cs) := by
  intro a w ρ h
  obtain ⟨g, arr, hg, hh, hsz, hr⟩ := h.ob k _ hk
  have hsub : ∀ j x b, upd ρ k none j = some x → x.block = some b → j ≠ k ∧ ρ j = some x := by
    intro j x b hj hb
    by_cases hjk : j = k
    · subst hjk; rw [upd_same] at hj; cases hj
    · rw [upd_other _ _ hjk] at hj; exact ⟨hjk, hj⟩
  have hG : ∀ b, E.good w ρ b → E.good w (upd ρ k none) b := fun b ⟨h0, hlt, hno⟩ => ⟨h0, hlt, fun j y hj hy => hno j y (hsub j y b hj hy).2 hy⟩
  have hne : ∀ {j : Nat} {s : Nat} {hv : Value}, ρ j = some (.hdr s hv) → j ≠ k := fun {j s hv} hj e => by
    subst e
    rw [hg] at hj; injection hj with hj; cases hj
  have leaf : ∀ x v, x.isName = true → R w (E.good w ρ) ρ x v → R w (E.good w (upd ρ k none)) (upd ρ k none) (frozenCG k cs x) v := by
    intro x v hx hxv
    cases hxv with
    | @ptr _ j off g' hj =>
      simp only [frozenCG]
      cases hb : Nat.beq j k with
      | false => exact .ptr ((upd_other _ _ fun e => by subst e; simp at hb).trans hj)
      | true =>
        have := Nat.eq_of_beq_eq_true hb
        subst this
        rw [hg] at hj
        injection hj with hj
        injection hj with hj
        subst hj
        rw [cond_true]
        have hc := (h.objCells hk hg).drop off
        rw [Addr.add_lit, Nat.zero_add] at hc
        refine R.rptr_mk ⟨.inr (h.own j _ g hg rfl), h.lt hg rfl, fun j' y hj' hy => ?_⟩ fun i y hy => ?_
        · obtain ⟨hn, hj2⟩ := hsub j' y g hj' hy
          exact hn (h.dis j' j y _ g hj2 hg hy rfl)
        · obtain ⟨u, h1, h2⟩ := hc i y hy
          refine ⟨u, h1, ?_⟩
          have hkk : y.ks (fun _ => false) = true := AV.ksL_at hks (by
            rw [List.getElem?_drop] at hy
            exact hy)
          exact (h2.free (ρ' := Rho.none) hkk).tr (fun b hb => ⟨hG b hb, rfl⟩) _ (Le.refl _)
    | vptr hj hi => exact .vptr ((upd_other _ _ (hne hj)).trans hj) hi
    | vptrOld hj hlt => exact .vptrOld ((upd_other _ _ (hne hj)).trans hj) hlt
    | vec hj => exact .vec ((upd_other _ _ (hne hj)).trans hj)
    | vecOld hj hlt => exact .vecOld ((upd_other _ _ (hne hj)).trans hj) hlt
    | junk => cases hx
    | c => cases hx
    | agg => cases hx
    | tup => cases hx
    | rptr => cases hx
    | rs => cases hx
    | fn => cases hx
    | gd => cases hx
  refine ⟨upd ρ k none, h.conv rfl (fun _ => rfl) leaf (fun j o hj => ?_) (fun j hj => ?_) (fun j x b hj hb => ⟨x, (hsub j x b hj hb).2, hb⟩) (fun j hj x hx => ?_), fun j x hj => ?_⟩
  · by_cases hjk : j = k
    · subst hjk; simp only [ST.frozenC, upd_same] at hj; cases hj
    · simp only [ST.frozenC, upd_other _ _ hjk, Option.map_eq_some_iff] at hj
      obtain ⟨o', ho', rfl⟩ := hj
      exact (h.ob j o' ho').map hG leaf (upd_other _ _ hjk)
  · by_cases hjk : j = k
    · subst hjk; rw [upd_same]
    · simp only [ST.frozenC, upd_other _ _ hjk, Option.map_eq_none_iff] at hj
      rw [upd_other _ _ hjk]; exact h.no j hj
  · have : j ≠ k := fun e => by
      subst e
      have := Nat.le_of_ble_eq_true hs
      omega
    rw [upd_other _ _ this]; exact h.le j hj x hx
  · by_cases hjk : j = k
    · subst hjk; rw [upd_same] at hj; cases hj
    · rw [upd_other _ _ hjk] at hj; exact hj
theorem Weak.frozenC {E : Env} {st : ST} {k t m : Nat} {cs : List AV} (hN : E.N = m) (hk : st.ob k = some (.cells t cs)) (hks : AV.ksL (fun _ => false) cs = true) (hs : Nat.ble m k = true) : Weak E st (st.frozenC k cs) := (Sub.frozenC hN hk hks hs).weak

/-- A call that may hand back new objects, and only looks at others of the call's own: these are seen as in st1. -/
theorem XL.callMB {E : Env} {Q : Exit → ST → Prop} {ops : Array Oper} {o : Oper} {rest : List Oper} {f d : Nat} {args args1 args' : List AV} {res res1 : AV} {O O' : List Ob} {obs : List (Nat × Ob)} {fr : Nat → AV} {ob : Nat → Option Ob} {nx nt : Nat} {md : Nat → Bool} {P : Program}
    (K : List Nat) (st1 : ST) (hsub : Sub E ⟨fr, ob, nx, nt, md⟩ st1) (hE : E.P = P) (hc : callF st1 o.op = some (f, args)) (hg : o.guard = none) (hds : o.dst = some d) (hdl : Nat.blt d nt = true) (ho : AllP (o.op.operands.toList.flatMap (fun x => oblG none (st1.ev x))))
    (hP : DoesM P f args' O res O') (hbare : res.bare = true) (hbareO : ∀ o ∈ O', o.Bare) (hfa : frcL (AV.mapL (renG (posF (K.take O.length))) args) = some args1) (ha : AvIsL args1 args') (hd : nodupB K = true)
    (hv : ViewIs st1.ob (posF (K.take O.length)) (K.take O.length) O) (hnew : (K.drop O.length).all (fun k => (ob k).isNone) = true) (hob : backF (renG (fun i => K[i]?)) K O' = some obs) (hres : frc (res.map (renG (fun i => K[i]?))) = some res1)
    (h : XL E ops Q rest ⟨upd fr d res1, putAll ob obs, nx, nt, md⟩) : XL E ops Q (o :: rest) ⟨fr, ob, nx, nt, md⟩ := by
  subst hE
  have hfa := frcL_eq hfa
  have hres := frc_eq hres
  subst hfa hres
  obtain ⟨hl, hat⟩ := ha.at
  rw [AV.mapL_length] at hl
  refine XL.step (st' := ⟨upd fr d (res.map (renG (fun i => K[i]?))), putAll ob obs, nx, nt, md⟩) ?_ h
  intro a w ⟨ρ, h⟩ Q
  obtain ⟨ρ1, h1, hs1⟩ := hsub a w ρ h
  rw [if_pos (by simp [Region.wanted, hg])]
  obtain ⟨vs, g1, g2, g3⟩ := call_run h1 hc (fun g e => by cases e) (AllP.mem ho) hP.1
  unfold Oper.wp
  rw [g1]
  simp only [Oper.upon]
  refine h.calledMB h1 hs1 hP (.inr ⟨hbare, hbareO⟩) hd hv hnew hob (by omega) (fun i y hy => ?_) (next := fun _ _ => True) (Q' := fun _ _ _ => True) fun v w' ρ' hm hle hG hr => ?_
  · have hlt : i < args.length := by
      have := (List.getElem?_eq_some_iff.1 hy).1
      omega
    have hx := List.getElem?_eq_getElem hlt
    exact ⟨_, g3 i _ hx, hat i _ y (mapL_at hx) hy⟩
  · have h0 : SatR E ⟨fr, putAll ob obs, nx, nt, md⟩ a w' ρ' := ⟨hm.keep, h.tsz, h.dfr, fun k => (h.fr k).tr hG _ hle, hm.ob, hm.no, hm.dis, hm.own, hm.le⟩
    refine ⟨ρ', ?_⟩
    rw [hds]
    exact h0.put (Nat.lt_of_succ_le (Nat.le_of_ble_eq_true hdl)) hr

/-- A contract of a function that only looks, as one that writes nothing. -/
theorem Does.toM {P : Program} {f : FuncId} {args : List AV} {res : AV} (h : Does P f args res) (hk : AV.ksL (fun _ => false) args = true) : DoesM P f args [] res [] := by
  refine ⟨h.1, Nat.le_refl _, fun w G r vs hs hG hm hr => ?_⟩
  have hr0 : ∀ i, r i = none := fun i => hm.no i (by simp [obL])
  have hG' : ∀ b, G b → b < w.heap.size := fun b hb => (hG b hb).2.1
  refine (h.2 w ((Env.at_ P w G 0 r).good w r) vs hs (fun b hb => hb.2.1) (fun i x hx => (hr i x hx).free (AV.ksL_at hk hx))).mono ?_
  rintro e w' ⟨v, rfl, hkeep, hv⟩
  refine ⟨v, r, rfl, ⟨⟨hkeep.os, hkeep.tape, hkeep.output, hkeep.size, fun b h1 _ => hkeep.block b h1 id⟩, (fun k o ho => by simp [obL] at ho), fun k _ => hr0 k, (fun k k' x x' b h1 => by rw [hr0 k] at h1; cases h1), (fun k x b h1 => by rw [hr0 k] at h1; cases h1), fun k hk => absurd hk (Nat.not_lt_zero k)⟩, ?_⟩
  refine hv.tr (fun b hb => ⟨?_, rfl⟩) _ (Le.none _)
  rcases hb with ⟨h1, h2, h3⟩ | ⟨h1, h2⟩
  · exact ⟨h1, Nat.lt_of_lt_of_le h2 hkeep.size, h3⟩
  · exact ⟨.inr (.inl h1), h2, (fun k x h1 => by rw [hr0 k] at h1; cases h1)⟩
end Go.Eng
