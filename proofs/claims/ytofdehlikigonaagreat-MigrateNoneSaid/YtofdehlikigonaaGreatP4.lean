import Derived.Test.YtofdehlikigonaaGreatP3
import Derived.Laws.StructEq
section
/- The engine, part P: regions that draw their order, walked once in the text's order. -/
namespace Go.Eng
section
variable {E : Env} {T : TE} {st : ST} {Q : Exit → ST → Prop} {k : List It}
theorem Local.call {ops : Array Oper} {o : Oper} {f : Nat} {args args' : List AV} {res : AV} (hc : callF st o.op = some (f, args)) (hg : o.guard = none) (hd : dstOk st o = true) (ho : AllP (o.op.operands.toList.flatMap (fun x => oblG none (st.ev x))))
    (hP : Does E.P f args' res) (hok : CallOk st args args' res) : Local E ops o st ⟨res, none⟩ (fpF ops.toList st o) := by
  intro s' ha
  have hev := ev_agree ha
  have hc' : callF s' o.op = some (f, args) := by
    rw [← hc]
    obtain ⟨dst, op, type, pos, after, guard⟩ := o
    simp only at hc ⊢
    unfold callF at hc ⊢
    split
    · rename_i c
      obtain ⟨callee, cargs, tys⟩ := c
      simp only
      split
      · rename_i fo
        have hm : cargs.toList.map (fun x => strip (s'.ev x)) = cargs.toList.map (fun x => strip (st.ev x)) := List.map_congr_left fun x hx => by
          simp only [hev x (by simp [Op.operands, Call.operands]; exact .inr (by simpa using hx))]
        rw [hev fo (by simp [Op.operands, Call.operands]), hm]
      · rfl
    · rfl
  have ho' : AllP (o.op.operands.toList.flatMap (fun x => oblG none (s'.ev x))) := by
    have : o.op.operands.toList.flatMap (fun x => oblG none (s'.ev x)) = o.op.operands.toList.flatMap (fun x => oblG none (st.ev x)) := by
      simp only [List.flatMap]
      congr 1
      exact List.map_congr_left fun x hx => by simp only [hev x (by simpa using hx)]
    rw [this]; exact ho
  have hks : ∀ kk ∈ AV.keysL args, s'.ob kk = st.ob kk := by
    intro kk hkk
    have hmem : ∃ x ∈ o.op.operands, kk ∈ (st.ev x).keys := by
      have lst : ∀ {l : List AV}, kk ∈ AV.keysL l → ∃ y ∈ l, kk ∈ y.keys := by
        intro l
        induction l with
        | nil => intro h; cases h
        | cons a l ih =>
          intro h
          simp only [AV.keysL, List.mem_append] at h
          rcases h with h | h
          · exact ⟨a, by simp, h⟩
          · obtain ⟨y, hy, hk⟩ := ih h; exact ⟨y, by simp [hy], hk⟩
      have lst2 : ∀ {l : List AV} {y : AV}, y ∈ l → kk ∈ y.keys → kk ∈ AV.keysL l := by
        intro l
        induction l with
        | nil => intro y hy; cases hy
        | cons a l ih =>
          intro y hy hk
          simp only [AV.keysL, List.mem_append]
          rcases List.mem_cons.1 hy with rfl | hy
          · exact .inl hk
          · exact .inr (ih hy hk)
      obtain ⟨y, hy, hk⟩ := lst hkk
      obtain ⟨dst, op, type, pos, after, guard⟩ := o
      simp only at hc ⊢
      unfold callF at hc
      split at hc
      · rename_i c
        obtain ⟨callee, cargs, tys⟩ := c
        simp only at hc
        split at hc
        · rename_i fo
          split at hc
          · rename_i fid first caps hfn
            simp only [Option.some.injEq, Prod.mk.injEq] at hc
            obtain ⟨rfl, rfl⟩ := hc
            have hfk : (strip (st.ev fo)).keys = AV.keysL first ++ AV.keysL caps := by rw [hfn]; rfl
            simp only [List.mem_append, List.mem_map] at hy
            rcases hy with (hy | ⟨x, hx, rfl⟩) | hy
            · exact ⟨fo, by simp [Op.operands, Call.operands], by rw [← strip_keys, hfk]; exact List.mem_append_left _ (lst2 hy hk)⟩
            · exact ⟨x, by simp [Op.operands, Call.operands]; exact .inr (by simpa using hx), by rwa [strip_keys] at hk⟩
            · exact ⟨fo, by simp [Op.operands, Call.operands], by rw [← strip_keys, hfk]; exact List.mem_append_right _ (lst2 hy hk)⟩
          · cases hc
        · cases hc
      · cases hc
    obtain ⟨x, hx, hk⟩ := hmem
    exact ha.2.2.2.2 kk (List.mem_append_left _ (List.mem_flatMap.2 ⟨x, by simpa using hx, hk⟩))
  have hok' : CallOk s' args args' res := by
    rcases hok with ⟨h1, h2⟩ | h
    · exact .inl ⟨by rw [lend_congr hks]; exact h1, h2⟩
    · exact .inr h
  have hd' : dstOk s' o = true := by simpa [dstOk, ha.2.1] using hd
  exact StepTo.call hc' hg hd' ho' hP hok'
theorem Local.callG {ops : Array Oper} {o : Oper} {j f : Nat} {pol g : Bool} {args args' : List AV} {res : AV} (hc : callF st o.op = some (f, args)) (hg : o.guard = some (j, pol)) (hgv : gval st ops.toList j pol = some g) (hd : dstOk st o = true)
    (hda : ops.toList.all (dstOk st) = true) (ho : AllP (o.op.operands.toList.flatMap (fun x => oblG (some g) (st.ev x)))) (hP : g = true → Does E.P f args' res) (hfl : res.flat = true) (hfr : args = args') (hks : AV.ksL (fun _ => false) args = true) : Local E ops o st ⟨.gd g res, none⟩ (fpF ops.toList st o) := by
  intro s' ha
  have hev := ev_agree ha
  have _ := hfl
  have hc' : callF s' o.op = some (f, args) := by
    rw [← hc]
    obtain ⟨dst, op, type, pos, after, guard⟩ := o
    simp only at hc ⊢
    unfold callF at hc ⊢
    split
    · rename_i c
      obtain ⟨callee, cargs, tys⟩ := c
      simp only
      split
      · rename_i fo
        have hm : cargs.toList.map (fun x => strip (s'.ev x)) = cargs.toList.map (fun x => strip (st.ev x)) := List.map_congr_left fun x hx => by
          simp only [hev x (by simp [Op.operands, Call.operands]; exact .inr (by simpa using hx))]
        rw [hev fo (by simp [Op.operands, Call.operands]), hm]
      · rfl
    · rfl
  have ho' : AllP (o.op.operands.toList.flatMap (fun x => oblG (some g) (s'.ev x))) := by
    have : o.op.operands.toList.flatMap (fun x => oblG (some g) (s'.ev x)) = o.op.operands.toList.flatMap (fun x => oblG (some g) (st.ev x)) := by
      simp only [List.flatMap]
      congr 1
      exact List.map_congr_left fun x hx => by simp only [hev x (by simpa using hx)]
    rw [this]; exact ho
  have hgv' : gval s' ops.toList j pol = some g := by
    rw [← hgv]
    unfold gval
    cases hl : ops.toList[j]? with
    | none => rfl
    | some o' =>
      cases hdd : o'.dst with
      | none => simp only [hdd]
      | some d =>
        simp only [hdd]
        rw [ha.2.2.2.1 d (List.mem_append_right _ (by simp [hg] at *; simp [hl, hdd]))]
  have hd' : dstOk s' o = true := by simpa [dstOk, ha.2.1] using hd
  have hda' : ops.toList.all (dstOk s') = true := by
    rw [← hda]
    exact all_congr fun z _ => by simp [dstOk, ha.2.1]
  exact StepTo.callG hc' hg hgv' hd' hda' ho' hP (.inr ⟨hfr, hks⟩)
/-- What an operation or a call does to the state: what it yields, and the objects that it turns. -/
structure EffM where
  av : AV
  obs : List (Nat × Ob)
def putAll (ob : Nat → Option Ob) : List (Nat × Ob) → Nat → Option Ob
  | [] => ob
  | (k, o) :: l => upd (putAll ob l) k (some o)
def ST.appM (st : ST) (dst : Option Nat) (e : EffM) : ST :=
  { st with fr := (match dst with | some d => upd st.fr d e.av | none => st.fr), ob := putAll st.ob e.obs }
def Eff.toM (e : Eff) : EffM := ⟨e.av, match e.ob with | some p => [p] | none => []⟩
theorem appM_toM (st : ST) (dst : Option Nat) (e : Eff) : st.appM dst e.toM = st.app dst e := by
  obtain ⟨av, ob⟩ := e
  cases ob <;> rfl
def LocalM (E : Env) (ops : Array Oper) (o : Oper) (st : ST) (eff : EffM) (fp : List Nat × List Nat) : Prop := ∀ s', agree fp st s' → StepTo E ops o s' (s'.appM o.dst eff)
theorem Local.toM {E : Env} {ops : Array Oper} {o : Oper} {st : ST} {eff : Eff} {fp : List Nat × List Nat} (h : Local E ops o st eff fp) : LocalM E ops o st eff.toM fp := fun s' ha => by
  rw [appM_toM]; exact h s' ha
/-- What each operation does, in the text's order. -/
def Runs (E : Env) (ops : Array Oper) : ST → List Oper → List (EffM × (List Nat × List Nat)) → Prop
  | _, [], [] => True
  | st, o :: l, (eff, fp) :: t => LocalM E ops o st eff fp ∧ Runs E ops (st.appM o.dst eff) l t
  | _, _, _ => False
def endOf : ST → List Oper → List (EffM × (List Nat × List Nat)) → ST
  | st, o :: l, (eff, _) :: t => endOf (st.appM o.dst eff) l t
  | st, _, _ => st
def hits (d : Option Nat) (l : List Nat) : Bool := match d with
  | some d => l.any (fun x => Nat.beq x d)
  | none => false
def hitsL (a b : List Nat) : Bool := a.any fun x => b.any fun y => Nat.beq y x
def sameD : Option Nat → Option Nat → Bool
  | some a, some b => Nat.beq a b
  | _, _ => false
def indep (o o' : Oper) (e e' : EffM × (List Nat × List Nat)) : Bool :=
  !hits o.dst e'.2.1 && !hits o'.dst e.2.1 && !sameD o.dst o'.dst && !hitsL (e.1.obs.map (·.1)) e'.2.2 && !hitsL (e'.1.obs.map (·.1)) e.2.2 && !hitsL (e.1.obs.map (·.1)) (e'.1.obs.map (·.1))
def waits (o : Oper) (j : Nat) : Bool := o.after.toList.any fun e => Region.binds .any e && Nat.beq e.on j
/-- What an operation waits for, and what that waits for, and so on: a bit each. -/
def maskOf (ms : List Nat) (o : Oper) : Nat := o.after.toList.foldl (fun s e => bif Region.binds .any e then s ||| 2 ^ e.on ||| ms.getD e.on 0 else s) 0
/-- Against all that stand ahead (their numbers from 0 on). -/
def check1 (o : Oper) (e : EffM × (List Nat × List Nat)) (cm : Nat) : Nat → List Oper → List (EffM × (List Nat × List Nat)) → Bool
  | j, o' :: l, e' :: t => (waits o j || indep o' o e' e || Nat.testBit cm j) && check1 o e cm (j + 1) l t
  | _, _, _ => true
def checkM : List Oper → List (EffM × (List Nat × List Nat)) → List Nat → List Oper → List (EffM × (List Nat × List Nat)) → Bool
  | pl, pe, ms, o :: l, e :: t => check1 o e (maskOf ms o) 0 pl pe && (o.after.toList.all fun x => !Region.binds .any x || Nat.blt x.on pl.length) && checkM (pl ++ [o]) (pe ++ [e]) (ms ++ [maskOf ms o]) l t
  | _, _, _, _, _ => true
def checkD (pl : List Oper) (pe : List (EffM × (List Nat × List Nat))) (l : List Oper) (t : List (EffM × (List Nat × List Nat))) : Bool := checkM pl pe [] l t
/-- i waits for j, or for what waits for j. -/
inductive Wt (l : List Oper) : Nat → Nat → Prop
  | one {i j : Nat} {o : Oper} (ho : l[i]? = some o) (h : waits o j = true) : Wt l i j
  | tr {i m j : Nat} {o : Oper} (ho : l[i]? = some o) (h : waits o m = true) (h' : Wt l m j) : Wt l i j
theorem Wt.mono {l l' : List Oper} (hl : ∀ (i : Nat) (o : Oper), l[i]? = some o → l'[i]? = some o) {i j : Nat} (h : Wt l i j) : Wt l' i j := by
  induction h with
  | one ho h => exact .one (hl _ _ ho) h
  | tr ho h _ ih => exact .tr (hl _ _ ho) h ih
theorem maskOf_ok {ms : List Nat} {o : Oper} {j : Nat} (h : Nat.testBit (maskOf ms o) j = true) : ∃ m, waits o m = true ∧ (m = j ∨ Nat.testBit (ms.getD m 0) j = true) := by
  have key : ∀ (l : List Edge) (s : Nat), Nat.testBit (l.foldl (fun s e => bif Region.binds .any e then s ||| 2 ^ e.on ||| ms.getD e.on 0 else s) s) j = true →
      Nat.testBit s j = true ∨ ∃ e ∈ l, Region.binds .any e = true ∧ (e.on = j ∨ Nat.testBit (ms.getD e.on 0) j = true) := by
    intro l
    induction l with
    | nil => intro s hs; exact .inl hs
    | cons e l ih =>
      intro s hs
      simp only [List.foldl_cons] at hs
      rcases ih _ hs with h1 | ⟨e', he', h2⟩
      · cases hb : Region.binds .any e with
        | false => rw [hb, cond_false] at h1; exact .inl h1
        | true =>
          rw [hb, cond_true, Nat.testBit_or, Nat.testBit_or, Bool.or_eq_true, Bool.or_eq_true] at h1
          rcases h1 with (h1 | h1) | h1
          · exact .inl h1
          · exact .inr ⟨e, by simp, hb, .inl (by rw [Nat.testBit_two_pow] at h1; simpa using h1)⟩
          · exact .inr ⟨e, by simp, hb, .inr h1⟩
      · exact .inr ⟨e', by simp [he'], h2⟩
  rcases key _ _ h with h1 | ⟨e, he, hb, h2⟩
  · simp at h1
  · exact ⟨e.on, by simp only [waits, List.any_eq_true, Bool.and_eq_true]; exact ⟨e, he, hb, by simp⟩, h2⟩
end
section
variable {E : Env} {T : TE} {Q : Exit → ST → Prop} {k : List It}
def stM (dst : Nat → Option Nat) (eff : Nat → EffM) (L : Nat → Bool) (st : ST) : Nat → ST
  | 0 => st
  | m + 1 => bif L m then (stM dst eff L st m).appM (dst m) (eff m) else stM dst eff L st m
variable {dst : Nat → Option Nat} {eff : Nat → EffM} {L L' : Nat → Bool} {st : ST}
theorem stM_const (m : Nat) : (stM dst eff L st m).nx = st.nx ∧ (stM dst eff L st m).nt = st.nt ∧ (stM dst eff L st m).md = st.md := by
  induction m with
  | zero => exact ⟨rfl, rfl, rfl⟩
  | succ m ih =>
    simp only [stM]
    cases L m with
    | true => exact ih
    | false => exact ih
theorem app_fr {s : ST} {d : Option Nat} {e : EffM} (r : Nat) : (s.appM d e).fr r = if d = some r then e.av else s.fr r := by
  cases d with
  | none => rfl
  | some d =>
    simp only [ST.appM]
    by_cases h : r = d
    · subst h; simp [upd_same]
    · rw [upd_other _ _ h, if_neg (by simp; exact fun e => h e.symm)]
theorem putAll_mem {ob ob' : Nat → Option Ob} {kk : Nat} : ∀ {l : List (Nat × Ob)}, kk ∈ l.map (·.1) → putAll ob l kk = putAll ob' l kk
  | [], h => by simp at h
  | (k, o) :: l, h => by
    simp only [putAll]
    by_cases hk : kk = k
    · subst hk; rw [upd_same, upd_same]
    · rw [upd_other _ _ hk, upd_other _ _ hk]
      refine putAll_mem ?_
      simp only [List.map_cons, List.mem_cons] at h
      exact h.resolve_left hk
theorem putAll_not {ob : Nat → Option Ob} {kk : Nat} : ∀ {l : List (Nat × Ob)}, kk ∉ l.map (·.1) → putAll ob l kk = ob kk
  | [], _ => rfl
  | (k, o) :: l, h => by
    simp only [List.map_cons, List.mem_cons, not_or] at h
    simp only [putAll]
    rw [upd_other _ _ h.1]
    exact putAll_not h.2
theorem app_ob_in {s s' : ST} {d d' : Option Nat} {e : EffM} {kk : Nat} (h : kk ∈ e.obs.map (·.1)) : (s.appM d e).ob kk = (s'.appM d' e).ob kk := putAll_mem h
theorem app_ob_out {s : ST} {d : Option Nat} {e : EffM} {kk : Nat} (h : kk ∉ e.obs.map (·.1)) : (s.appM d e).ob kk = s.ob kk := putAll_not h
theorem stM_fr (r : Nat) : ∀ m, (∀ j, j < m → dst j = some r → L j = L' j) → (stM dst eff L st m).fr r = (stM dst eff L' st m).fr r
  | 0, _ => rfl
  | m + 1, h => by
    have ih := stM_fr r m (fun j hj => h j (by omega))
    simp only [stM]
    by_cases hd : dst m = some r
    · rw [h m (by omega) hd]
      cases L' m with
      | true => simp only [cond_true, app_fr, hd, if_true]
      | false => simpa using ih
    · cases L m <;> cases L' m <;> simp only [cond_true, cond_false, app_fr, hd, if_false] <;> exact ih
theorem stM_ob (kk : Nat) : ∀ m, (∀ j, j < m → kk ∈ (eff j).obs.map (·.1) → L j = L' j) → (stM dst eff L st m).ob kk = (stM dst eff L' st m).ob kk
  | 0, _ => rfl
  | m + 1, h => by
    have ih := stM_ob kk m (fun j hj => h j (by omega))
    simp only [stM]
    by_cases hd : kk ∈ (eff m).obs.map (·.1)
    · rw [h m (by omega) hd]
      cases L' m with
      | true => simp only [cond_true]; exact app_ob_in hd
      | false => simpa using ih
    · cases L m <;> cases L' m <;> simp only [cond_true, cond_false] <;> (try rw [app_ob_out hd]) <;> (try rw [app_ob_out hd]) <;> exact ih
theorem stM_fr_ext (r i : Nat) : ∀ m, i ≤ m → (∀ j, i ≤ j → j < m → L j = true → dst j ≠ some r) → (stM dst eff L st m).fr r = (stM dst eff L st i).fr r := by
  intro m
  induction m with
  | zero => intro h _; rw [show i = 0 by omega]
  | succ m ih =>
    intro h hd
    by_cases hi : i = m + 1
    · rw [hi]
    · have := ih (by omega) (fun j h1 h2 => hd j h1 (by omega))
      simp only [stM]
      cases hl : L m with
      | true => rw [cond_true, app_fr, if_neg (hd m (by omega) (by omega) hl)]; exact this
      | false => rw [cond_false]; exact this
theorem stM_ob_ext (kk i : Nat) : ∀ m, i ≤ m → (∀ j, i ≤ j → j < m → L j = true → kk ∉ (eff j).obs.map (·.1)) → (stM dst eff L st m).ob kk = (stM dst eff L st i).ob kk := by
  intro m
  induction m with
  | zero => intro h _; rw [show i = 0 by omega]
  | succ m ih =>
    intro h hd
    by_cases hi : i = m + 1
    · rw [hi]
    · have := ih (by omega) (fun j h1 h2 => hd j h1 (by omega))
      simp only [stM]
      cases hl : L m with
      | true => rw [cond_true, app_ob_out (hd m (by omega) (by omega) hl)]; exact this
      | false => rw [cond_false]; exact this
theorem hits_false {d : Option Nat} {l : List Nat} (h : hits d l = false) : ∀ r ∈ l, d ≠ some r := by
  intro r hr e
  subst e
  have : l.any (fun x => Nat.beq x r) = true := List.any_eq_true.2 ⟨r, hr, by simp⟩
  simp only [hits] at h
  rw [this] at h
  cases h
theorem sameD_false {a b : Option Nat} (h : sameD a b = false) : ∀ r, a = some r → b ≠ some r := by
  intro r h1 h2
  subst h1 h2
  simp [sameD] at h
/-- What 'checkD' shows, by number. -/
structure Checked (ops : List Oper) (tr : List (EffM × (List Nat × List Nat))) : Prop where
  back : ∀ (i : Nat) (o : Oper), ops[i]? = some o → ∀ e ∈ o.after.toList, Region.binds .any e = true → e.on < i
  pair : ∀ (j i : Nat) (o o' : Oper) (e e' : EffM × (List Nat × List Nat)), j < i → ops[i]? = some o → ops[j]? = some o' → tr[i]? = some e → tr[j]? = some e' → Wt ops i j ∨ indep o' o e' e = true
theorem check1_ok {o : Oper} {e : EffM × (List Nat × List Nat)} {cm : Nat} : ∀ {l : List Oper} {t : List (EffM × (List Nat × List Nat))} {j0 : Nat}, check1 o e cm j0 l t = true →
    ∀ (j : Nat) (o' : Oper) (e' : EffM × (List Nat × List Nat)), l[j]? = some o' → t[j]? = some e' → (waits o (j0 + j) = true ∨ indep o' o e' e = true) ∨ Nat.testBit cm (j0 + j) = true
  | [], t, j0, _, j, o', e', h, _ => by simp at h
  | o1 :: l, [], j0, _, j, o', e', _, h => by simp at h
  | o1 :: l, e1 :: t, j0, h, j, o', e', h1, h2 => by
    simp only [check1, Bool.and_eq_true, Bool.or_eq_true] at h
    cases j with
    | zero =>
      simp at h1 h2
      subst h1 h2
      exact h.1
    | succ j =>
      simp at h1 h2
      have := check1_ok h.2 j o' e' h1 h2
      rwa [show j0 + 1 + j = j0 + (j + 1) by omega] at this
theorem checkM_ok : ∀ {l : List Oper} {t : List (EffM × (List Nat × List Nat))} {pl : List Oper} {pe : List (EffM × (List Nat × List Nat))} {ms : List Nat}, l.length = t.length → pl.length = pe.length → ms.length = pl.length → (∀ m j, Nat.testBit (ms.getD m 0) j = true → Wt pl m j) → checkM pl pe ms l t = true → Checked pl pe → Checked (pl ++ l) (pe ++ t)
  | [], [], pl, pe, ms, _, _, _, _, _, hc => by simpa using hc
  | [], _ :: _, pl, pe, ms, h, _, _, _, _, _ => by simp at h
  | _ :: _, [], pl, pe, ms, h, _, _, _, _, _ => by simp at h
  | o :: l, e :: t, pl, pe, ms, hl, hp, hml, hms, h, hc => by
    simp only [checkM, Bool.and_eq_true] at h
    have hmono : ∀ i o', pl[i]? = some o' → (pl ++ [o])[i]? = some o' := fun i o' hi => by
      rw [List.getElem?_append_left (List.getElem?_eq_some_iff.1 hi).1]; exact hi
    have hlast : (pl ++ [o])[pl.length]? = some o := by simp
    have hmask : ∀ j, Nat.testBit (maskOf ms o) j = true → Wt (pl ++ [o]) pl.length j := fun j hj => by
      obtain ⟨m, h1, h2⟩ := maskOf_ok hj
      rcases h2 with rfl | h2
      · exact .one hlast h1
      · exact .tr hlast h1 ((hms m j h2).mono hmono)
    have hms' : ∀ m j, Nat.testBit ((ms ++ [maskOf ms o]).getD m 0) j = true → Wt (pl ++ [o]) m j := fun m j hj => by
      by_cases hm : m < ms.length
      · have : (ms ++ [maskOf ms o]).getD m 0 = ms.getD m 0 := by simp [List.getD, List.getElem?_append_left hm]
        rw [this] at hj
        exact (hms m j hj).mono hmono
      · by_cases hm2 : m = ms.length
        · subst hm2
          have : (ms ++ [maskOf ms o]).getD ms.length 0 = maskOf ms o := by simp [List.getD]
          rw [this] at hj
          rw [hml]
          exact hmask j hj
        · have : (ms ++ [maskOf ms o]).getD m 0 = 0 := by
            simp only [List.getD]
            rw [List.getElem?_eq_none (by simp; omega)]; rfl
          rw [this] at hj
          simp at hj
    obtain ⟨⟨h1, h2⟩, h3⟩ := h
    have : Checked (pl ++ [o]) (pe ++ [e]) := by
      refine ⟨fun i o' hi x hx hb => ?_, fun j i o1 o' e1 e' hji hi hj he he' => ?_⟩
      · by_cases hlt : i < pl.length
        · rw [List.getElem?_append_left hlt] at hi
          exact hc.back i o' hi x hx hb
        · rw [List.getElem?_append_right (by omega)] at hi
          have h0 : i - pl.length = 0 := by
            by_cases h0 : i - pl.length = 0
            · exact h0
            · obtain ⟨n, hn⟩ := Nat.exists_eq_succ_of_ne_zero h0
              rw [hn] at hi; simp at hi
          rw [h0] at hi
          simp at hi
          subst hi
          have := List.all_eq_true.1 h2 x hx
          simp only [hb, Bool.not_true, Bool.false_or] at this
          have := Nat.lt_of_succ_le (Nat.le_of_ble_eq_true this)
          omega
      · by_cases hlt : i < pl.length
        · rw [List.getElem?_append_left hlt] at hi
          rw [List.getElem?_append_left (by omega)] at hj he he'
          exact (hc.pair j i o1 o' e1 e' hji hi hj he he').imp (fun h => h.mono hmono) id
        · rw [List.getElem?_append_right (by omega)] at hi he
          have h0 : i - pl.length = 0 := by
            by_cases h0 : i - pl.length = 0
            · exact h0
            · obtain ⟨n, hn⟩ := Nat.exists_eq_succ_of_ne_zero h0
              rw [hn] at hi; simp at hi
          rw [← hp, h0] at he
          rw [h0] at hi
          simp at hi he
          subst hi he
          have hj' : j < pl.length := by omega
          rw [List.getElem?_append_left hj'] at hj
          rw [List.getElem?_append_left (by omega)] at he'
          have hii : i = pl.length := by omega
          subst hii
          rcases check1_ok h1 j o' e' hj he' with (h4 | h4) | h4
          · exact .inl (.one hlast (by simpa using h4))
          · exact .inr h4
          · exact .inl (hmask j (by simpa using h4))
    have := checkM_ok (l := l) (t := t) (by simpa using hl) (by simp [hp]) (by simp [hml]) hms' h3 this
    simpa using this
theorem checkD_ok {l : List Oper} {t : List (EffM × (List Nat × List Nat))} (hl : l.length = t.length) (hc : checkD [] [] l t = true) : Checked l t := by
  have := checkM_ok (pl := []) (pe := []) (ms := []) hl rfl rfl (fun m j h => by simp at h) hc ⟨fun i o h => by simp at h, fun j i o o' e e' _ h => by simp at h⟩
  simpa using this
theorem Runs.at_ {ops : Array Oper} : ∀ {l : List Oper} {tr : List (EffM × (List Nat × List Nat))} {st : ST}, Runs E ops st l tr → l.length = tr.length ∧ ∀ (i : Nat) (o : Oper) (e : EffM × (List Nat × List Nat)), l[i]? = some o → tr[i]? = some e →
    LocalM E ops o (stM (fun j => (l[j]?).bind (·.dst)) (fun j => ((tr[j]?).map (·.1)).getD ⟨.junk, []⟩) (fun _ => true) st i) e.1 e.2
  | [], [], st, _ => ⟨rfl, fun i o e h => by simp at h⟩
  | [], _ :: _, st, h => h.elim
  | _ :: _, [], st, h => h.elim
  | o :: l, (eff, fp) :: t, st, h => by
    obtain ⟨h1, h2⟩ := h
    obtain ⟨h3, h4⟩ := Runs.at_ h2
    refine ⟨by simp [h3], fun i o' e ho he => ?_⟩
    cases i with
    | zero =>
      simp at ho he
      subst ho he
      exact h1
    | succ i =>
      simp at ho he
      have := h4 i o' e ho he
      have sh : ∀ m, stM (fun j => ((o :: l)[j]?).bind (·.dst)) (fun j => ((((eff, fp) :: t)[j]?).map (·.1)).getD ⟨.junk, []⟩) (fun _ => true) st (m + 1) =
          stM (fun j => (l[j]?).bind (·.dst)) (fun j => ((t[j]?).map (·.1)).getD ⟨.junk, []⟩) (fun _ => true) (st.appM o.dst eff) m := by
        intro m
        induction m with
        | zero => simp [stM]
        | succ m ih =>
          rw [stM, ih]
          simp [stM]
      rw [sh i]
      exact this
theorem endOf_eq : ∀ {l : List Oper} {tr : List (EffM × (List Nat × List Nat))} {st : ST}, l.length = tr.length → endOf st l tr = stM (fun j => (l[j]?).bind (·.dst)) (fun j => ((tr[j]?).map (·.1)).getD ⟨.junk, []⟩) (fun _ => true) st l.length
  | [], [], st, _ => rfl
  | [], _ :: _, st, h => by simp at h
  | _ :: _, [], st, h => by simp at h
  | o :: l, (eff, fp) :: t, st, h => by
    simp only [endOf]
    rw [endOf_eq (by simpa using h)]
    have sh : ∀ m, stM (fun j => ((o :: l)[j]?).bind (·.dst)) (fun j => ((((eff, fp) :: t)[j]?).map (·.1)).getD ⟨.junk, []⟩) (fun _ => true) st (m + 1) =
        stM (fun j => (l[j]?).bind (·.dst)) (fun j => ((t[j]?).map (·.1)).getD ⟨.junk, []⟩) (fun _ => true) (st.appM o.dst eff) m := by
      intro m
      induction m with
      | zero => simp [stM]
      | succ m ih =>
        rw [stM, ih]
        simp [stM]
    rw [List.length_cons, sh]
theorem ST.ext' {s s' : ST} (h1 : ∀ r, s.fr r = s'.fr r) (h2 : ∀ r, s.ob r = s'.ob r) (h3 : s.nx = s'.nx) (h4 : s.nt = s'.nt) (h5 : s.md = s'.md) : s = s' := by
  cases s; cases s'
  simp only at h1 h2 h3 h4 h5
  have e1 := funext h1
  have e2 := funext h2
  subst e1 e2 h3 h4 h5
  rfl
/-- Whatever order comes up. -/
theorem draw_any {ops : Array Oper} {tr : List (EffM × (List Nat × List Nat))} (hr : Runs E ops st ops.toList tr) (hc : Checked ops.toList tr) {Q' : Exit → Act → World → Prop}
    (hQ : ∀ a w, Sat E (endOf st ops.toList tr) a w → Q' .normal a w) :
    ∀ (fuel : Nat) (listed : Array Bool) (a : Act) (w : World), listed.size = ops.size → (listed.toList.countP (· == false)) = fuel →
      (∀ i o, ops[i]? = some o → listed.getD i true = true → ∀ e ∈ o.after, Region.binds .any e = true → listed.getD e.on false = true) →
      Sat E (stM (fun j => (ops.toList[j]?).bind (·.dst)) (fun j => ((tr[j]?).map (·.1)).getD ⟨.junk, []⟩) (fun j => listed.getD j true) st ops.size) a w →
      wpAnyIn (FW E.rd) 0 E.P .any ops Q' fuel listed a w := by
  obtain ⟨hlen, hloc⟩ := hr.at_
  simp only [Array.length_toList] at hlen
  intro fuel
  -- no operation left: the end
  have hend : ∀ (listed : Array Bool) (a : Act) (w : World), listed.size = ops.size → (∀ i, i < ops.size → listed.getD i true = true) →
      Sat E (stM (fun j => (ops.toList[j]?).bind (·.dst)) (fun j => ((tr[j]?).map (·.1)).getD ⟨.junk, []⟩) (fun j => listed.getD j true) st ops.size) a w → Q' .normal a w := by
    intro listed a w hsz hall hs
    refine hQ a w ?_
    rw [endOf_eq (by simpa using hlen)]
    rw [Array.length_toList]
    have : stM (fun j => (ops.toList[j]?).bind (·.dst)) (fun j => ((tr[j]?).map (·.1)).getD ⟨.junk, []⟩) (fun _ => true) st ops.size = stM (fun j => (ops.toList[j]?).bind (·.dst)) (fun j => ((tr[j]?).map (·.1)).getD ⟨.junk, []⟩) (fun j => listed.getD j true) st ops.size := by
      refine ST.ext' (fun r => stM_fr r _ fun j hj _ => (hall j hj).symm) (fun r => stM_ob r _ fun j hj _ => (hall j hj).symm) ?_ ?_ ?_
      · rw [(stM_const _).1, (stM_const _).1]
      · rw [(stM_const _).2.1, (stM_const _).2.1]
      · rw [(stM_const _).2.2, (stM_const _).2.2]
    rw [this]; exact hs
  have hready0 : ∀ (listed : Array Bool), listed.size = ops.size → Region.ready .any ops listed = [] → ∀ i, i < ops.size → listed.getD i true = true := by
    intro listed hsz hre i
    induction i using Nat.strongRecOn with
    | _ i ih =>
      intro hi
      cases hb : listed.getD i true with
      | true => rfl
      | false =>
        exfalso
        have : i ∈ Region.ready .any ops listed := by
          simp only [Region.ready, List.mem_filter, List.mem_range]
          refine ⟨hi, ?_⟩
          have ho : ops[i]? = some ops[i] := Array.getElem?_eq_getElem hi
          simp only [hb, Bool.not_false, Bool.true_and, ho, Option.map_some, Option.getD_some]
          rw [← Array.all_toList, List.all_eq_true]
          intro e he
          cases hbd : Region.binds .any e with
          | false => rfl
          | true =>
            have hlt := hc.back i ops[i] (by simp) e he hbd
            have := ih e.on hlt (by omega)
            have hlt' : e.on < listed.size := by omega
            simp [hlt'] at this ⊢
            exact this
        rw [hre] at this
        cases this
  induction fuel with
  | zero =>
    intro listed a w hsz hcnt _ hs
    have hall : ∀ i, i < ops.size → listed.getD i true = true := by
      intro i hi
      have hlt : i < listed.size := by omega
      cases hb : listed.getD i true with
      | true => rfl
      | false =>
        exfalso
        have hmem : listed[i] ∈ listed.toList := by simp
        have h0 := List.countP_eq_zero.1 hcnt _ hmem
        simp [hlt] at hb
        simp [hb] at h0
    refine ⟨?_, hend listed a w hsz hall hs⟩
    cases hre : Region.ready .any ops listed with
    | nil => rfl
    | cons x xs =>
      have hx : x ∈ Region.ready .any ops listed := by rw [hre]; simp
      simp only [Region.ready, List.mem_filter, List.mem_range] at hx
      have := hall x hx.1
      simp only [this, Bool.not_true, Bool.false_and] at hx
      cases hx.2
  | succ fuel ih =>
    intro listed a w hsz hcnt hcl hs
    refine ⟨fun hre => hend listed a w hsz (hready0 listed hsz hre) hs, fun i hi => ?_⟩
    simp only [Region.ready, List.mem_filter, List.mem_range, Bool.and_eq_true, Bool.not_eq_true'] at hi
    obtain ⟨hin, hun, hdeps⟩ := hi
    have ho : ops[i]? = some ops[i] := Array.getElem?_eq_getElem hin
    have hoL : ops.toList[i]? = some ops[i] := by simp
    have hti : i < tr.length := by omega
    have he : tr[i]? = some tr[i] := List.getElem?_eq_getElem hti
    simp only [ho, Option.map_some, Option.getD_some] at hdeps
    have hdeps' : ∀ e ∈ (ops[i]).after, Region.binds .any e = true → listed.getD e.on false = true := by
      intro e hem hb
      rw [← Array.all_toList, List.all_eq_true] at hdeps
      have := hdeps e (by simpa using hem)
      simpa [hb] using this
    have hwl : ∀ (o : Oper) (j : Nat), waits o j = true → ∃ e ∈ o.after, Region.binds .any e = true ∧ e.on = j := by
      intro o j hw
      simp only [waits, List.any_eq_true, Bool.and_eq_true] at hw
      obtain ⟨e, h1, h2, h3⟩ := hw
      exact ⟨e, by simpa using h1, h2, Nat.eq_of_beq_eq_true h3⟩
    have gd : ∀ j, j < ops.size → listed.getD j false = listed.getD j true := fun j hj => by
      have hlt : j < listed.size := by omega
      simp [hlt]
    have down : ∀ {m j : Nat}, Wt ops.toList m j → listed.getD m true = true → listed.getD j true = true := by
      intro m j hw
      induction hw with
      | one ho h =>
        intro hm
        obtain ⟨e, h1, h2, h3⟩ := hwl _ _ h
        have := hcl _ _ (by simpa using ho) hm e h1 h2
        rw [h3] at this
        rename_i i' j' o'
        by_cases hj : j' < listed.size
        · simp [hj] at this ⊢; exact this
        · simp [hj] at this
      | tr ho h _ ih =>
        intro hm
        obtain ⟨e, h1, h2, h3⟩ := hwl _ _ h
        have := hcl _ _ (by simpa using ho) hm e h1 h2
        rw [h3] at this
        rename_i i' m' j' o' _
        refine ih ?_
        by_cases hj : m' < listed.size
        · simp [hj] at this ⊢; exact this
        · simp [hj] at this
    have first : ∀ {j : Nat}, Wt ops.toList i j → listed.getD j true = true := by
      intro j hw
      have st : ∀ {o : Oper} {m : Nat}, ops.toList[i]? = some o → waits o m = true → listed.getD m true = true := by
        intro o m ho h
        rw [hoL] at ho
        injection ho with ho
        subst ho
        obtain ⟨e, h1, h2, h3⟩ := hwl _ _ h
        have := hdeps' e h1 h2
        rw [h3] at this
        by_cases hj : m < listed.size
        · simp [hj] at this ⊢; exact this
        · simp [hj] at this
      cases hw with
      | one ho h => exact st ho h
      | tr ho h h' => exact down h' (st ho h)
    -- what stands ahead and is waited for is done; what waits for it is not
    have hback : ∀ j, j < i → indep (ops.toList[j]?.getD default) ops[i] ((tr[j]?).getD (⟨.junk, []⟩, [], [])) tr[i] = false → listed.getD j true = true := by
      intro j hj hnd
      have hjs : j < ops.size := by omega
      have hoj : ops.toList[j]? = some ops[j] := by simp [hjs]
      have hej : tr[j]? = some (tr[j]'(by omega)) := List.getElem?_eq_getElem (by omega)
      rw [hoj, hej] at hnd
      rcases hc.pair j i _ _ _ _ hj hoL hoj he hej with hw | hw
      · exact first hw
      · simp only [Option.getD_some] at hnd
        rw [hw] at hnd; cases hnd
    have hfore : ∀ j, i < j → j < ops.size → indep ops[i] (ops.toList[j]?.getD default) tr[i] ((tr[j]?).getD (⟨.junk, []⟩, [], [])) = false → listed.getD j true = false := by
      intro j hij hjs hnd
      have hoj : ops.toList[j]? = some ops[j] := by simp [hjs]
      have hej : tr[j]? = some (tr[j]'(by omega)) := List.getElem?_eq_getElem (by omega)
      rw [hoj, hej] at hnd
      rcases hc.pair i j _ _ _ _ hij hoj hoL hej he with hw | hw
      · cases hb : listed.getD j true with
        | false => rfl
        | true =>
          have := down hw hb
          rw [hun] at this
          cases this
      · simp only [Option.getD_some] at hnd
        rw [hw] at hnd; cases hnd
    have hdsti : ∀ j (hj : j < ops.size), (ops.toList[j]?).bind (·.dst) = ops[j].dst := fun j hj => by simp [hj]
    have heffi : ∀ j (hj : j < tr.length), ((tr[j]?).map (·.1)).getD (⟨.junk, []⟩ : EffM) = tr[j].1 := fun j hj => by simp [hj]
    have nind : ∀ {o o' : Oper} {e e' : EffM × (List Nat × List Nat)}, (hits o.dst e'.2.1 = true ∨ hits o'.dst e.2.1 = true ∨ sameD o.dst o'.dst = true ∨ hitsL (e.1.obs.map (·.1)) e'.2.2 = true ∨ hitsL (e'.1.obs.map (·.1)) e.2.2 = true ∨ hitsL (e.1.obs.map (·.1)) (e'.1.obs.map (·.1)) = true) → indep o o' e e' = false := by
      intro o o' e e' h
      unfold indep
      rcases h with h | h | h | h | h | h <;> simp [h]
    have hitsT : ∀ {r : Nat} {l : List Nat}, r ∈ l → hits (some r) l = true := fun {r l} hr => List.any_eq_true.2 ⟨r, hr, by simp⟩
    have hitsLT : ∀ {r : Nat} {l l' : List Nat}, r ∈ l → r ∈ l' → hitsL l l' = true := fun {r l l'} h1 h2 => List.any_eq_true.2 ⟨r, h1, List.any_eq_true.2 ⟨r, h2, by simp⟩⟩
    -- the state looks as in the text's order
    have hag : agree tr[i].2 (stM (fun j => (ops.toList[j]?).bind (·.dst)) (fun j => ((tr[j]?).map (·.1)).getD ⟨.junk, []⟩) (fun _ => true) st i)
        (stM (fun j => (ops.toList[j]?).bind (·.dst)) (fun j => ((tr[j]?).map (·.1)).getD ⟨.junk, []⟩) (fun j => listed.getD j true) st ops.size) := by
      refine ⟨by rw [(stM_const _).1, (stM_const _).1], by rw [(stM_const _).2.1, (stM_const _).2.1], by rw [(stM_const _).2.2, (stM_const _).2.2], fun r hrm => ?_, fun kk hkm => ?_⟩
      · rw [stM_fr_ext r i _ (by omega) ?_]
        · refine stM_fr r i fun j hj hd => ?_
          have hjs : j < ops.size := by omega
          simp only [hdsti j hjs] at hd
          have : listed.getD j true = true := hback j hj (nind (.inl (by simp [hjs, hd]; exact hitsT hrm)))
          exact this
        · intro j hij hj hL hd
          by_cases hji : j = i
          · subst hji; simp only [hun] at hL; cases hL
          · simp only [hdsti j hj] at hd
            have := hfore j (by omega) hj (nind (.inr (.inl (by simp [hj, hd]; exact hitsT hrm))))
            simp only [this] at hL; cases hL
      · rw [stM_ob_ext kk i _ (by omega) ?_]
        · refine stM_ob kk i fun j hj hd => ?_
          have hjt : j < tr.length := by omega
          simp only [heffi j hjt] at hd
          have : listed.getD j true = true := hback j hj (nind (.inr (.inr (.inr (.inl (by simp only [List.getElem?_eq_getElem hjt, Option.getD_some]; exact hitsLT hd hkm))))))
          exact this
        · intro j hij hj hL hd
          by_cases hji : j = i
          · subst hji; simp only [hun] at hL; cases hL
          · have hjt : j < tr.length := by omega
            simp only [heffi j hjt] at hd
            have := hfore j (by omega) hj (nind (.inr (.inr (.inr (.inr (.inl (by simp only [List.getElem?_eq_getElem hjt, Option.getD_some]; exact hitsLT hd hkm)))))))
            simp only [this] at hL; cases hL
    have hstep := hloc i ops[i] tr[i] hoL he _ hag a w hs Q'
    -- the state behind it
    have hset : ∀ j, (listed.setIfInBounds i true).getD j true = if j = i then true else listed.getD j true := by
      intro j
      by_cases hji : j = i
      · subst hji
        have hlt : j < listed.size := by omega
        simp [hlt]
      · rw [if_neg hji]
        simp [Array.getElem?_setIfInBounds_ne (Ne.symm hji)]
    have hnext : ∀ a' w', Sat E ((stM (fun j => (ops.toList[j]?).bind (·.dst)) (fun j => ((tr[j]?).map (·.1)).getD ⟨.junk, []⟩) (fun j => listed.getD j true) st ops.size).appM ops[i].dst tr[i].1) a' w' →
        wpAnyIn (FW E.rd) 0 E.P .any ops Q' fuel (listed.setIfInBounds i true) a' w' := by
      intro a' w' hs'
      refine ih (listed.setIfInBounds i true) a' w' (by simpa using hsz) ?_ ?_ ?_
      · have hlt : i < listed.size := by omega
        have hli : listed.toList[i]'(by simpa using hlt) = false := by
          have := hun
          simp [hlt] at this
          simpa using this
        rw [Array.toList_setIfInBounds]
        have hd1 : listed.toList = listed.toList.take i ++ false :: listed.toList.drop (i + 1) := by
          rw [← hli, List.getElem_cons_drop, List.take_append_drop]
        rw [hd1] at hcnt
        rw [List.set_eq_take_append_cons_drop, if_pos (by simpa using hlt)]
        simp only [List.countP_append, List.countP_cons] at hcnt ⊢
        simp at hcnt ⊢
        omega
      · intro j o hj hL e hem hb
        rw [hset] at hL
        have key : listed.getD e.on false = true → (listed.setIfInBounds i true).getD e.on false = true := by
          intro h
          by_cases hei : e.on = i
          · rw [hei]
            have hlt : i < listed.size := by omega
            simp [hlt]
          · simpa [Array.getElem?_setIfInBounds_ne (Ne.symm hei)] using h
        by_cases hji : j = i
        · subst hji
          rw [ho] at hj
          injection hj with hj
          subst hj
          exact key (hdeps' e hem hb)
        · rw [if_neg hji] at hL
          exact key (hcl j o hj hL e hem hb)
      · have : stM (fun j => (ops.toList[j]?).bind (·.dst)) (fun j => ((tr[j]?).map (·.1)).getD ⟨.junk, []⟩) (fun j => (listed.setIfInBounds i true).getD j true) st ops.size =
            (stM (fun j => (ops.toList[j]?).bind (·.dst)) (fun j => ((tr[j]?).map (·.1)).getD ⟨.junk, []⟩) (fun j => listed.getD j true) st ops.size).appM ops[i].dst tr[i].1 := by
          refine ST.ext' (fun r => ?_) (fun kk => ?_) ?_ ?_ ?_
          · rw [app_fr]
            by_cases hd : ops[i].dst = some r
            · rw [if_pos hd]
              rw [stM_fr_ext r (i + 1) _ (by omega) ?_]
              · simp only [stM, hset, if_true, cond_true, app_fr, hdsti i hin, hd, heffi i hti]
              · intro j hij hj hL hdj
                rw [hset, if_neg (by omega)] at hL
                simp only [hdsti j hj] at hdj
                have := hfore j (by omega) hj (nind (.inr (.inr (.inl (by simp [hj, hd, hdj, sameD])))))
                rw [this] at hL; cases hL
            · rw [if_neg hd]
              refine stM_fr r _ fun j hj hdj => ?_
              simp only [hdsti j hj] at hdj
              have hji : j ≠ i := fun e => by subst e; exact hd hdj
              rw [hset, if_neg hji]
          · by_cases hd : kk ∈ tr[i].1.obs.map (·.1)
            · rw [stM_ob_ext kk (i + 1) _ (by omega) ?_]
              · simp only [stM, hset, if_true, cond_true, heffi i hti]
                exact app_ob_in hd
              · intro j hij hj hL hdj
                rw [hset, if_neg (by omega)] at hL
                have hjt : j < tr.length := by omega
                simp only [heffi j hjt] at hdj
                have := hfore j (by omega) hj (nind (.inr (.inr (.inr (.inr (.inr (by simp only [List.getElem?_eq_getElem hjt, Option.getD_some]; exact hitsLT hd hdj)))))))
                rw [this] at hL; cases hL
            · rw [app_ob_out hd]
              refine stM_ob kk _ fun j hj hdj => ?_
              have hjt : j < tr.length := by omega
              simp only [heffi j hjt] at hdj
              have hji : j ≠ i := fun e => by subst e; exact hd hdj
              rw [hset, if_neg hji]
          · rw [(stM_const _).1]; show st.nx = (stM _ _ _ st _).nx; rw [(stM_const _).1]
          · rw [(stM_const _).2.1]; show st.nt = (stM _ _ _ st _).nt; rw [(stM_const _).2.1]
          · rw [(stM_const _).2.2]; show st.md = (stM _ _ _ st _).md; rw [(stM_const _).2.2]
        rw [this]
        exact hs'
    unfold wpOpIn
    simp only [ho]
    split
    · rename_i hw
      rw [if_pos hw] at hstep
      exact Oper.wpIn_mono hnext hstep
    · rename_i hw
      rw [if_neg hw] at hstep
      exact ⟨fun _ _ => trivial, hnext _ _ hstep⟩
end
/-- A region that draws its order: walked once, in the text's order. -/
theorem XK.draw {E : Env} {Q : Exit → ST → Prop} {k : List It} {st : ST} (hm : E.P.follows .mixedOrders = true) {id : Nat} {ops : Array Oper} {tr : List (EffM × (List Nat × List Nat))} (hr : Runs E ops st ops.toList tr) (hc : checkD [] [] ops.toList tr = true)
    (h : XK E k Q (endOf st ops.toList tr).bump) : XK E (.code (.region id ops true) :: k) Q st := by
  intro a w hs
  refine wpIn_region_any hm ?_
  have hlen := hr.at_.1
  have hck : Checked ([] ++ ops.toList) ([] ++ tr) := checkD_ok hlen hc
  simp only [List.nil_append] at hck
  have hrep : ∀ j, (Array.replicate ops.size false).getD j true = if j < ops.size then false else true := fun j => by
    by_cases hj : j < ops.size <;> simp [hj]
  refine draw_any hr hck (Q' := Post E (XQ E k Q)) (fun a' w' hs' => ⟨_, hs'.bump, h⟩) ops.size (Array.replicate ops.size false) a _ (by simp) (by simp [List.countP_replicate]) (fun i o hi hL => ?_) ?_
  · have hlt := (Array.getElem?_eq_some_iff.1 hi).1
    rw [hrep, if_pos hlt] at hL
    cases hL
  · have hz : ∀ m, m ≤ ops.size → stM (fun j => (ops.toList[j]?).bind (·.dst)) (fun j => ((tr[j]?).map (·.1)).getD ⟨.junk, []⟩) (fun j => (Array.replicate ops.size false).getD j true) st m = st := by
      intro m
      induction m with
      | zero => intro _; rfl
      | succ m ih =>
        intro hm
        simp only [stM, hrep, if_pos (show m < ops.size by omega), cond_false]
        simpa [hrep] using ih (by omega)
    rw [hz _ (Nat.le_refl _)]
    obtain ⟨ρ, hs⟩ := hs
    exact ⟨ρ, hs.drew⟩
/-- In the midst of such a region. -/
def XD (E : Env) (ops : Array Oper) (Q : Exit → ST → Prop) (k : List It) (tr0 : List (EffM × (List Nat × List Nat))) (l : List Oper) (st : ST) : Prop :=
  ∃ tr, Runs E ops st l tr ∧ checkD [] [] ops.toList (tr0 ++ tr) = true ∧ XK E k Q (endOf st l tr).bump
section
variable {E : Env} {T : TE} {Q : Exit → ST → Prop} {k : List It} {ops : Array Oper} {tr0 : List (EffM × (List Nat × List Nat))}
theorem XK.drawn {st : ST} (hm : E.P.follows .mixedOrders = true) {id : Nat} (h : XD E ops Q k [] ops.toList st) : XK E (.code (.region id ops true) :: k) Q st :=
  let ⟨_, h1, h2, h3⟩ := h
  XK.draw hm h1 h2 h3
theorem XD.nil {st : ST} (hc : checkD [] [] ops.toList tr0 = true) (h : XK E k Q st.bump) : XD E ops Q k tr0 [] st := ⟨[], trivial, by simpa using hc, h⟩
theorem XD.stepM {st : ST} {o : Oper} {rest : List Oper} {eff : EffM} {fp : List Nat × List Nat} (hl : LocalM E ops o st eff fp) (h : XD E ops Q k (tr0 ++ [(eff, fp)]) rest (st.appM o.dst eff)) : XD E ops Q k tr0 (o :: rest) st := by
  obtain ⟨tr, h1, h2, h3⟩ := h
  exact ⟨(eff, fp) :: tr, ⟨hl, h1⟩, by simpa using h2, h3⟩
theorem XD.step {st : ST} {o : Oper} {rest : List Oper} {eff : Eff} {fp : List Nat × List Nat} (hl : Local E ops o st eff fp) (h : XD E ops Q k (tr0 ++ [(eff.toM, fp)]) rest (st.app o.dst eff)) : XD E ops Q k tr0 (o :: rest) st :=
  XD.stepM hl.toM (by rw [appM_toM]; exact h)
theorem XD.call {st : ST} {o : Oper} {rest : List Oper} {f : Nat} {args args' : List AV} {res : AV} (hc : callF st o.op = some (f, args)) (hg : o.guard = none) (hd : dstOk st o = true) (ho : AllP (o.op.operands.toList.flatMap (fun x => oblG none (st.ev x))))
    (hP : Does E.P f args' res) (hok : CallOk st args args' res) (h : XD E ops Q k (tr0 ++ [(⟨res, []⟩, fpF ops.toList st o)]) rest (st.app o.dst ⟨res, none⟩)) : XD E ops Q k tr0 (o :: rest) st := XD.step (Local.call hc hg hd ho hP hok) h
theorem XD.callG {st : ST} {o : Oper} {rest : List Oper} {j f : Nat} {pol g : Bool} {args args' : List AV} {res : AV} (hc : callF st o.op = some (f, args)) (hg : o.guard = some (j, pol)) (hgv : gval st ops.toList j pol = some g) (hd : dstOk st o = true)
    (hda : ops.toList.all (dstOk st) = true) (ho : AllP (o.op.operands.toList.flatMap (fun x => oblG (some g) (st.ev x)))) (hP : g = true → Does E.P f args' res) (hfl : res.flat = true) (hfr : args = args') (hks : AV.ksL (fun _ => false) args = true)
    (h : XD E ops Q k (tr0 ++ [(⟨.gd g res, []⟩, fpF ops.toList st o)]) rest (st.app o.dst ⟨.gd g res, none⟩)) : XD E ops Q k tr0 (o :: rest) st := XD.step (Local.callG hc hg hgv hd hda ho hP hfl hfr hks) h
structure RunD where
  obl : List Prop
  tr : List (EffM × (List Nat × List Nat))
  fr : Nat → AV
  ob : Nat → Option Ob
  rest : List Oper
def runD (T : TE) (l : List Oper) (nx nt : Nat) (md : Nat → Bool) : List Prop → List (EffM × (List Nat × List Nat)) → (Nat → AV) → (Nat → Option Ob) → List Oper → RunD
  | acc, tr, fr, ob, [] => ⟨acc, tr, fr, ob, []⟩
  | acc, tr, fr, ob, o :: rest => match stepN T l fr ob nx nt md o with
    | some (obl, ⟨av, eo⟩) => match frc av, eo, o.dst with
      | some x, none, some d => (match obl with
        | [] => runD T l nx nt md acc (tr ++ [(⟨x, []⟩, fpF l ⟨fr, ob, nx, nt, md⟩ o)]) (upd fr d x) ob rest
        | p :: ps => runD T l nx nt md (pushR (p :: ps) acc) (tr ++ [(⟨x, []⟩, fpF l ⟨fr, ob, nx, nt, md⟩ o)]) (upd fr d x) ob rest)
      | some x, some (k, o'), some d => (match frcKO k o' with
        | some (k, o2) => (match obl with
          | [] => runD T l nx nt md acc (tr ++ [(⟨x, [(k, o2)]⟩, fpF l ⟨fr, ob, nx, nt, md⟩ o)]) (upd fr d x) (upd ob k (some o2)) rest
          | p :: ps => runD T l nx nt md (pushR (p :: ps) acc) (tr ++ [(⟨x, [(k, o2)]⟩, fpF l ⟨fr, ob, nx, nt, md⟩ o)]) (upd fr d x) (upd ob k (some o2)) rest)
        | none => ⟨acc, tr, fr, ob, o :: rest⟩)
      | some x, some (k, o'), none => (match frcKO k o' with
        | some (k, o2) => (match obl with
          | [] => runD T l nx nt md acc (tr ++ [(⟨x, [(k, o2)]⟩, fpF l ⟨fr, ob, nx, nt, md⟩ o)]) fr (upd ob k (some o2)) rest
          | p :: ps => runD T l nx nt md (pushR (p :: ps) acc) (tr ++ [(⟨x, [(k, o2)]⟩, fpF l ⟨fr, ob, nx, nt, md⟩ o)]) fr (upd ob k (some o2)) rest)
        | none => ⟨acc, tr, fr, ob, o :: rest⟩)
      | _, _, _ => ⟨acc, tr, fr, ob, o :: rest⟩
    | none => ⟨acc, tr, fr, ob, o :: rest⟩
theorem XD.run (hT : TOk E.P T) {nx nt : Nat} {md : Nat → Bool} (hd : ops.toList.all (dstOk ⟨fun _ => .junk, fun _ => none, nx, nt, md⟩) = true) : ∀ {l : List Oper} {acc : List Prop} {tr0 tr' : List (EffM × (List Nat × List Nat))} {fr fr' : Nat → AV} {ob ob' : Nat → Option Ob} {obl : List Prop} {rest : List Oper}, (∀ o ∈ l, o ∈ ops.toList) → runD T ops.toList nx nt md acc tr0 fr ob l = ⟨obl, tr', fr', ob', rest⟩ → (∀ p ∈ obl, p) →
    XD E ops Q k tr' rest ⟨fr', ob', nx, nt, md⟩ → XD E ops Q k tr0 l ⟨fr, ob, nx, nt, md⟩ ∧ ∀ p ∈ acc, p
  | [], acc, tr0, tr', fr, fr', ob, ob', obl, rest, _, hr, ho, h => by
    simp only [runD, RunD.mk.injEq] at hr
    obtain ⟨rfl, rfl, rfl, rfl, rfl⟩ := hr
    exact ⟨h, ho⟩
  | o :: l, acc, tr0, tr', fr, fr', ob, ob', obl, rest, hmem, hr, ho, h => by
    have stop : (⟨acc, tr0, fr, ob, o :: l⟩ : RunD) = ⟨obl, tr', fr', ob', rest⟩ → XD E ops Q k tr0 (o :: l) ⟨fr, ob, nx, nt, md⟩ ∧ ∀ p ∈ acc, p := by
      intro hr
      simp only [RunD.mk.injEq] at hr
      obtain ⟨rfl, rfl, rfl, rfl, rfl⟩ := hr
      exact ⟨h, ho⟩
    have go : ∀ {ob1 : List Prop} {eff : Eff} {fr1 : Nat → AV} {obj1 : Nat → Option Ob}, stepF T ops.toList ⟨fr, ob, nx, nt, md⟩ o = some (ob1, eff) → (ST.app ⟨fr, ob, nx, nt, md⟩ o.dst eff) = ⟨fr1, obj1, nx, nt, md⟩ →
        (match ob1 with
          | [] => runD T ops.toList nx nt md acc (tr0 ++ [(eff.toM, fpF ops.toList ⟨fr, ob, nx, nt, md⟩ o)]) fr1 obj1 l
          | p :: ps => runD T ops.toList nx nt md (pushR (p :: ps) acc) (tr0 ++ [(eff.toM, fpF ops.toList ⟨fr, ob, nx, nt, md⟩ o)]) fr1 obj1 l) = ⟨obl, tr', fr', ob', rest⟩ → XD E ops Q k tr0 (o :: l) ⟨fr, ob, nx, nt, md⟩ ∧ ∀ p ∈ acc, p := by
      intro ob1 eff fr1 obj1 hs he hr
      have fin : XD E ops Q k (tr0 ++ [(eff.toM, fpF ops.toList ⟨fr, ob, nx, nt, md⟩ o)]) l ⟨fr1, obj1, nx, nt, md⟩ → (∀ p ∈ ob1, p) → XD E ops Q k tr0 (o :: l) ⟨fr, ob, nx, nt, md⟩ := fun hx hp =>
        XD.step (Local.step hT hs hp hd (hmem o (by simp))) (he ▸ hx)
      cases ob1 with
      | nil =>
        obtain ⟨h1, h2⟩ := XD.run hT hd (fun o' ho' => hmem o' (by simp [ho'])) hr ho h
        exact ⟨fin h1 (fun p hp => by cases hp), h2⟩
      | cons q qs =>
        obtain ⟨h1, h2⟩ := XD.run hT hd (fun o' ho' => hmem o' (by simp [ho'])) hr ho h
        exact ⟨fin h1 (fun p hp => h2 p (mem_pushR.2 (.inl hp))), fun p hp => h2 p (mem_pushR.2 (.inr hp))⟩
    simp only [runD, stepN_eq] at hr
    split at hr
    · rename_i ob1 av eo hs
      split at hr
      · rename_i x d hx hd1
        have := frc_eq hx
        subst this
        exact go hs (by rw [hd1]; rfl) hr
      · rename_i x k o' d hx hd1
        have := frc_eq hx
        subst this
        split at hr
        · rename_i k2 o2 ho2
          obtain ⟨h1, h2⟩ := frcKO_eq ho2
          subst h1 h2
          exact go hs (by rw [hd1]; rfl) hr
        · exact stop hr
      · rename_i x k o' hx hd1
        have := frc_eq hx
        subst this
        split at hr
        · rename_i k2 o2 ho2
          obtain ⟨h1, h2⟩ := frcKO_eq ho2
          subst h1 h2
          exact go hs (by rw [hd1]; rfl) hr
        · exact stop hr
      · exact stop hr
    · exact stop hr
/-- What a region that draws computes, taken in the text's order. -/
theorem runD_runF {nx nt : Nat} {md : Nat → Bool} {l : List Oper} : ∀ (rest : List Oper) (acc : List Prop) (tr : List (EffM × (List Nat × List Nat))) (fr : Nat → AV) (ob : Nat → Option Ob),
    runD T l nx nt md acc tr fr ob rest = ⟨(runF T l nx nt md acc fr ob rest).obl, (runD T l nx nt md acc tr fr ob rest).tr, (runF T l nx nt md acc fr ob rest).fr, (runF T l nx nt md acc fr ob rest).ob, (runF T l nx nt md acc fr ob rest).rest⟩
  | [], acc, tr, fr, ob => rfl
  | o :: rest, acc, tr, fr, ob => by
    simp only [runD, runF]
    cases hs : stepN T l fr ob nx nt md o with
    | none => rfl
    | some r =>
      obtain ⟨obl, av, eo⟩ := r
      simp only
      cases hf : frc av with
      | none => rfl
      | some x =>
        cases eo with
        | none =>
          cases hd : o.dst with
          | none => rfl
          | some d => cases obl <;> exact runD_runF rest _ _ _ _
        | some ko =>
          obtain ⟨k, o'⟩ := ko
          cases hd : o.dst with
          | none =>
            simp only
            cases hk : frcKO k o' with
            | none => rfl
            | some k2 => cases obl <;> exact runD_runF rest _ _ _ _
          | some d =>
            simp only
            cases hk : frcKO k o' with
            | none => rfl
            | some k2 => cases obl <;> exact runD_runF rest _ _ _ _
/-- A region that draws its order, without calls. -/
theorem XK.rgnD (hT : TOk E.P T) (hm : E.P.follows .mixedOrders = true) {id : Nat} {fr fr' : Nat → AV} {ob ob' : Nat → Option Ob} {nx nt : Nat} {md : Nat → Bool} {obl obl' : List Prop} (hd : ops.toList.all (dstOk ⟨fun _ => .junk, fun _ => none, nx, nt, md⟩) = true)
    (hr : runF T ops.toList nx nt md [] fr ob ops.toList = ⟨obl, fr', ob', []⟩) (hf : frcR obl [] = some obl') (hc : checkD [] [] ops.toList (runD T ops.toList nx nt md [] [] fr ob ops.toList).tr = true) (ho : AllP obl') (h : XK E k Q ⟨fr', ob', nx + nt, nt, md⟩) :
    XK E (.code (.region id ops true) :: k) Q ⟨fr, ob, nx, nt, md⟩ :=
  XK.drawn hm (XD.run hT hd (fun _ h => h) ((runD_runF _ _ _ _ _).trans (by rw [hr])) (AllP.memR hf ho) (XD.nil hc h)).1
theorem XD.go (hT : TOk E.P T) {l rest : List Oper} {fr fr' : Nat → AV} {ob ob' : Nat → Option Ob} {nx nt : Nat} {md : Nat → Bool} {obl obl' : List Prop} (hd : ops.toList.all (dstOk ⟨fun _ => .junk, fun _ => none, nx, nt, md⟩) = true)
    (hm : ops.toList.drop (ops.toList.length - l.length) = l) (hr : runF T ops.toList nx nt md [] fr ob l = ⟨obl, fr', ob', rest⟩) (hf : frcR obl [] = some obl') (ho : AllP obl') (h : XD E ops Q k (runD T ops.toList nx nt md [] tr0 fr ob l).tr rest ⟨fr', ob', nx, nt, md⟩) : XD E ops Q k tr0 l ⟨fr, ob, nx, nt, md⟩ :=
  (XD.run hT hd (fun _ h => List.mem_of_mem_drop (hm ▸ h)) ((runD_runF _ _ _ _ _).trans (by rw [hr])) (AllP.memR hf ho) h).1
end
end Go.Eng
end
section
/- The engine, part Q: '==' on structs, cell by cell. -/
namespace Go.Eng
def eqFsF (g : TypeId → Option (List TK)) : List Field → Nat → Option (List TK)
  | [], _ => some []
  | f :: fs, off => if f.name ≠ "_" ∧ f.offset = off then
      match g f.type with
      | some ks => match eqFsF g fs (off + ks.length) with
        | some ks' => some (ks ++ ks')
        | none => none
      | none => none
    else none
/-- The cells' kinds of a type for which '==' goes cell by cell. -/
def eqTF (P : Program) (T : TE) : Nat → TypeId → Option (List TK)
  | 0, _ => none
  | n + 1, t => match T.find t with
    | some ti => match ti.kind with
      | .int k => some [.int k]
      | .bool => some [.bool]
      | .string => some [.string]
      | .struct _ _ => if P.stoodInHeld t = false then match eqFsF (eqTF P T n) (P.fieldsOf t).toList 0 with
          | some ks => if ti.size = ks.length then some ks else none
          | none => none
        else none
      | _ => none
    | none => none
theorem cellsEq_cons {k : TK} {ks : List TK} {xs ys : List Value} {b : Bool} (h : cellsEq (k :: ks) xs ys = some b) : ∃ x xs' y ys' a b', xs = x :: xs' ∧ ys = y :: ys' ∧ cellEq k x y = some a ∧ cellsEq ks xs' ys' = some b' ∧ b = (a && b') := by
  match ks, xs, ys with
  | [], [x], [y] => exact ⟨x, [], y, [], b, true, rfl, rfl, h, rfl, by simp⟩
  | [], x :: x2 :: xs, y :: ys =>
    simp only [cellsEq] at h
    split at h
    · rename_i h1 h2
      simp at h2
    · cases h
  | [], [x], y :: y2 :: ys =>
    simp only [cellsEq] at h
    split at h
    · rename_i h1 h2
      simp at h2
    · cases h
  | k2 :: ks, x :: xs, y :: ys =>
    simp only [cellsEq] at h
    split at h
    · rename_i h1 h2
      injection h with h
      exact ⟨x, xs, y, ys, _, _, rfl, rfl, h1, h2, h.symm⟩
    · cases h
  | ks, [], ys => cases ks <;> simp [cellsEq] at h
  | ks, x :: xs, [] => cases ks <;> cases xs <;> simp [cellsEq] at h
theorem cellsEq_app : ∀ {ks ks' : List TK} {xs ys : List Value} {b : Bool}, cellsEq (ks ++ ks') xs ys = some b →
    ∃ x1 x2 y1 y2 b1 b2, xs = x1 ++ x2 ∧ ys = y1 ++ y2 ∧ x1.length = ks.length ∧ y1.length = ks.length ∧ cellsEq ks x1 y1 = some b1 ∧ cellsEq ks' x2 y2 = some b2 ∧ b = (b1 && b2)
  | [], ks', xs, ys, b, h => ⟨[], xs, [], ys, true, b, rfl, rfl, rfl, rfl, rfl, h, by simp⟩
  | k :: ks, ks', xs, ys, b, h => by
    obtain ⟨x, xs', y, ys', a, b', rfl, rfl, h1, h2, rfl⟩ := cellsEq_cons h
    obtain ⟨x1, x2, y1, y2, b1, b2, rfl, rfl, l1, l2, h3, h4, rfl⟩ := cellsEq_app h2
    refine ⟨x :: x1, x2, y :: y1, y2, a && b1, b2, rfl, rfl, by simp [l1], by simp [l2], ?_, h4, by simp [Bool.and_assoc]⟩
    cases ks with
    | nil =>
      match x1, y1, l1, l2 with
      | [], [], _, _ =>
        simp [cellsEq] at h3
        subst h3
        simp [cellsEq, h1]
    | cons k2 ks =>
      simp only [cellsEq, h1, h3]
theorem eqTF_ok {P : Program} {T : TE} (hT : TOk P T) : ∀ (n : Nat) (t : TypeId) (ks : List TK), eqTF P T n t = some ks →
    (∃ k ti, T.find t = some ti ∧ ti.kind.agg = false ∧ ks = [k] ∧ ∀ d x y b w, n ≤ d → cellEq k x y = some b → (Op.equalIn d t x y).run P w = .ok b w) ∨
    (∃ ti, T.find t = some ti ∧ ti.kind.agg = true ∧ ti.size = ks.length ∧ ∀ d xs ys b w, n ≤ d → cellsEq ks xs ys = some b → (Op.equalIn d t (.agg xs.toArray) (.agg ys.toArray)).run P w = .ok b w)
  | 0, _, _, h => by cases h
  | n + 1, t, ks, h => by
    simp only [eqTF] at h
    split at h
    case h_2 => cases h
    rename_i ti ht
    have hk := (hT t ti ht).kind
    split at h
    · rename_i k hkd
      injection h with h
      subst h
      rw [hkd] at hk
      refine .inl ⟨_, ti, ht, by rw [hkd]; rfl, rfl, fun d x y b w hd hc => ?_⟩
      obtain ⟨d, rfl⟩ : ∃ d', d = d' + 1 := ⟨d - 1, by omega⟩
      cases x <;> cases y <;> simp only [cellEq] at hc <;> try (cases hc; done)
      split at hc
      · rename_i he
        obtain ⟨rfl, rfl⟩ := he
        injection hc with hc
        subst hc
        exact run_equalIn_int w d t _ _ _ _ hk
      · cases hc
    · rename_i hkd
      injection h with h
      subst h
      rw [hkd] at hk
      refine .inl ⟨_, ti, ht, by rw [hkd]; rfl, rfl, fun d x y b w hd hc => ?_⟩
      obtain ⟨d, rfl⟩ : ∃ d', d = d' + 1 := ⟨d - 1, by omega⟩
      cases x <;> cases y <;> simp only [cellEq] at hc <;> try (cases hc; done)
      injection hc with hc
      subst hc
      exact run_equalIn_bool' w d t _ _ hk
    · rename_i hkd
      injection h with h
      subst h
      rw [hkd] at hk
      refine .inl ⟨_, ti, ht, by rw [hkd]; rfl, rfl, fun d x y b w hd hc => ?_⟩
      obtain ⟨d, rfl⟩ : ∃ d', d = d' + 1 := ⟨d - 1, by omega⟩
      cases x <;> cases y <;> simp only [cellEq] at hc <;> try (cases hc; done)
      injection hc with hc
      subst hc
      rw [beq_toListBytes]
      exact run_equalIn_string w d t _ _ hk
    · rename_i pl ty hkd
      split at h
      case isFalse => cases h
      rename_i hst
      split at h
      case h_2 => cases h
      rename_i ks0 hfs
      split at h
      case isFalse => cases h
      rename_i hsz
      injection h with h
      subst h
      rw [hkd] at hk
      obtain ⟨fs, hu, _, _⟩ := hk
      have hu' : P.underlying t = some (.struct (P.fieldsOf t)) := by simp [Program.fieldsOf, hu]
      refine .inr ⟨ti, ht, by rw [hkd]; rfl, hsz, fun d xs ys b w hd hc => ?_⟩
      obtain ⟨d, rfl⟩ : ∃ d', d = d' + 1 := ⟨d - 1, by omega⟩
      rw [run_equalIn_struct w d t _ _ hu' hst]
      have key : ∀ (l : List Field) (off : Nat) (ks : List TK) (xp xs yp ys : List Value) (b : Bool), eqFsF (eqTF P T n) l off = some ks → xp.length = off → yp.length = off → cellsEq ks xs ys = some b →
          (Op.eqFields d (xp ++ xs).toArray (yp ++ ys).toArray l).run P w = .ok b w := by
        intro l
        induction l with
        | nil =>
          intro off ks xp xs yp ys b hf hx hy hc
          simp only [eqFsF, Option.some.injEq] at hf
          subst hf
          match xs, ys with
          | [], [] =>
            simp [cellsEq] at hc
            subst hc
            simp [Op.eqFields]
          | _ :: _, _ => simp [cellsEq] at hc
          | [], _ :: _ => simp [cellsEq] at hc
        | cons f l ih =>
          intro off ks xp xs yp ys b hf hx hy hc
          simp only [eqFsF] at hf
          split at hf
          case isFalse => cases hf
          rename_i hno
          split at hf
          case h_2 => cases hf
          rename_i k1 hk1
          split at hf
          case h_2 => cases hf
          rename_i k2 hk2
          injection hf with hf
          subst hf
          obtain ⟨x1, x2, y1, y2, b1, b2, rfl, rfl, l1, l2, h3, h4, rfl⟩ := cellsEq_app hc
          have hrest : (Op.eqFields d (xp ++ (x1 ++ x2)).toArray (yp ++ (y1 ++ y2)).toArray l).run P w = .ok b2 w := by
            rw [← List.append_assoc, ← List.append_assoc]
            exact ih (off + k1.length) k2 (xp ++ x1) x2 (yp ++ y1) y2 b2 hk2 (by simp [hx, l1]) (by simp [hy, l2]) h4
          have hfst : ∃ p q, (part f.type (xp ++ (x1 ++ x2)).toArray f.offset).run P w = .ok p w ∧ (part f.type (yp ++ (y1 ++ y2)).toArray f.offset).run P w = .ok q w ∧ (Op.equalIn d f.type p q).run P w = .ok b1 w := by
            rcases eqTF_ok hT n f.type k1 hk1 with ⟨k, tj, hj, ha, rfl, he⟩ | ⟨tj, hj, ha, hs, he⟩
            · match x1, y1, l1, l2 with
              | [x], [y], _, _ =>
                refine ⟨x, y, ?_, ?_, he d x y b1 w (by omega) (by simpa [cellsEq] using h3)⟩
                · simp [part, (hT _ _ hj).run_isAgg w, ha, hno.2, ← hx]
                · simp [part, (hT _ _ hj).run_isAgg w, ha, hno.2, ← hy]
            · refine ⟨.agg x1.toArray, .agg y1.toArray, ?_, ?_, he d x1 y1 b1 w (by omega) h3⟩
              · simp only [part, Sem.run_bind, (hT _ _ hj).run_isAgg w, ha, (hT _ _ hj).run_sizeOf w, Result.andThen_ok, if_true, Sem.run_pure, hno.2, hs]
                congr 2
                apply Array.toList_inj.1
                simp [← hx, ← l1]
              · simp only [part, Sem.run_bind, (hT _ _ hj).run_isAgg w, ha, (hT _ _ hj).run_sizeOf w, Result.andThen_ok, if_true, Sem.run_pure, hno.2, hs]
                congr 2
                apply Array.toList_inj.1
                simp [← hy, ← l2]
          obtain ⟨p, q, hp, hq, hr⟩ := hfst
          simp only [Op.eqFields, hno.1, ne_eq, not_false_eq_true, if_true, Sem.run_bind, hp, hq, hr, Result.andThen_ok, Sem.run_ite]
          cases b1 with
          | false => simp
          | true => simpa using hrest
      simpa using key _ 0 ks0 [] xs [] ys b hfs rfl rfl hc
    · cases h
theorem LeafOk.of {P : Program} {T : TE} {t : Nat} {ks : List TK} {n : Nat} (hT : TOk P T) (hs : (T.find t).map (fun ti => ti.kind.agg) = some true) (hn : n ≤ 10000) (h : eqTF P T n t = some ks) (hg : P.eqGuardType P.depth t = false) : LeafOk P t ks := by
  refine ⟨hg, fun xs ys b w hc => ?_⟩
  rcases eqTF_ok hT n t ks h with ⟨k, ti, hi, ha, _⟩ | ⟨ti, _, _, _, he⟩
  · simp [hi, ha] at hs
  · exact he _ _ _ _ _ hn hc
end Go.Eng
end
section
/- The engine, part R: names turned, rows frozen, nil slices taken as rows; facts of a state; contracts of functions that write what they are lent. -/
namespace Go.Eng
mutual
/-- A value with each name of an object turned. -/
def AV.map (g : AV → AV) : AV → AV
  | .agg l => .agg (AV.mapL g l)
  | .tup l => .tup (AV.mapL g l)
  | .ptr k off => g (.ptr k off)
  | .mp k => g (.mp k)
  | .vptr k s sz i off => g (.vptr k s sz i off)
  | .vec k s => g (.vec k s)
  | .fn f l l' => .fn f (AV.mapL g l) (AV.mapL g l')
  | .gd b a => .gd b (AV.map g a)
  | .junk => .junk
  | .c v => .c v
  | .rptr l => .rptr l
  | .rs sz n f => .rs sz n f
def AV.mapL (g : AV → AV) : List AV → List AV
  | [] => []
  | a :: l => AV.map g a :: AV.mapL g l
end
def AV.isName : AV → Bool
  | .ptr _ _ => true
  | .mp _ => true
  | .vptr _ _ _ _ _ => true
  | .vec _ _ => true
  | _ => false
theorem AV.mapL_length {g : AV → AV} : ∀ {l : List AV}, (AV.mapL g l).length = l.length
  | [] => rfl
  | a :: l => by simp [AV.mapL, AV.mapL_length (l := l)]
theorem AV.mapL_get {g : AV → AV} : ∀ {l : List AV} {i : Nat} {x : AV}, (AV.mapL g l)[i]? = some x → ∃ y, l[i]? = some y ∧ x = y.map g
  | [], i, x, h => by simp [AV.mapL] at h
  | a :: l, 0, x, h => by simp [AV.mapL] at h; exact ⟨a, rfl, h.symm⟩
  | a :: l, i + 1, x, h => by simp [AV.mapL] at h; simpa using AV.mapL_get h
theorem R.map {w w' : World} {G G' : Nat → Prop} (hG : ∀ b, G b → G' b ∧ w'.heap[b]? = w.heap[b]?) {ρ : Rho} {a : AV} {v : Value} (h : R w G ρ a v) :
    ∀ {ρ' : Rho} {g : AV → AV}, (∀ x v, x.isName = true → R w G ρ x v → R w' G' ρ' (g x) v) → R w' G' ρ' (a.map g) v := by
  induction h with
  | junk => exact fun _ => .junk
  | c => exact fun _ => .c
  | agg hs _ ih =>
    intro ρ' g hg
    refine .agg (by rw [AV.mapL_length]; exact hs) fun i a h => ?_
    obtain ⟨y, hy, rfl⟩ := AV.mapL_get h
    exact ih i y hy hg
  | tup hs _ ih =>
    intro ρ' g hg
    refine .tup (by rw [AV.mapL_length]; exact hs) fun i a h => ?_
    obtain ⟨y, hy, rfl⟩ := AV.mapL_get h
    exact ih i y hy hg
  | ptr hk => exact fun hg => hg _ _ rfl (.ptr hk)
  | mp hk => exact fun hg => hg _ _ rfl (.mp hk)
  | vptr hk hi => exact fun hg => hg _ _ rfl (.vptr hk hi)
  | vptrOld hk hs => exact fun hg => hg _ _ rfl (.vptrOld hk hs)
  | vec hk => exact fun hg => hg _ _ rfl (.vec hk)
  | vecOld hk hs => exact fun hg => hg _ _ rfl (.vecOld hk hs)
  | rptr val hg hc h _ => exact fun _ => (R.rptr (ρ := Rho.none) val hg hc h).tr hG _ (Le.none _)
  | rs val hn hm hc hl h _ => exact fun _ => (R.rs (ρ := Rho.none) val hn hm hc hl h).tr hG _ (Le.none _)
  | fn hs _ hs' _ ih ih' =>
    intro ρ' g hg
    refine .fn (by rw [AV.mapL_length]; exact hs) (fun i a h => ?_) (by rw [AV.mapL_length]; exact hs') (fun i a h => ?_)
    · obtain ⟨y, hy, rfl⟩ := AV.mapL_get h
      exact ih i y hy hg
    · obtain ⟨y, hy, rfl⟩ := AV.mapL_get h
      exact ih' i y hy hg
  | gd _ hf ih => exact fun hg => .gd (fun h => ih h hg) hf
def Ob.map (g : AV → AV) : Ob → Ob
  | .cells t cs => .cells t (AV.mapL g cs)
  | .vec e sz s n f => .vec e sz s n f
  | .mapo kk zv d f => .mapo kk zv d (fun z => (f z).map g)
  | .mapb kk zv d f => .mapb kk zv d f
  | .lrec mk b cs => .lrec mk b (AV.mapL g cs)
theorem ObOk.map {w : World} {G G' : Nat → Prop} (hG : ∀ b, G b → G' b) {ρ ρ' : Rho} {g : AV → AV} (hg : ∀ x v, x.isName = true → R w G ρ x v → R w G' ρ' (g x) v) {k k' : Nat} {o : Ob} (h : ObOk w G ρ k o) (hk : ρ' k' = ρ k) : ObOk w G' ρ' k' (o.map g) := by
  cases o with
  | cells t cs =>
    obtain ⟨b, arr, hk', hh, hs, hr⟩ := h
    refine ⟨b, arr, hk.trans hk', hh, by rw [AV.mapL_length]; exact hs, fun i x hx => ?_⟩
    obtain ⟨y, hy, rfl⟩ := AV.mapL_get hx
    exact (hr i y hy).map (fun b hb => ⟨hG b hb, rfl⟩) hg
  | vec e sz s n f =>
    obtain ⟨hv, xs, hk', hown, hf, hr⟩ := h
    exact ⟨hv, xs, hk.trans hk', hown, hf, fun i j x hi hx => (hr i j x hi hx).tr (fun b hb => ⟨hG b hb, rfl⟩) _ (Le.refl _)⟩
  | mapo kk zv d f =>
    obtain ⟨b, es, clock, hk', hh, hs, hr⟩ := h
    exact ⟨b, es, clock, hk.trans hk', hh, hs, fun z hz => by
      obtain ⟨r, h1, h2, h3⟩ := hr z hz
      exact ⟨r, h1, h2, h3.map (fun b hb => ⟨hG b hb, rfl⟩) hg⟩⟩
  | mapb kk zv d f =>
    obtain ⟨b, es, clock, hk', hh, hs, hr⟩ := h
    exact ⟨b, es, clock, hk.trans hk', hh, hs, fun z hz => by
      obtain ⟨r, h1, h2, h3⟩ := hr z hz
      exact ⟨r, h1, h2, h3.tr (fun b hb => ⟨hG b hb, rfl⟩) _ (Le.refl _)⟩⟩
  | lrec mk b cs =>
    obtain ⟨arr, hk', hh, hs, hr⟩ := h
    refine ⟨arr, hk.trans hk', hh, by rw [AV.mapL_length]; exact hs, fun i x hx => ?_⟩
    obtain ⟨y, hy, rfl⟩ := AV.mapL_get hx
    exact (hr i y hy).map (fun b hb => ⟨hG b hb, rfl⟩) hg
section
variable {E : Env} {st : ST} {a : Act} {w : World} {ρ : Rho} {Q : Exit → ST → Prop} {k : List It}
/-- The objects under other names, in the same world. -/
theorem SatR.conv (h : SatR E st a w ρ) {st' : ST} {ρ' : Rho} {g : AV → AV} (hnt : st'.nt = st.nt) (hfr : ∀ k, st'.fr k = (st.fr k).map g)
    (leaf : ∀ x v, x.isName = true → R w (E.good w ρ) ρ x v → R w (E.good w ρ') ρ' (g x) v) (hob : ∀ k o, st'.ob k = some o → ObOk w (E.good w ρ') ρ' k o) (hno : ∀ k, st'.ob k = none → ρ' k = none)
    (hsub : ∀ k x b, ρ' k = some x → x.block = some b → ∃ y, ρ k = some y ∧ y.block = some b)
    (hle : ∀ k, k < E.N → ∀ x, E.r0 k = some x → ρ' k = some x ∨ ∃ s v s' v', x = .hdr s v ∧ ρ' k = some (.hdr s' v') ∧ s < s') : SatR E st' a w ρ' := by
  have hG : ∀ b, E.good w ρ b → E.good w ρ' b ∧ w.heap[b]? = w.heap[b]? := fun b ⟨h0, hlt, hno⟩ => ⟨⟨h0, hlt, fun j y hj hy => by
    obtain ⟨z, hz, hzb⟩ := hsub j y b hj hy
    exact hno j z hz hzb⟩, rfl⟩
  refine ⟨h.keep, hnt ▸ h.tsz, h.dfr.tr hG, fun k => ?_, hob, hno, fun j j' y y' b hj hj' hy hy' => ?_, fun j y b hj hy => ?_, hle⟩
  · rw [hfr k]; exact (h.fr k).map hG leaf
  · obtain ⟨z, hz, hzb⟩ := hsub j y b hj hy
    obtain ⟨z', hz', hzb'⟩ := hsub j' y' b hj' hy'
    exact h.dis j j' z z' b hz hz' hzb hzb'
  · obtain ⟨z, hz, hzb⟩ := hsub j y b hj hy
    exact h.own j z b hz hzb
/-- Row k from stamp s to stamp t. -/
def stampG (k s t : Nat) : AV → AV
  | .vec j s' => bif Nat.beq j k then (bif Nat.beq s' s then .vec j t else .junk) else .vec j s'
  | .vptr j s' sz i off => bif Nat.beq j k then (bif Nat.beq s' s then .vptr j t sz i off else .junk) else .vptr j s' sz i off
  | x => x
def ST.stamp (st : ST) (k s t : Nat) (o : Ob) : ST := { st with fr := fun j => (st.fr j).map (stampG k s t), ob := upd (fun j => (st.ob j).map (Ob.map (stampG k s t))) k (some o) }
theorem Weak.stamp {k e sz s t n m : Nat} {f : Nat → List AV} (hN : E.N = m) (hk : st.ob k = some (.vec e sz s n f)) (hs : (Nat.ble m k || Nat.ble s t) = true) : Weak E st (st.stamp k s t (.vec e sz t n f)) := by
  intro a w ⟨ρ, h⟩
  obtain ⟨hv, xs, hg, hown, hf, hr⟩ := h.ob k _ hk
  have hsub : ∀ j x b, upd ρ k (some (.hdr t hv)) j = some x → x.block = some b → ∃ y, ρ j = some y ∧ y.block = some b := by
    intro j x b hj hb
    by_cases hjk : j = k
    · subst hjk
      rw [upd_same] at hj
      injection hj with hj
      subst hj
      exact ⟨_, hg, hb⟩
    · rw [upd_other _ _ hjk] at hj; exact ⟨x, hj, hb⟩
  have hG : ∀ b, E.good w ρ b → E.good w (upd ρ k (some (.hdr t hv))) b := fun b ⟨h0, hlt, hno⟩ => ⟨h0, hlt, fun j y hj hy => by
    obtain ⟨z, hz, hzb⟩ := hsub j y b hj hy
    exact hno j z hz hzb⟩
  have leaf : ∀ x v, x.isName = true → R w (E.good w ρ) ρ x v → R w (E.good w (upd ρ k (some (.hdr t hv)))) (upd ρ k (some (.hdr t hv))) (stampG k s t x) v := by
    intro x v hx hxv
    cases hxv with
    | ptr hj =>
      refine .ptr ((upd_other _ _ fun e => ?_).trans hj)
      subst e
      rw [hg] at hj; injection hj with hj; cases hj
    | mp hj =>
      refine .mp ((upd_other _ _ fun e => ?_).trans hj)
      subst e
      rw [hg] at hj; injection hj with hj; cases hj
    | @vptr _ j s' sz' i off g n' cap hj hi =>
      simp only [stampG]
      cases hb : Nat.beq j k with
      | false =>
        simp only [cond_false]
        exact .vptr ((upd_other _ _ fun e => by subst e; simp at hb).trans hj) hi
      | true =>
        have := Nat.eq_of_beq_eq_true hb
        subst this
        rw [hg] at hj
        injection hj with hj
        injection hj with h1 h2
        subst h1 h2
        simp only [cond_true]
        cases hb2 : Nat.beq s s with
        | true => simp only [cond_true]; exact .vptr (upd_same _ _ _) hi
        | false => exact .junk
    | @vptrOld _ j s1 s2 sz' i off hv' v' hj hlt =>
      simp only [stampG]
      cases hb : Nat.beq j k with
      | false =>
        simp only [cond_false]
        exact .vptrOld ((upd_other _ _ fun e => by subst e; simp at hb).trans hj) hlt
      | true =>
        have := Nat.eq_of_beq_eq_true hb
        subst this
        rw [hg] at hj
        injection hj with hj
        injection hj with h1 h2
        subst h1
        simp only [cond_true]
        cases hb2 : Nat.beq s1 s with
        | true => have := Nat.eq_of_beq_eq_true hb2; omega
        | false => exact .junk
    | @vec _ j s' hv' hj =>
      simp only [stampG]
      cases hb : Nat.beq j k with
      | false =>
        simp only [cond_false]
        exact .vec ((upd_other _ _ fun e => by subst e; simp at hb).trans hj)
      | true =>
        have := Nat.eq_of_beq_eq_true hb
        subst this
        rw [hg] at hj
        injection hj with hj
        injection hj with h1 h2
        subst h1 h2
        simp only [cond_true]
        cases hb2 : Nat.beq s s with
        | true => simp only [cond_true]; exact .vec (upd_same _ _ _)
        | false => exact .junk
    | @vecOld _ j s1 s2 hv' v' hj hlt =>
      simp only [stampG]
      cases hb : Nat.beq j k with
      | false =>
        simp only [cond_false]
        exact .vecOld ((upd_other _ _ fun e => by subst e; simp at hb).trans hj) hlt
      | true =>
        have := Nat.eq_of_beq_eq_true hb
        subst this
        rw [hg] at hj
        injection hj with hj
        injection hj with h1 h2
        subst h1
        simp only [cond_true]
        cases hb2 : Nat.beq s1 s with
        | true => have := Nat.eq_of_beq_eq_true hb2; omega
        | false => exact .junk
    | junk => cases hx
    | c => cases hx
    | agg => cases hx
    | tup => cases hx
    | rptr => cases hx
    | rs => cases hx
    | fn => cases hx
    | gd => cases hx
  refine ⟨upd ρ k (some (.hdr t hv)), h.conv rfl (fun _ => rfl) leaf (fun j o hj => ?_) (fun j hj => ?_) hsub (fun j hj x hx => ?_)⟩
  · by_cases hjk : j = k
    · subst hjk
      simp only [ST.stamp, upd_same] at hj
      injection hj with hj
      subst hj
      exact ⟨hv, xs, upd_same _ _ _, hown, hf, fun i j x hi hx => (hr i j x hi hx).tr (fun b hb => ⟨hG b hb, rfl⟩) _ (Le.refl _)⟩
    · simp only [ST.stamp, upd_other _ _ hjk, Option.map_eq_some_iff] at hj
      obtain ⟨o', ho', rfl⟩ := hj
      exact (h.ob j o' ho').map hG leaf (upd_other _ _ hjk)
  · by_cases hjk : j = k
    · subst hjk; simp only [ST.stamp, upd_same] at hj; cases hj
    · simp only [ST.stamp, upd_other _ _ hjk, Option.map_eq_none_iff] at hj
      rw [upd_other _ _ hjk]; exact h.no j hj
  · by_cases hjk : j = k
    · subst hjk
      have hlt : s ≤ t := by
        simp only [Bool.or_eq_true] at hs
        rcases hs with h1 | h1
        · have := Nat.le_of_ble_eq_true h1; omega
        · exact Nat.le_of_ble_eq_true h1
      rw [upd_same]
      rcases h.le j hj x hx with h1 | ⟨s1, v1, s2, v2, h1, h2, h3⟩
      · rw [hg] at h1
        injection h1 with h1
        subst h1
        by_cases he : s = t
        · subst he; exact .inl rfl
        · exact .inr ⟨s, hv, t, hv, rfl, rfl, by omega⟩
      · rw [hg] at h2
        injection h2 with h2
        injection h2 with h2 h4
        subst h2
        exact .inr ⟨s1, v1, t, hv, h1, rfl, by omega⟩
    · rw [upd_other _ _ hjk]; exact h.le j hj x hx
/-- What follows from a state, the objects that are left lying where they lay. -/
def Sub (E : Env) (st st' : ST) : Prop := ∀ a w ρ, SatR E st a w ρ → ∃ ρ', SatR E st' a w ρ' ∧ ∀ k x, ρ' k = some x → ρ k = some x
theorem Sub.weak {st' : ST} (h : Sub E st st') : Weak E st st' := fun a w ⟨ρ, hs⟩ =>
  let ⟨ρ', h1, _⟩ := h a w ρ hs
  ⟨ρ', h1⟩
theorem Sub.refl (E : Env) (st : ST) : Sub E st st := fun a w ρ h => ⟨ρ, h, fun _ _ h => h⟩
theorem Sub.trans {s1 s2 s3 : ST} (h : Sub E s1 s2) (h' : Sub E s2 s3) : Sub E s1 s3 := fun a w ρ hs =>
  let ⟨_, h1, h2⟩ := h a w ρ hs
  let ⟨ρ'', h3, h4⟩ := h' a w _ h1
  ⟨ρ'', h3, fun k x hx => h2 k x (h4 k x hx)⟩
/-- Row k, at stamp s, is frozen. -/
def frozenG (k s sz n : Nat) (f : Nat → List AV) : AV → AV
  | .vec j s' => bif Nat.beq j k then (bif Nat.beq s' s then .rs sz n f else .junk) else .vec j s'
  | .vptr j s' sz i off => bif Nat.beq j k then .junk else .vptr j s' sz i off
  | .ptr j off => .ptr j off
  | x => x
def ST.frozen (st : ST) (k s sz n : Nat) (f : Nat → List AV) : ST := { st with fr := fun j => (st.fr j).map (frozenG k s sz n f), ob := upd (fun j => (st.ob j).map (Ob.map (frozenG k s sz n f))) k none }
theorem Sub.frozen {k e sz s n m : Nat} {f : Nat → List AV} (hN : E.N = m) (hk : st.ob k = some (.vec e sz s n f)) (hs : Nat.ble m k = true) : Sub E st (st.frozen k s sz n f) := by
  intro a w ρ h
  obtain ⟨hv, xs, hg, hown, hf, hr⟩ := h.ob k _ hk
  have hsub : ∀ j x b, upd ρ k none j = some x → x.block = some b → j ≠ k ∧ ρ j = some x := by
    intro j x b hj hb
    by_cases hjk : j = k
    · subst hjk; rw [upd_same] at hj; cases hj
    · rw [upd_other _ _ hjk] at hj; exact ⟨hjk, hj⟩
  have hG : ∀ b, E.good w ρ b → E.good w (upd ρ k none) b := fun b ⟨h0, hlt, hno⟩ => ⟨h0, hlt, fun j y hj hy => hno j y (hsub j y b hj hy).2 hy⟩
  have leaf : ∀ x v, x.isName = true → R w (E.good w ρ) ρ x v → R w (E.good w (upd ρ k none)) (upd ρ k none) (frozenG k s sz n f x) v := by
    intro x v hx hxv
    cases hxv with
    | ptr hj =>
      refine .ptr ((upd_other _ _ fun e => ?_).trans hj)
      subst e
      rw [hg] at hj; injection hj with hj; cases hj
    | mp hj =>
      refine .mp ((upd_other _ _ fun e => ?_).trans hj)
      subst e
      rw [hg] at hj; injection hj with hj; cases hj
    | @vptr _ j s' sz' i off g n' cap hj hi =>
      simp only [frozenG]
      cases hb : Nat.beq j k with
      | false => exact .vptr ((upd_other _ _ fun e => by subst e; simp at hb).trans hj) hi
      | true => exact .junk
    | @vptrOld _ j s1 s2 sz' i off hv' v' hj hlt =>
      simp only [frozenG]
      cases hb : Nat.beq j k with
      | false => exact .vptrOld ((upd_other _ _ fun e => by subst e; simp at hb).trans hj) hlt
      | true => exact .junk
    | @vec _ j s' hv' hj =>
      simp only [frozenG]
      cases hb : Nat.beq j k with
      | false => exact .vec ((upd_other _ _ fun e => by subst e; simp at hb).trans hj)
      | true =>
        have := Nat.eq_of_beq_eq_true hb
        subst this
        rw [hg] at hj
        injection hj with hj
        injection hj with h1 h2
        subst h1 h2
        simp only [cond_true]
        cases hb2 : Nat.beq s s with
        | false => exact .junk
        | true =>
          simp only [cond_true]
          obtain ⟨hxl, hcase⟩ := hown
          rcases hcase with ⟨rfl, rfl⟩ | ⟨g, cap, cur, rfl, _, hh, hnc, hm, hsz, htake⟩
          · exact .rs (fun _ _ => undef) (Nat.le_refl _) (Nat.zero_le _) (fun h0 => absurd h0 (by omega)) hf (fun i j x hi => absurd hi (by omega))
          · have hidx : ∀ i q, i < n → q < sz → i * sz + q < n * sz := by
              intro i q hi hq
              have : (i + 1) * sz ≤ n * sz := Nat.mul_le_mul_right sz hi
              rw [Nat.add_mul] at this; omega
            refine .rs (fun i q => xs.getD (i * sz + q) undef) hnc hm (fun _ => ⟨_, rfl, ⟨?_, ?_, ?_⟩, fun i q hi hq => ?_⟩) hf (fun i q x hi hx => (hr i q x hi hx).tr (fun b hb => ⟨hG b hb, rfl⟩) _ (Le.refl _))
            · exact .inr (h.own j _ g hg rfl)
            · exact h.lt hg rfl
            · intro j' y hj' hy
              obtain ⟨hne, hj2⟩ := hsub j' y g hj' hy
              exact hne (h.dis j' j y _ g hj2 hg hy rfl)
            · have hlt := hidx i q hi hq
              have hlc : i * sz + q < cur.size := by
                have := Nat.mul_le_mul_right sz hnc
                omega
              have hv : xs.getD (i * sz + q) undef = cur[i * sz + q] := by
                rw [← htake]
                simp [List.getD, hlt, hlc]
              rw [hv]
              rw [Addr.add_lit, Nat.zero_add]
              simp [World.cell?, hh, hlc]
    | @vecOld _ j s1 s2 hv' v' hj hlt =>
      simp only [frozenG]
      cases hb : Nat.beq j k with
      | false => exact .vecOld ((upd_other _ _ fun e => by subst e; simp at hb).trans hj) hlt
      | true =>
        have := Nat.eq_of_beq_eq_true hb
        subst this
        rw [hg] at hj
        injection hj with hj
        injection hj with h1 h2
        subst h1
        simp only [cond_true]
        cases hb2 : Nat.beq s1 s with
        | true => have := Nat.eq_of_beq_eq_true hb2; omega
        | false => exact .junk
    | junk => cases hx
    | c => cases hx
    | agg => cases hx
    | tup => cases hx
    | rptr => cases hx
    | rs => cases hx
    | fn => cases hx
    | gd => cases hx
  refine ⟨upd ρ k none, h.conv rfl (fun _ => rfl) leaf (fun j o hj => ?_) (fun j hj => ?_) (fun j x b hj hb => ⟨x, (hsub j x b hj hb).2, hb⟩) (fun j hj x hx => ?_), fun j x hj => ?_⟩
  · by_cases hjk : j = k
    · subst hjk; simp only [ST.frozen, upd_same] at hj; cases hj
    · simp only [ST.frozen, upd_other _ _ hjk, Option.map_eq_some_iff] at hj
      obtain ⟨o', ho', rfl⟩ := hj
      exact (h.ob j o' ho').map hG leaf (upd_other _ _ hjk)
  · by_cases hjk : j = k
    · subst hjk; rw [upd_same]
    · simp only [ST.frozen, upd_other _ _ hjk, Option.map_eq_none_iff] at hj
      rw [upd_other _ _ hjk]; exact h.no j hj
  · have : j ≠ k := fun e => by
      subst e
      have := Nat.le_of_ble_eq_true hs
      omega
    rw [upd_other _ _ this]; exact h.le j hj x hx
  · by_cases hjk : j = k
    · subst hjk; rw [upd_same] at hj; cases hj
    · rw [upd_other _ _ hjk] at hj; exact hj
theorem Weak.frozen {k e sz s n m : Nat} {f : Nat → List AV} (hN : E.N = m) (hk : st.ob k = some (.vec e sz s n f)) (hs : Nat.ble m k = true) : Weak E st (st.frozen k s sz n f) := (Sub.frozen hN hk hs).weak
/-- A nil slice in slot j, taken as an own row without elements. -/
theorem Weak.ghost {j k e sz : Nat} {f : Nat → List AV} (hj : st.fr j = .c (.slice none 0 0)) (hk : st.ob k = none) : Weak E st { st with fr := upd st.fr j (.vec k 0), ob := upd st.ob k (some (.vec e sz 0 0 f)) } := by
  intro a w ⟨ρ, h⟩
  have hn := h.no k hk
  have hu : ∀ i x b, upd ρ k (some (.hdr 0 (.slice none 0 0))) i = some x → x.block = some b → ρ i = some x := by
    intro i x b hi hb
    by_cases hik : i = k
    · subst hik; rw [upd_same] at hi; injection hi with hi; subst hi; cases hb
    · rwa [upd_other _ _ hik] at hi
  have hl : Le ρ (upd ρ k (some (.hdr 0 (.slice none 0 0)))) := by
    intro i x hi
    by_cases hik : i = k
    · subst hik; rw [hn] at hi; cases hi
    · rw [upd_other _ _ hik]; exact .inl hi
  have hG : ∀ b, E.good w ρ b → E.good w (upd ρ k (some (.hdr 0 (.slice none 0 0)))) b ∧ w.heap[b]? = w.heap[b]? := fun b ⟨h0, hlt, hno⟩ => ⟨⟨h0, hlt, fun i y hi hy => hno i y (hu i y b hi hy) hy⟩, rfl⟩
  refine ⟨upd ρ k (some (.hdr 0 (.slice none 0 0))), h.keep, h.tsz, h.dfr.tr hG, fun i => ?_, fun i o hi => ?_, fun i hi => ?_, fun i i' y y' b hi hi' hy hy' => h.dis i i' y y' b (hu i y b hi hy) (hu i' y' b hi' hy') hy hy', fun i y b hi hy => h.own i y b (hu i y b hi hy) hy, fun i hi x hx => ?_⟩
  · by_cases hij : i = j
    · subst hij
      have := (hj ▸ h.fr i : R w _ ρ (.c (.slice none 0 0)) _).c_inv
      simp only [upd_same]
      rw [this]
      exact .vec (upd_same _ _ _)
    · simp only [upd_other _ _ hij]
      exact (h.fr i).tr hG _ hl
  · by_cases hik : i = k
    · subst hik
      simp only [upd_same] at hi
      injection hi with hi
      subst hi
      exact ⟨.slice none 0 0, [], upd_same _ _ _, ⟨by simp, .inl ⟨rfl, rfl⟩⟩, (fun i hi => absurd hi (by omega)), fun i j x hi => absurd hi (by omega)⟩
    · simp only [upd_other _ _ hik] at hi
      exact (h.ob i o hi).tr hG hl (upd_other _ _ hik) fun _ _ _ _ => rfl
  · by_cases hik : i = k
    · subst hik; simp only [upd_same] at hi; cases hi
    · simp only [upd_other _ _ hik] at hi ⊢; exact h.no i hi
  · rcases h.le i hi x hx with h1 | ⟨s, v, s', v', h1, h2, h3⟩
    · exact hl i x h1
    · rcases hl i _ h2 with h4 | ⟨s1, v1, s2, v2, h4, h5, h6⟩
      · exact .inr ⟨s, v, s', v', h1, h4, h3⟩
      · injection h4 with h4 h7
        exact .inr ⟨s, v, s2, v2, h1, h5, by omega⟩
theorem XL.weak {ops : Array Oper} {l : List Oper} {st' : ST} (hw : Weak E st st') (h : XL E ops Q l st') : XL E ops Q l st := fun a w hs => h a w (hw a w hs)
theorem XK.weak {c : Code} {st' : ST} (hw : Weak E st st') (h : XK E (.code c :: k) Q st') : XK E (.code c :: k) Q st := XQ.weak hw h
/-- A fact of every world that realises the state. -/
theorem XK.fact {c : Code} {p : Prop} (hp : ∀ a w, Sat E st a w → p) (h : p → XK E (.code c :: k) Q st) : XK E (.code c :: k) Q st := fun a w hs => h (hp a w hs) a w hs
theorem Sat.rs_len {j sz n : Nat} {f : Nat → List AV} (hj : st.fr j = .rs sz n f) : ∀ a w, Sat E st a w → n ≤ 9223372036854775807 ∧ ∀ i, i < n → (f i).length = sz := by
  intro a w ⟨ρ, h⟩
  have := hj ▸ h.fr j
  generalize a.tmps.getD j undef = v at this
  cases this with
  | rs val hn hm hc hl h => exact ⟨Nat.le_trans hn hm, hl⟩
theorem Sat.vec_len {j e sz s n : Nat} {f : Nat → List AV} (hj : st.ob j = some (.vec e sz s n f)) : ∀ a w, Sat E st a w → n ≤ 9223372036854775807 ∧ ∀ i, i < n → (f i).length = sz := by
  intro a w ⟨ρ, h⟩
  obtain ⟨hv, xs, hg, hown, hf, hr⟩ := h.ob j _ hj
  refine ⟨?_, hf⟩
  rcases hown.2 with ⟨_, rfl⟩ | ⟨g, cap, cur, _, _, _, hnc, hm, _⟩
  · exact Nat.zero_le _
  · exact Nat.le_trans hnc hm
end
/-- Arguments that say less. -/
theorem Does.arg {P : Program} {f : FuncId} {args args' : List AV} {res : AV} (h : Does P f args' res) (hl : args.length = args'.length) (ha : ∀ (i : Nat) (x y : AV), args[i]? = some x → args'[i]? = some y → AvIs x y) : Does P f args res := by
  refine ⟨h.1, fun w G vs hs hG hr => h.2 w G vs (hs.trans hl) hG fun i y hy => ?_⟩
  have hi : i < args.length := by rw [hl]; exact (List.getElem?_eq_some_iff.1 hy).1
  exact (ha i _ y (List.getElem?_eq_getElem hi) hy).ok (hr i _ (List.getElem?_eq_getElem hi))
end Go.Eng
end
section
/- The engine, part S: calls, where the state is written out. -/
namespace Go.Eng
def AvIsL : List AV → List AV → Prop
  | [], [] => True
  | [x], [y] => AvIs x y
  | x :: l, y :: l' => AvIs x y ∧ AvIsL l l'
  | _, _ => False
theorem AvIsL.at : ∀ {l l' : List AV}, AvIsL l l' → l.length = l'.length ∧ ∀ (i : Nat) (x y : AV), l[i]? = some x → l'[i]? = some y → AvIs x y
  | [], [], _ => ⟨rfl, fun i x y h => by simp at h⟩
  | [x], [y], h => ⟨rfl, fun i x' y' h1 h2 => by
    match i with
    | 0 => simp at h1 h2; subst h1 h2; exact h
    | i + 1 => simp at h1⟩
  | x :: x2 :: l, y :: y2 :: l', h => by
    obtain ⟨h1, h2⟩ := AvIsL.at (l := x2 :: l) (l' := y2 :: l') h.2
    refine ⟨by simpa using h1, fun i x' y' g1 g2 => ?_⟩
    match i with
    | 0 => simp at g1 g2; subst g1 g2; exact h.1
    | i + 1 => exact h2 i x' y' (by simpa using g1) (by simpa using g2)
  | [x], y :: y2 :: l', h => False.elim h.2
  | x :: x2 :: l, [y], h => by
    have := h.2
    cases l <;> simp [AvIsL] at this
section
variable {E : Env} {Q : Exit → ST → Prop} {ops : Array Oper} {o : Oper} {rest : List Oper} {f d : Nat} {args args1 args' : List AV} {res : AV} {fr : Nat → AV} {ob : Nat → Option Ob} {nx nt : Nat} {md : Nat → Bool} {P : Program} {k : List It} {tr0 : List (EffM × (List Nat × List Nat))}
theorem XK.out {T : TE} {rs : List ResultVar} {x x' : AV} (h : retF T ⟨fr, ob, nx, nt, md⟩ rs = some x) (hf : frc x = some x') (hk : x'.ks (fun _ => false) = true) (he : x' = res) : XK E (.code .ret :: k) (RetQ T rs res) ⟨fr, ob, nx, nt, md⟩ := XK.ret (RetQ.ret h (frc_eq hf ▸ hk) (frc_eq hf ▸ he))
theorem XK.outN {T : TE} {rs : List ResultVar} {x x' : AV} (h : retF T ⟨fr, ob, nx, nt, md⟩ rs = some x) (hf : frc x = some x') (hk : x'.ks (fun _ => false) = true) (he : x' = res) : XK E [] (RetQ T rs res) ⟨fr, ob, nx, nt, md⟩ := XK.nil (RetQ.normal h (frc_eq hf ▸ hk) (frc_eq hf ▸ he))
theorem XK.outL {T : TE} {rs : List ResultVar} {x x' : AV} (h : retF T ⟨fr, ob, nx, nt, md⟩ rs = some x) (hf : frc x = some x') (hk : x'.ks (fun _ => false) = true) (he : AvIs x' res) : XK E (.code .ret :: k) (RetQ T rs res) ⟨fr, ob, nx, nt, md⟩ := by
  have e := frc_eq hf
  subst e
  exact XK.ret ⟨.inr rfl, _, h, hk, he⟩
theorem XK.outLN {T : TE} {rs : List ResultVar} {x x' : AV} (h : retF T ⟨fr, ob, nx, nt, md⟩ rs = some x) (hf : frc x = some x') (hk : x'.ks (fun _ => false) = true) (he : AvIs x' res) : XK E [] (RetQ T rs res) ⟨fr, ob, nx, nt, md⟩ := by
  have e := frc_eq hf
  subst e
  exact XK.nil ⟨.inl rfl, _, h, hk, he⟩
theorem XL.fin (h : XK E k Q ⟨fr, ob, nx + nt, nt, md⟩) : XL E ops (XQ E k Q) [] ⟨fr, ob, nx, nt, md⟩ := XL.nil h
theorem XD.fin (hc : checkD [] [] ops.toList tr0 = true) (h : XK E k Q ⟨fr, ob, nx + nt, nt, md⟩) : XD E ops Q k tr0 [] ⟨fr, ob, nx, nt, md⟩ := XD.nil hc h
/-- A call that only looks at what is lent, and hands back no memory. -/
theorem XL.callL (hE : E.P = P) (hc : callF ⟨fr, ob, nx, nt, md⟩ o.op = some (f, args)) (hg : o.guard = none) (hds : o.dst = some d) (hd : Nat.blt d nt = true) (ho : AllP (o.op.operands.toList.flatMap (fun x => oblG none (ST.ev ⟨fr, ob, nx, nt, md⟩ x))))
    (hfa : frcL (AV.lendL ob args) = some args1) (hP : Does P f args' res) (ha : AvIsL args1 args') (hfl : res.flat = true) (h : XL E ops Q rest ⟨upd fr d res, ob, nx, nt, md⟩) : XL E ops Q (o :: rest) ⟨fr, ob, nx, nt, md⟩ := by
  have h1 := frcL_eq hfa
  refine XL.call hc hg (by simp [dstOk, hds, hd]) ho (hE ▸ Does.arg hP ha.at.1 ha.at.2) (.inl ⟨h1.symm, hfl⟩) ?_
  rw [hds]; exact h
/-- A call with nothing of the call's own among its arguments. -/
theorem XL.callK (hE : E.P = P) (hc : callF ⟨fr, ob, nx, nt, md⟩ o.op = some (f, args)) (hg : o.guard = none) (hds : o.dst = some d) (hd : Nat.blt d nt = true) (ho : AllP (o.op.operands.toList.flatMap (fun x => oblG none (ST.ev ⟨fr, ob, nx, nt, md⟩ x))))
    (hfa : frcL args = some args1) (hks : AV.ksL (fun _ => false) args1 = true) (hP : Does P f args' res) (ha : AvIsL args1 args') (h : XL E ops Q rest ⟨upd fr d res, ob, nx, nt, md⟩) : XL E ops Q (o :: rest) ⟨fr, ob, nx, nt, md⟩ := by
  have h1 := frcL_eq hfa
  subst h1
  refine XL.call hc hg (by simp [dstOk, hds, hd]) ho (hE ▸ Does.arg hP ha.at.1 ha.at.2) (.inr ⟨rfl, hks⟩) ?_
  rw [hds]; exact h
theorem XL.callLG {j : Nat} {pol g : Bool} (hE : E.P = P) (hc : callF ⟨fr, ob, nx, nt, md⟩ o.op = some (f, args)) (hg : o.guard = some (j, pol)) (hgv : gval ⟨fr, ob, nx, nt, md⟩ ops.toList j pol = some g) (hds : o.dst = some d) (hd : Nat.blt d nt = true) (hda : ops.toList.all (dstOk ⟨fun _ => .junk, fun _ => none, nx, nt, md⟩) = true)
    {obl' : List Prop} (hf : frcP (o.op.operands.toList.flatMap (fun x => oblG (some g) (ST.ev ⟨fr, ob, nx, nt, md⟩ x))) = some obl') (ho : AllP obl')
    (hfa : frcL (AV.lendL ob args) = some args1) (hP : g = true → Does P f args' res ∧ AvIsL args1 args') (hfl : res.flat = true) (h : XL E ops Q rest ⟨upd fr d (.gd g res), ob, nx, nt, md⟩) : XL E ops Q (o :: rest) ⟨fr, ob, nx, nt, md⟩ := by
  have h1 := frcL_eq hfa
  have ho := frcP_eq hf ▸ ho
  refine XL.callG (args' := args1) hc hg hgv (by simp [dstOk, hds, hd]) hda ho (fun e => hE ▸ Does.arg (hP e).1 (hP e).2.at.1 (hP e).2.at.2) (.inl ⟨h1.symm, hfl⟩) ?_
  rw [hds]; exact h
/-- The same in a region that draws. -/
theorem XD.callL (hE : E.P = P) (hc : callF ⟨fr, ob, nx, nt, md⟩ o.op = some (f, args)) (hg : o.guard = none) (hds : o.dst = some d) (hd : Nat.blt d nt = true) (ho : AllP (o.op.operands.toList.flatMap (fun x => oblG none (ST.ev ⟨fr, ob, nx, nt, md⟩ x))))
    (hfa : frcL (AV.lendL ob args) = some args1) (hP : Does P f args' res) (ha : AvIsL args1 args') (hfl : res.flat = true) (h : XD E ops Q k (tr0 ++ [(⟨res, []⟩, fpF ops.toList ⟨fr, ob, nx, nt, md⟩ o)]) rest ⟨upd fr d res, ob, nx, nt, md⟩) : XD E ops Q k tr0 (o :: rest) ⟨fr, ob, nx, nt, md⟩ := by
  have h1 := frcL_eq hfa
  refine XD.call hc hg (by simp [dstOk, hds, hd]) ho (hE ▸ Does.arg hP ha.at.1 ha.at.2) (.inl ⟨h1.symm, hfl⟩) ?_
  rw [hds]; exact h
theorem XD.callK (hE : E.P = P) (hc : callF ⟨fr, ob, nx, nt, md⟩ o.op = some (f, args)) (hg : o.guard = none) (hds : o.dst = some d) (hd : Nat.blt d nt = true) (ho : AllP (o.op.operands.toList.flatMap (fun x => oblG none (ST.ev ⟨fr, ob, nx, nt, md⟩ x))))
    (hfa : frcL args = some args1) (hks : AV.ksL (fun _ => false) args1 = true) (hP : Does P f args' res) (ha : AvIsL args1 args') (h : XD E ops Q k (tr0 ++ [(⟨res, []⟩, fpF ops.toList ⟨fr, ob, nx, nt, md⟩ o)]) rest ⟨upd fr d res, ob, nx, nt, md⟩) : XD E ops Q k tr0 (o :: rest) ⟨fr, ob, nx, nt, md⟩ := by
  have h1 := frcL_eq hfa
  subst h1
  refine XD.call hc hg (by simp [dstOk, hds, hd]) ho (hE ▸ Does.arg hP ha.at.1 ha.at.2) (.inr ⟨rfl, hks⟩) ?_
  rw [hds]; exact h
theorem XD.callKG {j : Nat} {pol g : Bool} (hE : E.P = P) (hc : callF ⟨fr, ob, nx, nt, md⟩ o.op = some (f, args)) (hg : o.guard = some (j, pol)) (hgv : gval ⟨fr, ob, nx, nt, md⟩ ops.toList j pol = some g) (hds : o.dst = some d) (hd : Nat.blt d nt = true) (hda : ops.toList.all (dstOk ⟨fun _ => .junk, fun _ => none, nx, nt, md⟩) = true)
    {obl' : List Prop} (hf : frcP (o.op.operands.toList.flatMap (fun x => oblG (some g) (ST.ev ⟨fr, ob, nx, nt, md⟩ x))) = some obl') (ho : AllP obl')
    (hfa : frcL args = some args1) (hks : AV.ksL (fun _ => false) args1 = true) (hP : g = true → Does P f args' res ∧ AvIsL args1 args') (hfl : res.flat = true) (h : XD E ops Q k (tr0 ++ [(⟨.gd g res, []⟩, fpF ops.toList ⟨fr, ob, nx, nt, md⟩ o)]) rest ⟨upd fr d (.gd g res), ob, nx, nt, md⟩) : XD E ops Q k tr0 (o :: rest) ⟨fr, ob, nx, nt, md⟩ := by
  have h1 := frcL_eq hfa
  have ho := frcP_eq hf ▸ ho
  subst h1
  refine XD.callG hc hg hgv (by simp [dstOk, hds, hd]) hda ho (fun e => hE ▸ Does.arg (hP e).1 (hP e).2.at.1 (hP e).2.at.2) hfl rfl hks ?_
  rw [hds]; exact h
end
end Go.Eng
end
